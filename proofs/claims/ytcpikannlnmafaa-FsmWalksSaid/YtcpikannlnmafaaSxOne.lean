/-
 The same with what is not known:what must hold for a function to go on,and what it gives. Over every program.
-/
import Derived.Test.YtcpikannlnmafaaAvTwo
import Derived.OrdersHeld
import Derived.ChangeArms
import Derived.DataReads
set_option linter.unusedVariables false
set_option linter.unusedSimpArgs false
section
set_option linter.unusedVariables false
set_option linter.unusedSimpArgs false
noncomputable section
namespace Go.Av
def AVal.un:AVal→AVal
 | .vt sz n f=>.vs sz (XW n f)
 |x=>x
theorem BD(sz n:Nat)(f:Nat→List AVal):(AVal.vt sz n f).un= .vs sz (XW n f):=rfl
theorem RelV.un[Syms]{ι:Inj}{x:AVal}{v:Value}(h:RelV ι x v):RelV ι x.un v:=by
 cases h with
 |vt sz n f v h=>exact h
 |any v=>exact .any v
 |bool b=>exact .bool b
 |int k n=>exact .int k n
 |str s=>exact .str s
 |nilp=>exact .nilp
 |ptr n k j L h=>exact .ptr n k j L h
 |nils=>exact .nils
 |slice n off len sz cap L a c h hs ha hl hp hm hc=>exact .slice n off len sz cap L a c h hs ha hl hp hm hc
 |agg cs vs hl h=>exact .agg cs vs hl h
 |tup cs vs hl h=>exact .tup cs vs hl h
 |func f cs vs hf hl h=>exact .func f cs vs hf hl h
 |bfunc f cs vs hl h=>exact .bfunc f cs vs hl h
 |nilf=>exact .nilf
 |nili=>exact .nili
 |iface t x v h=>exact .iface t x v h
 |obj n L h=>exact .obj n L h
 |tagp n t L h ht=>exact .tagp n t L h ht
 |tnils=>exact .tnils
 |tslice n len sz t L c h hs ht hl hp hm=>exact .tslice n len sz t L c h hs ht hl hp hm
 |sym n=>exact .sym n
 |vs sz rows g o c cs hf hl hm hp hr h1 h=>exact .vs sz rows g o c cs hf hl hm hp hr h1 h
 |vz sz a c hm hc=>exact .vz sz a c hm hc
 |vp row j g b cs hf hp h1 h=>exact .vp row j g b cs hf hp h1 h
 |zs sz a=>exact .zs sz a
theorem YC(n:Nat)(f:Nat→List AVal):(XW n f).length=n:=by simp[XW]
theorem I4{n:Nat}{f:Nat→List AVal}{i:Nat}(h:i<n):(XW n f).getD i []=f i:=by simp[XW,h]
theorem L6{n:Nat}{f:Nat→List AVal}{l h:Nat}(hh:h≤n):((XW n f).drop l).take (h-l)=XW (h-l) fun i=>f (l+i):=by
 apply List.ext_getElem?
 intro i
 rw[List.getElem?_take,List.getElem?_drop]
 unfold XW
 by_cases hi:i<h-l
 ·have:l+i<n:=by omega
  simp[hi,this]
 ·simp[hi]
def Res.sees[Syms]:Res→Res→Prop
 | .val v',.val v=>∀ι u,RelV ι v' u→RelV ι v u
 | .new b' v',.new b v=>b'=b∧ ∀ι u,RelV ι v' u→RelV ι v u
 | .upd h' v',.upd h v=>h'=h∧ ∀ι u,RelV ι v' u→RelV ι v u
 |_,_=>False
theorem Res.sees_refl[Syms](r:Res):r.sees r:=by
 cases r with
 |val v=>exact fun _ _ h=>h
 |new b v=>exact⟨rfl,fun _ _ h=>h⟩
 |upd h v=>exact⟨rfl,fun _ _ h=>h⟩
def asI:AVal→Int
 | .int _ n=>n
 |_=>0
def asB:AVal→Bool
 | .bool b=>b
 |_=>false
def asS:AVal→List UInt8
 | .str s=>s
 |_=>[]
def asR:AVal→List (List AVal)
 | .vs _ r=>r
 |_=>[]
def asZ:AVal→Nat
 | .vs z _=>z
 |_=>0
def isI(k:IntKind):AVal→Bool
 | .int k' _=>k == k'
 |_=>false
def isB:AVal→Bool
 | .bool _=>true
 |_=>false
def isS:AVal→Bool
 | .str _=>true
 |_=>false
def isV:AVal→Bool
 | .vs _ _=>true
 |_=>false
def isK:AVal→Bool
 | .any=>false
 |_=>true
def Ht(deep:Bool)(z c:AVal):AVal:=
 match z with
 | .int k _=>.int k (asI c)
 | .bool _=>.bool (asB c)
 | .str _=>.str (asS c)
 | .nils=>bif deep then .vs (asZ c) (asR c)else c
 |_=>c
def isC(deep:Bool)(z c:AVal):Bool:=
 match z with
 | .int k _=>isI k c
 | .bool _=>isB c
 | .str _=>isS c
 | .nils=>bif deep then isV c else isK c
 |_=>isK c
theorem BP[Syms]{deep:Bool}{z c:AVal}(h:isC deep z c=true):Ht deep z c=c∧c≠ .any:=by
 unfold isC at h
 unfold Ht
 split at h
 ·cases c with
  |int k n=>exact⟨by rw[eq_of_beq h];rfl,AVal.noConfusion⟩
  |_=>cases h
 ·cases c with
  |bool b=>exact⟨rfl,AVal.noConfusion⟩
  |_=>cases h
 ·cases c with
  |str s=>exact⟨rfl,AVal.noConfusion⟩
  |_=>cases h
 ·cases deep with
  |true=>
   cases c with
   |vs z r=>exact⟨rfl,AVal.noConfusion⟩
   |_=>cases h
  |false=>exact⟨rfl,fun e=>by subst e;cases h⟩
 ·exact⟨rfl,fun e=>by subst e;cases h⟩
def Kx(deep:Bool):List AVal→List AVal→Nat→List AVal
 |[],_,_=>[]
 |z::zs,row,j=>Ht deep z (row.getD j .any)::Kx deep zs row (j+1)
def HD(deep:Bool):List AVal→List AVal→Nat→Bool
 |[],_,_=>true
 |z::zs,row,j=>isC deep z (row.getD j .any)&&HD deep zs row (j+1)
theorem HG[Syms]{row:List AVal}{j:Nat}(h:row.getD j .any≠ .any):j<row.length∧row[j]?=some (row.getD j .any):=by
 rcases Nat.lt_or_ge j row.length with h'|h'
 ·exact⟨h',by simp[h']⟩
 ·exact absurd (by simp[h']) h
theorem Mi[Syms]{deep:Bool}:∀{zs row:List AVal} {j:Nat},HD deep zs row j=true→Kx deep zs row j=(row.drop j).take zs.length∧(zs≠[]→j+zs.length≤row.length)
 |[],row,j,_=>⟨by simp[Kx],fun h=>absurd rfl h⟩
 |z::zs,row,j,h=>by
  simp only[HD,Bool.and_eq_true]at h
  obtain⟨h1,h2⟩:=BP h.1
  obtain⟨h3,h4⟩:=HG h2
  obtain⟨h5,h6⟩:=Mi h.2
  refine⟨?_,fun _=>?_⟩
  ·simp only[Kx,h1,h5,List.length_cons]
   rw[List.drop_eq_getElem_cons h3,List.take_succ_cons]
   simp[h3]
  ·rw[List.length_cons]
   cases zs with
   |nil=>simp;omega
   |cons z' zs'=>have:=h6 (by simp);simp at this ⊢;omega
def Cf(n:Nat):Bool:=Nat.blt n 65536&&Nat.beq (n%2) 1
def B9(ty:Ty)(deep:Bool)(row:List AVal)(j:Nat)(K:AVal→Prop):Prop:=
 match WV ty.kd with
 |true=>match ty.zero with
  | .agg zs=>bif Nat.beq zs.length ty.size&&Nat.blt 0 ty.size then HD deep zs row j=true∧K (.agg (Kx deep zs row j))else False
  |_=>False
 |false=>isC deep ty.zero (row.getD j .any)=true∧K (Ht deep ty.zero (row.getD j .any))
def LK(tt:TT)(H:Heap)(t:TypeId)(x:AVal)(K:AVal→Prop):Prop:=
 match tt t with
 |none=>False
 |some ty=>
  match x with
  | .ptr n k j=>match H.get n with
    |some (.cells rows _)=>B9 ty (Cf n) (rows.getD k []) j K
    |_=>False
  | .vp row j=>B9 ty true row j K
  |_=>False
theorem KW[Syms]{ty:Ty}{deep:Bool}{row:List AVal}{j:Nat}{K:AVal→Prop}(h:B9 ty deep row j K):
 ∃v,(if WV ty.kd then(if j+ty.size≤row.length then some (.agg ((row.drop j).take ty.size))else none)else row[j]?)=some v∧K v∧row≠[]:=by
 unfold B9 at h
 split at h
 ·rename_i hk
  rw[hk]
  split at h
  ·rename_i zs hz
   cases hb:(Nat.beq zs.length ty.size&&Nat.blt 0 ty.size)with
   |false=>rw[hb]at h;exact h.elim
   |true=>
    rw[hb]at h
    simp only[cond_true]at h
    simp only[Bool.and_eq_true,Nat.blt_eq]at hb
    have hl:=Nat.eq_of_beq_eq_true hb.1
    obtain⟨h1,h2⟩:=Mi h.1
    have h3:=h2 (fun e=>by subst e;have:(0:Nat)=ty.size:=hl;omega)
    rw[h1,hl]at h
    refine⟨_,by simp only[if_true];rw[if_pos (by omega)],h.2,fun e=>by rw[e]at h3;have h3:j+zs.length≤0:=h3;omega⟩
  ·exact h.elim
 ·rename_i hk
  rw[hk]
  obtain⟨h1,h2⟩:=BP h.1
  obtain⟨h3,h4⟩:=HG h2
  rw[h1]at h
  exact⟨_,by simpa using h4,h.2,fun e=>by rw[e]at h3;simp at h3⟩
theorem C7[Syms]{tt:TT}{H:Heap}{t:TypeId}{x:AVal}{K:AVal→Prop}(h:LK tt H t x K):∃v,J7 tt H t x=some v∧K v:=by
 unfold LK at h
 split at h
 ·exact h.elim
 ·rename_i ty hty
  split at h
  ·rename_i n k j
   split at h
   ·rename_i rows ro hb
    obtain⟨v,h1,h2,h3⟩:=KW h
    refine⟨v,?_,h2⟩
    have hk:rows[k]?=some (rows.getD k []):=by
     rcases Nat.lt_or_ge k rows.length with h'|h'
     ·simp[h']
     ·exact absurd (by simp[h']) h3
    simp only[J7,hb,hty,hk]
    exact h1
   ·exact h.elim
  ·rename_i row j
   obtain⟨v,h1,h2,_⟩:=KW h
   exact⟨v,by simp only[J7,hty];exact h1,h2⟩
  ·exact h.elim
def CV(tt:TT)(H:Heap)(t:TypeId)(x v:AVal)(K:Res→Prop):Prop:=
 match tt t,x with
 |some ty,.ptr n k j=>match H.get n with
  |some (.cells rows false)=>
   bif Nat.beq v.cells.length ty.size&&Qw v.cells then(k<rows.length∧j+ty.size≤(rows.getD k []).length)∧K (.upd (H.set n (some (.cells (rows.set k (Qm (rows.getD k []) j v.cells)) false))) .any)else False
  |_=>False
 |_,_=>False
theorem DB[Syms]{tt:TT}{H:Heap}{t:TypeId}{x v:AVal}{K:Res→Prop}(h:CV tt H t x v K):∃H',JU tt H t x v=some H'∧K (.upd H' .any):=by
 unfold CV at h
 split at h
 ·rename_i ty n k j hty
  split at h
  ·rename_i rows hb
   cases hc:(Nat.beq v.cells.length ty.size&&Qw v.cells)with
   |false=>rw[hc]at h;exact h.elim
   |true=>
    rw[hc]at h
    simp only[cond_true]at h
    simp only[Bool.and_eq_true]at hc
    obtain⟨⟨h1,h2⟩,h3⟩:=h
    refine⟨_,?_,h3⟩
    have hk:rows[k]?=some (rows.getD k []):=by simp[h1]
    simp only[JU,hb,hty,hk]
    rw[if_pos ⟨Nat.eq_of_beq_eq_true hc.1,hc.2,h2⟩]
  ·exact h.elim
 ·exact h.elim
def Rh(x:Int)(K:Int→Prop):Prop:=(-9223372036854775808≤x∧x≤9223372036854775807)∧K x
def wrT(k:IntKind)(x:Int)(K:Int→Prop):Prop:=
 match k with
 | .i64=>Rh x K
 |k=>K (wr k x)
theorem I1[Syms]{k:IntKind}{x:Int}{K:Int→Prop}(h:wrT k x K):K (wr k x):=by
 unfold wrT at h
 split at h
 ·obtain⟨h1,h2⟩:=h
  have:wr .i64 x=x:=by
   unfold wr
   rw[if_pos]
   exact h1
  rw[this];exact h2
 ·exact h
def PG(tt:TT)(op:BinOp)(t:TypeId)(x y:AVal)(K:AVal→Prop):Prop:=
 match x,y with
 | .int k a,.int k' b=>
   match op with
   | .add=>bif k == k' then wrT k (a+b) fun z=>K (.int k z)else False
   | .sub=>bif k == k' then wrT k (a-b) fun z=>K (.int k z)else False
   | .mul=>bif k == k' then wrT k (a*b) fun z=>K (.int k z)else False
   | .quo=>bif k == k' then b≠0∧K (.int k (wr k (a.tdiv b)))else False
   | .rem=>bif k == k' then b≠0∧K (.int k (a.tmod b))else False
   | .shl=>0≤b∧K (.int k (wr k (a*2^min b.toNat k.bits)))
   | .shr=>0≤b∧K (.int k (a.fdiv (2^min b.toNat k.bits)))
   |op=>match Yn tt op t (.int k a) (.int k' b)with
    |some v=>K v
    |none=>False
 | .str s,.str u=>
   match op with
   | .add=>s.length+u.length≤9223372036854775807∧K (.str (s++u))
   |op=>match Yn tt op t (.str s) (.str u)with
    |some v=>K v
    |none=>False
 |x,y=>match Un tt op t x y with
  |some v=>K v
  |none=>False
theorem Wj{tt:TT}{op:BinOp}{t:TypeId}{x y v:AVal}(h:Yn tt op t x y=some v):Un tt op t x y=some v:=by
 unfold Un;rw[h]
theorem ET[Syms]{tt:TT}{op:BinOp}{t:TypeId}{x y:AVal}{K:AVal→Prop}(h:PG tt op t x y K):∃v,Un tt op t x y=some v∧K v:=by
 unfold PG at h
 split at h
 ·rename_i k a k' b
  split at h
  all_goals first
   |(cases hk:(k == k')with
      |false=>rw[hk]at h;exact h.elim
      |true=>
       rw[hk]at h
       simp only[cond_true]at h
       first
        |exact⟨_,Wj (by simp only[Yn,hk,if_true]),I1 h⟩
        |exact⟨_,Wj (by simp only[Yn,hk,if_true,if_neg h.1]),h.2⟩)
   |exact⟨_,Wj (by simp only[Yn,if_pos h.1]),h.2⟩
   |(split at h
     ·rename_i v hv
      exact⟨v,Wj hv,h⟩
     ·exact h.elim)
 ·rename_i s u
  split at h
  ·exact⟨_,Wj (by simp only[Yn,if_pos h.1]),h.2⟩
  ·split at h
   ·rename_i v hv
    exact⟨v,Wj hv,h⟩
   ·exact h.elim
 ·split at h
  ·rename_i v hv
   exact⟨v,hv,h⟩
  ·exact h.elim
def ZZ(x:Option AVal)(d:Nat)(K:Nat→Prop):Prop:=
 match x with
 |none=>K d
 |some (.int _ i)=>0≤i∧K i.toNat
 |some _=>False
theorem Zl{x:Option AVal}{d:Nat}{K:Nat→Prop}(h:ZZ x d K):∃n,Z7 x d=some n∧K n:=by
 unfold ZZ at h
 split at h
 ·exact⟨d,rfl,h⟩
 ·exact⟨_,by simp only[Z7,if_pos h.1],h.2⟩
 ·exact h.elim
def M0(tt:TT)(t:TypeId)(x:AVal)(lo hi mx:Option AVal)(K:AVal→Prop):Prop:=
 match tt t,x with
 |some ⟨.string,_,_,_⟩,.str s=>match mx with
  |none=>ZZ lo 0 fun l=>ZZ hi s.length fun h=>(l≤h∧h≤s.length)∧K (.str ((s.drop l).take (h-l)))
  |some _=>False
 |some ⟨.slice e,_,_,_⟩,.slice n off len sz cap=>
  match tt e with
  |some ety=>bif Nat.beq ety.size sz&&(!hi.isNone||mx.isNone)then
    ZZ lo 0 fun l=>ZZ hi len fun h=>ZZ mx len fun mm=>(l≤h∧h≤len∧h≤mm∧mm≤len)∧K (.slice n (off+l) (h-l) sz (match mx with|some _=>some (mm-l)|none=>cap.map (· -l)))
   else False
  |none=>False
 |some ⟨.slice e,_,_,_⟩,.vs sz rows=>
  match tt e with
  |some ety=>bif Nat.beq ety.size sz&&(!hi.isNone||mx.isNone)then
    match mx with
    |none=>ZZ lo 0 fun l=>ZZ hi rows.length fun h=>(l≤h∧h≤rows.length)∧K (.vs sz ((rows.drop l).take (h-l)))
    |some m=>ZZ lo 0 fun l=>ZZ hi rows.length fun h=>ZZ (some m) rows.length fun mm=>(l≤h∧h≤rows.length∧h≤mm∧mm≤rows.length∧l=0∧mm=0)∧K (.zs sz)
   else False
  |none=>False
 |_,_=>match Ym tt t x lo hi mx with
  |some v=>K v
  |none=>False
theorem Kr[Syms]{tt:TT}{t:TypeId}{x:AVal}{lo hi mx:Option AVal}{K:AVal→Prop}(h:M0 tt t x lo hi mx K):∃v,Ym tt t x lo hi mx=some v∧K v:=by
 unfold M0 at h
 split at h
 ·rename_i s hty
  split at h
  ·obtain⟨l,hl,h⟩:=Zl h
   obtain⟨hh,hhh,h1,h2⟩:=Zl h
   exact⟨_,by simp only[Ym,hty,hl,hhh,if_pos h1],h2⟩
  ·exact h.elim
 ·rename_i e _ _ _ n off len sz cap hty
  split at h
  ·rename_i ety hety
   cases hb:(Nat.beq ety.size sz&&(!hi.isNone||mx.isNone))with
   |false=>rw[hb]at h;exact h.elim
   |true=>
    rw[hb]at h
    simp only[cond_true]at h
    simp only[Bool.and_eq_true,Bool.or_eq_true,Bool.not_eq_true']at hb
    obtain⟨l,hl,h⟩:=Zl h
    obtain⟨hh,hhh,h⟩:=Zl h
    obtain⟨mm,hm,h1,h2⟩:=Zl h
    refine⟨_,?_,h2⟩
    unfold Ym
    simp only[hty,hl,hhh,hm,hety]
    rw[if_pos ⟨h1.1,h1.2.1,h1.2.2.1,h1.2.2.2,fun hn=>hb.2.resolve_left (by rw[hn];simp),Nat.eq_of_beq_eq_true hb.1⟩]
    rfl
  ·exact h.elim
 ·rename_i e _ _ _ sz rows hty
  split at h
  ·rename_i ety hety
   cases hb:(Nat.beq ety.size sz&&(!hi.isNone||mx.isNone))with
   |false=>rw[hb]at h;exact h.elim
   |true=>
    rw[hb]at h
    simp only[cond_true]at h
    simp only[Bool.and_eq_true,Bool.or_eq_true,Bool.not_eq_true']at hb
    split at h
    ·obtain⟨l,hl,h⟩:=Zl h
     obtain⟨hh,hhh,h1,h2⟩:=Zl h
     refine⟨_,?_,h2⟩
     have hm:Z7 none rows.length=some rows.length:=rfl
     simp only[Ym,hty,hl,hhh,hety,hm]
     rw[if_pos ⟨h1.1,h1.2,h1.2,Nat.le_refl _,fun _=>rfl,Nat.eq_of_beq_eq_true hb.1⟩]
    ·rename_i m
     obtain⟨l,hl,h⟩:=Zl h
     obtain⟨hh,hhh,h⟩:=Zl h
     obtain⟨mm,hm,⟨c1,c2,c3,c4,c5,c6⟩,h2⟩:=Zl h
     refine⟨_,?_,h2⟩
     simp only[Ym,hty,hl,hhh,hm,hety]
     rw[if_pos ⟨c1,c2,c3,c4,fun hn=>hb.2.resolve_left (by rw[hn];simp),Nat.eq_of_beq_eq_true hb.1⟩,if_pos ⟨c5,c6⟩]
  ·exact h.elim
 ·split at h
  ·rename_i v hv
   exact⟨v,hv,h⟩
  ·exact h.elim
theorem YO{x:Option AVal}{d:Nat}{K K':Nat→Prop}(hk:∀n,K n→K' n)(h:ZZ x d K):ZZ x d K':=by
 unfold ZZ at h ⊢
 split
 ·exact hk _ h
 ·exact⟨h.1,hk _ h.2⟩
 ·rename_i x hno
  cases x with
  |int k i=>exact absurd rfl (hno k i)
  |_=>exact h
def DC(tt:TT)(t:TypeId)(sz n:Nat)(f:Nat→List AVal)(lo hi mx:Option AVal)(K:AVal→Prop):Prop:=
 match tt t with
 |some ⟨.slice e,_,_,_⟩=>match tt e with
  |some ety=>bif Nat.beq ety.size sz&&(!hi.isNone||mx.isNone)then
    match mx with
    |none=>ZZ lo 0 fun l=>ZZ hi n fun h=>(l≤h∧h≤n)∧K (.vt sz (h-l) fun i=>f (l+i))
    |some m=>ZZ lo 0 fun l=>ZZ hi n fun h=>ZZ (some m) n fun mm=>(l≤h∧h≤n∧h≤mm∧mm≤n∧l=0∧mm=0)∧K (.zs sz)
   else False
  |none=>False
 |_=>False
theorem Fl[Syms]{tt:TT}{t:TypeId}{sz n:Nat}{f:Nat→List AVal}{lo hi mx:Option AVal}{K:AVal→Prop}(h:DC tt t sz n f lo hi mx K):∃v',Ym tt t (.vs sz (XW n f)) lo hi mx=some v'∧ ∃v,(∀ι u,RelV ι v' u→RelV ι v u)∧K v:=by
 have key:M0 tt t (.vs sz (XW n f)) lo hi mx fun v'=>∃v,(∀ι u,RelV ι v' u→RelV ι v u)∧K v:=by
  unfold DC at h
  split at h
  ·rename_i e b c z hty
   split at h
   ·rename_i ety hety
    unfold M0
    simp only[hty,hety]
    cases hb:(Nat.beq ety.size sz&&(!hi.isNone||mx.isNone))with
    |false=>rw[hb]at h;exact h.elim
    |true=>
     rw[hb]at h
     simp only[cond_true]at h ⊢
     cases mx with
     |none=>
      simp only[YC]at h ⊢
      refine YO (fun l h=>YO (fun hh h=>⟨h.1,_,fun ι u hu=>?_,h.2⟩) h) h
      rw[L6 h.1.2]at hu
      exact .vt _ _ _ _ hu
     |some m=>
      simp only[YC]at h ⊢
      exact YO (fun l h=>YO (fun hh h=>YO (fun mm h=>⟨h.1,_,fun ι u hu=>hu,h.2⟩) h) h) h
   ·exact h.elim
  ·exact h.elim
 exact Kr key
theorem Q03(x:Option AVal)(d:Nat):Z7 (x.map AVal.un) d=Z7 x d:=by
 cases x with
 |none=>rfl
 |some v=>cases v<;>rfl
def MH(tt:TT)(t:TypeId)(x ix:AVal)(K:AVal→Prop):Prop:=
 match tt t,x,ix with
 |some ⟨.slice e,_,_,_⟩,.slice n off len sz _,.int _ i=>match tt e with
  |some ety=>bif Nat.beq ety.size sz then(0≤i∧i<len)∧K (.ptr n (off+i.toNat) 0)else False
  |none=>False
 |some ⟨.slice e,_,_,_⟩,.vs sz rows,.int _ i=>match tt e with
  |some ety=>bif Nat.beq ety.size sz then(0≤i∧i<rows.length)∧K (.vp (rows.getD i.toNat []) 0)else False
  |none=>False
 |some ⟨.array len e,_,_,_⟩,.ptr n k j,.int _ i=>match tt e with
  |some ety=>(0≤i∧i<len)∧K (.ptr n k (j+i.toNat*ety.size))
  |none=>False
 |_,_,_=>False
theorem MG[Syms]{tt:TT}{t:TypeId}{x ix:AVal}{K:AVal→Prop}(h:MH tt t x ix K):∃v,ZI tt t x ix=some v∧K v:=by
 unfold MH at h
 split at h
 ·rename_i e _ _ _ n off len sz _ _ i hty
  split at h
  ·rename_i ety hety
   cases hb:Nat.beq ety.size sz with
   |false=>rw[hb]at h;exact h.elim
   |true=>
    rw[hb]at h
    simp only[cond_true]at h
    exact⟨_,by simp only[ZI,hty,hety,if_pos (And.intro h.1.1 (And.intro h.1.2 (Nat.eq_of_beq_eq_true hb)))],h.2⟩
  ·exact h.elim
 ·rename_i e _ _ _ sz rows _ i hty
  split at h
  ·rename_i ety hety
   cases hb:Nat.beq ety.size sz with
   |false=>rw[hb]at h;exact h.elim
   |true=>
    rw[hb]at h
    simp only[cond_true]at h
    exact⟨_,by simp only[ZI,hty,hety,if_pos (And.intro h.1.1 (And.intro h.1.2 (Nat.eq_of_beq_eq_true hb)))],h.2⟩
  ·exact h.elim
 ·rename_i hty
  split at h
  ·rename_i ety hety
   exact⟨_,by simp only[ZI,hty,hety,if_pos h.1],h.2⟩
  ·exact h.elim
 ·exact h.elim
def LQ(tt:TT)(t:TypeId)(sz n:Nat)(f:Nat→List AVal)(ix:AVal)(K:AVal→Prop):Prop:=
 match tt t,ix with
 |some ⟨.slice e,_,_,_⟩,.int _ i=>match tt e with
  |some ety=>bif Nat.beq ety.size sz then(0≤i∧i<n)∧K (.vp (f i.toNat) 0)else False
  |none=>False
 |_,_=>False
theorem Ci[Syms]{tt:TT}{t:TypeId}{sz n:Nat}{f:Nat→List AVal}{ix:AVal}{K:AVal→Prop}(h:LQ tt t sz n f ix K):ix.un=ix∧ ∃v,ZI tt t (.vs sz (XW n f)) ix=some v∧K v:=by
 unfold LQ at h
 split at h
 ·rename_i e _ _ _ _ i hty
  split at h
  ·rename_i ety hety
   cases hb:Nat.beq ety.size sz with
   |false=>rw[hb]at h;exact h.elim
   |true=>
    rw[hb]at h
    simp only[cond_true]at h
    obtain⟨⟨h1,h2⟩,h3⟩:=h
    refine⟨rfl,_,?_,h3⟩
    have h4:i<((XW n f).length:Nat):=by rw[YC];exact h2
    simp only[ZI,hty,hety,if_pos (And.intro h1 (And.intro h4 (Nat.eq_of_beq_eq_true hb)))]
    rw[I4 (by omega)]
  ·exact h.elim
 ·exact h.elim
def Ep(tt:TT)(t:TypeId)(x ix:AVal)(K:AVal→Prop):Prop:=
 match tt t,x,ix with
 |some ⟨.string,_,_,_⟩,.str s,.int _ i=>(0≤i∧i.toNat<s.length)∧K (.int .u8 (s.getD i.toNat 0).toNat)
 |_,x,ix=>match JY tt t x ix with
  |some v=>K v
  |none=>False
theorem DT[Syms]{tt:TT}{t:TypeId}{x ix:AVal}{K:AVal→Prop}(h:Ep tt t x ix K):∃v,JY tt t x ix=some v∧K v:=by
 unfold Ep at h
 split at h
 ·rename_i s _ i hty
  obtain⟨⟨h1,h2⟩,h3⟩:=h
  have:s[i.toNat]?=some (s.getD i.toNat 0):=by simp[h2]
  exact⟨_,by simp only[JY,hty,if_pos h1,this],h3⟩
 ·split at h
  ·rename_i v hv
   exact⟨v,hv,h⟩
  ·exact h.elim
def Vv(H:Heap)(x:AVal)(K:List (List AVal)→Nat→Prop):Prop:=
 match x with
 | .slice n off len _ _=>match H.get n with
   |some (.cells rows _)=>off+len≤rows.length∧K ((rows.drop off).take len) len
   |_=>False
 |x=>match QH H x with
  |some r=>K r r.length
  |none=>False
theorem V8[Syms]{H:Heap}{x:AVal}{K:List (List AVal)→Nat→Prop}(h:Vv H x K):∃r,QH H x=some r∧K r r.length:=by
 unfold Vv at h
 split at h
 ·split at h
  ·rename_i n off len sz cap _ rows ro hb
   refine⟨(rows.drop off).take len,by simp only[QH,hb,if_pos h.1],?_⟩
   have:((rows.drop off).take len).length=len:=by have:=h.1;simp;omega
   rw[this];exact h.2
  ·exact h.elim
 ·split at h
  ·rename_i r hr
   exact⟨r,hr,h⟩
  ·exact h.elim
def Iu(p a b:Prop):Prop:=(p→a)∧(¬p→b)
def Bm(z:Nat)(rows:List (List AVal)):Bool:=rows.all fun r=>Nat.beq r.length z
def GJ(tt:TT)(H:Heap)(m:Nat)(argTypes:Array TypeId)(s x:AVal)(K:Res→Prop):Prop:=
 match(argTypes[0]?).bind tt,(argTypes[1]?).bind tt with
 |some ⟨.slice e,_,_,_⟩,some xty=>match tt e with
  |some ety=>
   bif Hi xty.kd&&Nat.blt 0 ety.size&&Nat.beq ety.zero.cells.length ety.size&&Qw ety.zero.cells then
    Vv H x fun news nl=>Bm ety.size news=true∧
     (match s with
     | .zs sz=>Iu (nl=0) (K (.val (.zs sz))) ((nl*ety.bytes≤140737488355328∧nl≤140737488355328)∧K (.new (.cells news false) (.slice m 0 nl ety.size none)))
     | .nils=>Iu (nl=0) (K (.val .nils)) ((nl*ety.bytes≤140737488355328∧nl≤140737488355328)∧K (.new (.cells news false) (.slice m 0 nl ety.size none)))
     | .slice n off len sz cap=>
       bif Nat.beq sz ety.size then
        ((len+nl)*ety.bytes≤140737488355328∧len+nl≤140737488355328)∧
        Iu (nl=0) (K (.val (.slice n off len sz cap)))
         (match H.get n with
         |some (.cells rows ro)=>off+len≤rows.length∧
          (match cap with
          |some c=>Iu (c<len+nl) (K (.new (.cells ((rows.drop off).take len++news) false) (.slice m 0 (len+nl) sz none)))
            (off+len+nl≤rows.length∧(bif ro then False else K (.upd (H.set n (some (.cells (rows.take (off+len)++news++rows.drop (off+len+nl)) false))) (.slice n off (len+nl) sz cap))))
          |none=>bif ro then False else K (.upd ((H.set n none).set m (some (.cells ((rows.drop off).take len++news) false))) (.slice m 0 (len+nl) sz none)))
         |_=>False)
       else False
     | .tnils=>Iu (nl=0) (K (.val .tnils)) ((nl*ety.bytes≤140737488355328∧nl≤140737488355328)∧K (.new (.cells news false) (.tslice m nl ety.size e)))
     | .tslice n len sz t=>
       bif Nat.beq sz ety.size&&Nat.beq t e then
        ((len+nl)*ety.bytes≤140737488355328∧len+nl≤140737488355328)∧
        Iu (nl=0) (K (.val (.tslice n len sz t)))
         (match H.get n with
         |some (.cells rows ro)=>0+len≤rows.length∧(bif ro then False else K (.upd ((H.set n none).set m (some (.cells ((rows.drop 0).take len++news) false))) (.tslice m (len+nl) sz t)))
         |_=>False)
       else False
     |_=>False)
   else False
  |none=>False
 |_,_=>False
theorem UT[Syms]{tt:TT}{H:Heap}{m:Nat}{argTypes:Array TypeId}{s x:AVal}{K:Res→Prop}(h:GJ tt H m argTypes s x K):∃r,Jc tt H m argTypes s x=some r∧K r:=by
 unfold GJ at h
 split at h
 rotate_left
 ·exact h.elim
 rename_i e _ _ _ xty h0 h1
 obtain⟨t0,ht0,ht0'⟩:=Option.bind_eq_some_iff.1 h0
 split at h
 rotate_left
 ·exact h.elim
 rename_i ety hety
 cases hb:(Hi xty.kd&&Nat.blt 0 ety.size&&Nat.beq ety.zero.cells.length ety.size&&Qw ety.zero.cells)with
 |false=>rw[hb]at h;exact h.elim
 |true=>
 rw[hb]at h
 simp only[cond_true]at h
 simp only[Bool.and_eq_true,Nat.blt_eq]at hb
 obtain⟨⟨⟨b1,b2⟩,b3⟩,b4⟩:=hb
 have b3:=Nat.eq_of_beq_eq_true b3
 obtain⟨news,hnews,hall,h⟩:=V8 h
 have pre:(news.all fun r=>Nat.beq r.length ety.size)=true∧0<ety.size∧ety.zero.cells.length=ety.size∧Qw ety.zero.cells=true:=⟨hall,b2,b3,b4⟩
 unfold Jc
 simp only[ht0,ht0',hety,h1,b1,if_true,hnews]
 rw[if_pos pre]
 split at h
 ·by_cases hz:news.length=0
  ·replace h:=h.1 hz
   exact⟨_,by simp only[hz,if_true],h⟩
  ·replace h:=h.2 hz
   exact⟨_,by simp only[if_neg hz,if_pos h.1],h.2⟩
 ·by_cases hz:news.length=0
  ·replace h:=h.1 hz
   exact⟨_,by simp only[hz,if_true],h⟩
  ·replace h:=h.2 hz
   exact⟨_,by simp only[if_neg hz,if_pos h.1],h.2⟩
 ·rename_i n off len sz cap _
  cases hs:Nat.beq sz ety.size with
  |false=>rw[hs]at h;exact h.elim
  |true=>
   rw[hs]at h
   simp only[cond_true]at h
   obtain⟨hle,h⟩:=h
   have hs:=Nat.eq_of_beq_eq_true hs
   simp only[if_pos (And.intro hs hle)]
   by_cases hz:news.length=0
   ·replace h:=h.1 hz
    exact⟨_,by simp only[hz,if_true],h⟩
   ·replace h:=h.2 hz
    simp only[if_neg hz]
    split at h
    ·rename_i rows ro hg
     obtain⟨hol,h⟩:=h
     have hsr:QH H (.slice n off len sz cap)=some ((rows.drop off).take len):=by simp only[QH,hg,if_pos hol]
     simp only[hsr]
     cases cap with
     |some c=>
      simp only at h
      by_cases hc:c<len+news.length
      ·replace h:=h.1 hc
       exact⟨_,by simp only[if_pos hc],h⟩
      ·replace h:=h.2 hc
       simp only[if_neg hc]
       obtain⟨hr,h⟩:=h
       cases ro with
       |true=>exact h.elim
       |false=>exact⟨_,by simp only[hg,if_pos hr],h⟩
     |none=>
      simp only at h
      cases ro with
      |true=>exact h.elim
      |false=>exact⟨_,by simp only[hg],h⟩
    ·exact h.elim
 ·by_cases hz:news.length=0
  ·replace h:=h.1 hz
   exact⟨_,by simp only[hz,if_true],h⟩
  ·replace h:=h.2 hz
   exact⟨_,by simp only[if_neg hz,if_pos h.1],h.2⟩
 ·rename_i n len sz t _
  cases hs:(Nat.beq sz ety.size&&Nat.beq t e)with
  |false=>rw[hs]at h;exact h.elim
  |true=>
   rw[hs]at h
   simp only[cond_true]at h
   obtain⟨hle,h⟩:=h
   simp only[Bool.and_eq_true]at hs
   have hs1:=Nat.eq_of_beq_eq_true hs.1
   have hs2:=Nat.eq_of_beq_eq_true hs.2
   simp only[if_pos (And.intro hs1 (And.intro hs2 hle))]
   by_cases hz:news.length=0
   ·replace h:=h.1 hz
    exact⟨_,by simp only[hz,if_true],h⟩
   ·replace h:=h.2 hz
    simp only[if_neg hz]
    split at h
    ·rename_i rows ro hg
     obtain⟨hol,h⟩:=h
     have hsr:QH H (.slice n 0 len sz none)=some ((rows.drop 0).take len):=by simp only[QH,hg,if_pos hol]
     simp only[hsr]
     cases ro with
     |true=>exact h.elim
     |false=>exact⟨_,by simp only[hg],h⟩
    ·exact h.elim
 ·exact h.elim
def DV(v:AVal)(K:AVal→Prop):Prop:=
 match v with
 | .any=>K .any
 | .bool b=>K (.bool b)
 | .int k n=>K (.int k n)
 | .str s=>K (.str s)
 | .nilp=>K .nilp
 | .ptr n k j=>K (.ptr n k j)
 | .nils=>K .nils
 | .slice n off len sz cap=>K (.slice n off len sz cap)
 | .agg cs=>K (.agg cs)
 | .tup cs=>K (.tup cs)
 | .func f cs=>K (.func f cs)
 | .nilf=>K .nilf
 | .nili=>K .nili
 | .iface t v=>K (.iface t v)
 | .obj n=>K (.obj n)
 | .tagp n t=>K (.tagp n t)
 | .tnils=>K .tnils
 | .tslice n len sz t=>K (.tslice n len sz t)
 | .sym n=>K (.sym n)
 | .vs sz rows=>K (.vs sz rows)
 | .vp row j=>K (.vp row j)
 | .zs sz=>K (.zs sz)
 | .vt sz n f=>K (.vt sz n f)
theorem MK(v:AVal)(K:AVal→Prop):DV v K=K v:=by cases v<;>rfl
def VF(l:List AVal)(K:List AVal→Prop):Prop:=
 match l with
 |[]=>K []
 |x::l=>DV x fun x=>VF l fun l=>K (x::l)
theorem Yi:∀(l:List AVal) (K:List AVal→Prop),VF l K=K l
 |[],K=>rfl
 |x::l,K=>by simp only[VF,MK,Yi l]
end Go.Av
end
end
section
set_option linter.unusedVariables false
set_option linter.unusedSimpArgs false
noncomputable section
namespace Go.Av
def FX:List AVal→Bool
 |[.int .u8 _]=>true
 |_=>false
def Xl(rows:List (List AVal)):List UInt8:=rows.map fun r=>UInt8.ofNat (asI (r.getD 0 .any)).toNat
def J5(rows:List (List AVal)):Bool:=rows.all FX
theorem Ke:∀{rows:List (List AVal)},J5 rows=true→X4 rows=some (Xl rows)
 |[],_=>rfl
 |r::rows,h=>by
  simp only[J5,List.all_cons,Bool.and_eq_true]at h
  have ih:=Ke (rows:=rows) h.2
  have h1:JT r=some (UInt8.ofNat (asI (r.getD 0 .any)).toNat):=by
   have:=h.1
   unfold FX at this
   split at this
   ·rfl
   ·cases this
  simp only[X4,h1,ih]
  rfl
def Dz(H:Heap)(x:AVal)(K:AVal→Prop):Prop:=
 match x with
 | .nils=>K (.str [])
 | .slice n off len sz cap=>Vv H (.slice n off len sz cap) fun rows _=>J5 rows=true∧K (.str (Xl rows))
 | .vs _ rows=>J5 rows=true∧K (.str (Xl rows))
 |_=>False
def HO(tt:TT)(H:Heap)(m:Nat)(src dst:TypeId)(x:AVal)(K:Res→Prop):Prop:=
 match tt src,tt dst,x with
 |some ⟨.string,_,_,_⟩,some ⟨.slice e,_,_,_⟩,.str s=>match tt e with
  |some ⟨.int .u8,_,_,_⟩=>s.length≤140737488355328∧K (.new (.cells (s.map fun b=>[.int .u8 b.toNat]) false) (.slice m 0 s.length 1 none))
  |_=>False
 |some ⟨.slice e,_,_,_⟩,some ⟨.string,_,_,_⟩,.vs z rows=>match tt e with
  |some ⟨.int .u8,_,_,_⟩=>Dz H (.vs z rows) fun v=>K (.val v)
  |_=>False
 |some ⟨.slice e,_,_,_⟩,some ⟨.string,_,_,_⟩,.slice n off len sz cap=>match tt e with
  |some ⟨.int .u8,_,_,_⟩=>Dz H (.slice n off len sz cap) fun v=>K (.val v)
  |_=>False
 |_,_,_=>match YS tt H m src dst x with
  |some r=>K r
  |none=>False
theorem Gj[Syms]{tt:TT}{H:Heap}{m:Nat}{src dst:TypeId}{x:AVal}{K:Res→Prop}(h:HO tt H m src dst x K):∃r,YS tt H m src dst x=some r∧K r:=by
 unfold HO at h
 split at h
 ·rename_i s h1 h2
  split at h
  ·rename_i h3
   exact⟨_,by simp only[YS,h1,h2,h3,if_pos h.1],h.2⟩
  ·exact h.elim
 ·rename_i z rows h1 h2
  split at h
  ·rename_i h3
   simp only[Dz]at h
   exact⟨_,by simp only[YS,h1,h2,YT,h3,Ke h.1,Option.map_some],h.2⟩
  ·exact h.elim
 ·rename_i n off len sz cap h1 h2
  split at h
  ·rename_i h3
   simp only[Dz]at h
   obtain⟨rows,hr,h4,h5⟩:=V8 h
   exact⟨_,by simp only[YS,h1,h2,YT,h3,hr,Ke h4,Option.map_some],h5⟩
  ·exact h.elim
 ·split at h
  ·rename_i r hr
   exact⟨r,hr,h⟩
  ·exact h.elim
def GZ(b:Bool)(p q:Prop):Prop:=(b=true→p)∧(b=false→q)
theorem VZ{p q:Prop}(h:GZ true p q):p:=h.1 rfl
theorem Vu{p q:Prop}(h:GZ false p q):q:=h.2 rfl
def LB(H:Heap)(x:AVal)(K:Res→Prop):Prop:=
 match x with
 | .obj n=>match H.get n with
   |some (.iter s pos)=>GZ (decide (pos<s.length)) (K (.upd (H.set n (some (.iter s (pos+(Utf8.decode ⟨⟨s⟩⟩ pos).2)))) (.tup [.bool true,.int .i64 pos,.int .i32 (Utf8.decode ⟨⟨s⟩⟩ pos).1])))
     (K (.val (.tup [.bool false])))
   |_=>False
 |_=>False
theorem BZ[Syms]{H:Heap}{x:AVal}{K:Res→Prop}(h:LB H x K):∃r,Do H x=some r∧K r:=by
 unfold LB at h
 split at h
 ·split at h
  ·rename_i s pos hb
   by_cases hp:pos<s.length
   ·rw[decide_eq_true hp]at h
    exact⟨_,by simp only[Do,hb,if_pos hp],VZ h⟩
   ·rw[decide_eq_false hp]at h
    exact⟨_,by simp only[Do,hb,if_neg hp],Vu h⟩
  ·exact h.elim
 ·exact h.elim
def XP(tt:TT)(m:Nat)(t:TypeId)(l c:AVal)(K:Res→Prop):Prop:=
 match tt t,l,c with
 |some ⟨.slice e,_,_,_⟩,.int _ l,.int _ c=>match tt e with
  |some ety=>
   bif Nat.blt 0 ety.size&&Nat.beq ety.zero.cells.length ety.size&&Qw ety.zero.cells then
    (0≤l∧l≤c∧c*ety.bytes≤281474976710656∧c≤281474976710656)∧K (.new (.cells (List.replicate c.toNat ety.zero.cells) false) (.slice m 0 l.toNat ety.size (some c.toNat)))
   else False
  |none=>False
 |_,_,_=>False
theorem C6[Syms]{tt:TT}{m:Nat}{t:TypeId}{l c:AVal}{K:Res→Prop}(h:XP tt m t l c K):∃r,WD tt m t l c=some r∧K r:=by
 unfold XP at h
 split at h
 ·rename_i hty
  split at h
  ·rename_i ety hety
   cases hb:(Nat.blt 0 ety.size&&Nat.beq ety.zero.cells.length ety.size&&Qw ety.zero.cells)with
   |false=>rw[hb]at h;exact h.elim
   |true=>
    rw[hb]at h
    simp only[cond_true]at h
    simp only[Bool.and_eq_true,Nat.blt_eq]at hb
    obtain⟨⟨b1,b2⟩,b3⟩:=hb
    exact⟨_,by simp only[WD,hty,hety,if_pos (And.intro b1 (And.intro (Nat.eq_of_beq_eq_true b2) (And.intro b3 h.1)))],h.2⟩
  ·exact h.elim
 ·exact h.elim
def GE:Nat→List (Nat×AVal)→Option (List (List AVal))
 |_,[]=>some []
 |k,(i,v)::r=>bif Nat.beq i k&&v.leaf then(match GE (k+1) r with
  |some l=>some ([v]::l)
  |none=>none)else none
theorem El{v:AVal}(h:v.leaf=true):v.cells=[v]:=by
 cases v<;>first|rfl|cases h
theorem C9:∀(parts:List (Nat×AVal)) (k:Nat) (rows:List (List AVal)) (pre:List AVal) (z:AVal),GE k parts=some rows→pre.length=k→
 WE (fun i=>some (i*1,1)) (pre++Qt [z] parts.length) parts=some (pre++parts.map (·.2))∧rows=parts.map fun p=>[p.2]
 |[],k,rows,pre,z,h,_=>by
  cases h
  exact⟨rfl,rfl⟩
 |(i,v)::r,k,rows,pre,z,h,hk=>by
  rw[GE]at h
  cases hb:(Nat.beq i k&&v.leaf)with
  |false=>rw[hb]at h;cases h
  |true=>
   rw[hb]at h
   simp only[cond_true]at h
   simp only[Bool.and_eq_true]at hb
   have hi:=Nat.eq_of_beq_eq_true hb.1
   subst hi
   split at h
   ·rename_i l hl
    cases h
    have hc:=El hb.2
    obtain⟨h1,h2⟩:=C9 r (i+1) l (pre++[v]) z hl (by simp[hk])
    refine⟨?_,by rw[h2];rfl⟩
    have e:Qm (pre++Qt [z] (r.length+1)) i [v]=pre++[v]++Qt [z] r.length:=by
     unfold Qm
     subst hk
     have e1:(pre++Qt [z] (r.length+1)).drop (pre.length+[v].length)=Qt [z] r.length:=by
      rw[List.drop_append,List.drop_of_length_le (by simp),List.nil_append]
      simp[Qt]
     rw[e1,List.take_left' rfl]
    have hcond:v.cells.length=1∧i*1+1≤(pre++Qt [z] (r.length+1)).length∧Qw v.cells=true:=by
     rw[hc]
     exact⟨rfl,by simp[Qt];omega,by simp[Qw,hb.2]⟩
    show(if v.cells.length=1∧i*1+1≤(pre++Qt [z] (r.length+1)).length∧Qw v.cells=true then WE (fun i=>some (i*1,1)) (Qm (pre++Qt [z] (r.length+1)) (i*1) v.cells) r else none)=_
    rw[if_pos hcond,hc,Nat.mul_one,e,h1]
    simp
   ·cases h
theorem CD:∀(l:List AVal),Gy 1 l.length l=l.map fun c=>[c]
 |[]=>rfl
 |c::l=>by
  rw[List.length_cons,Gy]
  show[c]::Gy 1 l.length l=_
  rw[CD l];rfl
def Ul(tt:TT)(m:Nat)(t:TypeId)(len:Nat)(parts:List (Nat×AVal))(K:Res→Prop):Prop:=
 match tt t with
 |some ⟨.slice e,_,_,_⟩=>match tt e with
  |some ety=>match(bif Nat.beq ety.size 1&&Nat.beq ety.zero.cells.length 1&&Qw ety.zero.cells&&Nat.ble len 16777216&&Nat.beq parts.length len then GE 0 parts else none)with
   |some rows=>K (.new (.cells rows false) (.slice m 0 len ety.size (some len)))
   |none=>match XV tt m t len parts with
    |some r=>K r
    |none=>False
  |none=>False
 |_=>False
theorem J1{tt:TT}{m:Nat}{t:TypeId}{len:Nat}{parts:List (Nat×AVal)}{K:Res→Prop}(h:Ul tt m t len parts K):∃r,XV tt m t len parts=some r∧K r:=by
 unfold Ul at h
 split at h
 ·rename_i e _ _ _ hty
  split at h
  ·rename_i ety hety
   split at h
   ·rename_i rows hr
    cases hb:(Nat.beq ety.size 1&&Nat.beq ety.zero.cells.length 1&&Qw ety.zero.cells&&Nat.ble len 16777216&&Nat.beq parts.length len)with
    |false=>rw[hb]at hr;cases hr
    |true=>
     rw[hb]at hr
     simp only[cond_true]at hr
     simp only[Bool.and_eq_true]at hb
     obtain⟨⟨⟨⟨b1,b2⟩,b3⟩,b4⟩,b5⟩:=hb
     have b1:=Nat.eq_of_beq_eq_true b1
     have b2:=Nat.eq_of_beq_eq_true b2
     have b4:=Nat.le_of_ble_eq_true b4
     have b5:=Nat.eq_of_beq_eq_true b5
     subst b5
     obtain⟨z,hz⟩:∃z,ety.zero.cells=[z]:=by
      cases hc:ety.zero.cells with
      |nil=>rw[hc]at b2;cases b2
      |cons z l=>
       cases l with
       |nil=>exact⟨z,rfl⟩
       |cons y l=>rw[hc]at b2;simp at b2
     obtain⟨h1,h2⟩:=C9 parts 0 rows [] z hr rfl
     simp only[List.nil_append]at h1
     refine⟨_,?_,h⟩
     unfold XV
     simp only[hty,hety]
     rw[if_pos ⟨by omega,by rw[b2,b1],b3,by rw[b1];omega⟩,b1,hz,h1,h2]
     have h3:=CD (parts.map (·.2))
     rw[List.length_map]at h3
     simp only[Option.map_some,h3,List.map_map]
     rfl
   ·split at h
    ·rename_i r hr
     exact⟨r,hr,h⟩
    ·exact h.elim
  ·exact h.elim
 ·exact h.elim
def Bo(place:Nat→Option (Nat×Nat)):List (Nat×AVal)→List AVal→(List AVal→Prop)→Prop
 |[],row,K=>K row
 |(i,v)::rest,row,K=>match place i with
  |some (off,size)=>bif Nat.beq v.cells.length size&&Nat.ble (off+size) row.length&&Qw v.cells then VF (Qm row off v.cells) fun row=>Bo place rest row K else False
  |none=>False
theorem J9{place:Nat→Option (Nat×Nat)}:∀{parts:List (Nat×AVal)} {row:List AVal} {K:List AVal→Prop},Bo place parts row K→ ∃r,WE place row parts=some r∧K r
 |[],row,K,h=>⟨row,rfl,h⟩
 |(i,v)::rest,row,K,h=>by
  unfold Bo at h
  split at h
  ·rename_i off size hp
   cases hb:(Nat.beq v.cells.length size&&Nat.ble (off+size) row.length&&Qw v.cells)with
   |false=>rw[hb]at h;exact h.elim
   |true=>
    rw[hb]at h
    simp only[cond_true]at h
    rw[Yi]at h
    simp only[Bool.and_eq_true]at hb
    obtain⟨r,h1,h2⟩:=J9 h
    refine⟨r,?_,h2⟩
    rw[WE,hp]
    simp only
    rw[if_pos ⟨Nat.eq_of_beq_eq_true hb.1.1,Nat.le_of_ble_eq_true hb.1.2,hb.2⟩]
    exact h1
  ·exact h.elim
def ER(tt:TT)(t:TypeId)(parts:List (Nat×AVal))(K:AVal→Prop):Prop:=
 match tt t with
 |some ⟨.struct fs,_,_,.agg zs⟩=>bif (fs.all fun f=>(tt f.2).isSome)&&Qw zs then Bo (Zq tt fs) parts zs fun r=>K (.agg r)else False
 |_=>match G0 tt t parts with
  |some v=>K v
  |none=>False
theorem Bc{tt:TT}{t:TypeId}{parts:List (Nat×AVal)}{K:AVal→Prop}(h:ER tt t parts K):∃v,G0 tt t parts=some v∧K v:=by
 unfold ER at h
 split at h
 ·rename_i fs sz bt zs hty
  cases hb:((fs.all fun f=>(tt f.2).isSome)&&Qw zs)with
  |false=>rw[hb]at h;exact h.elim
  |true=>
   rw[hb]at h
   simp only[cond_true]at h
   simp only[Bool.and_eq_true]at hb
   obtain⟨r,h1,h2⟩:=J9 h
   refine⟨.agg r,?_,h2⟩
   unfold G0
   simp only[hty]
   rw[if_pos hb,h1]
   rfl
 ·split at h
  ·rename_i v hv
   exact⟨v,hv,h⟩
  ·exact h.elim
def opT(tt:TT)(ρ:Operand→AVal)(H:Heap)(m:Nat)(op:Op)(K:Res→Prop):Prop:=
 match op with
 | .load t x=>LK tt H t (ρ x) fun v=>K (.val v)
 | .store t x v=>CV tt H t (ρ x) (ρ v) K
 | .binOp op t x y _=>
   match ρ x,ρ y with
   | .agg xs,.agg ys=>match op with
     | .eql=>match Dp tt t xs ys with
       |some b=>K (.val (.bool b))
       |none=>False
     | .neq=>match Dp tt t xs ys with
       |some b=>K (.val (.bool !b))
       |none=>False
     |_=>False
   |a,b=>PG tt op t a b fun v=>K (.val v)
 | .slice t x lo hi mx=>match ρ x with
   | .vt sz n f=>DC tt t sz n f (lo.map ρ) (hi.map ρ) (mx.map ρ) fun v=>K (.val v)
   |x=>M0 tt t x (lo.map ρ) (hi.map ρ) (mx.map ρ) fun v=>K (.val v)
 | .indexAddr t x ix=>match ρ x with
   | .vt sz n f=>LQ tt t sz n f (ρ ix) fun v=>K (.val v)
   |x=>MH tt t x (ρ ix) fun v=>K (.val v)
 | .index t x ix=>Ep tt t (ρ x) (ρ ix) fun v=>K (.val v)
 | .makeSlice t l c=>XP tt m t (ρ l) (ρ c) K
 | .convert src dst x=>match ρ x with
   | .vt sz n f=>HO tt H m src dst (.vs sz (XW n f)) K
   |x=>HO tt H m src dst x K
 | .next it true=>LB H (ρ it) K
 | .call {callee:=.builtin .append,args,argTypes}=>match args.toList.map ρ with
   |[s,.vt sz n f]=>GJ tt H m argTypes s.un (.vs sz (XW n f)) K
   |[s,x]=>GJ tt H m argTypes s x K
   |_=>False
 | .call {callee:=.builtin .len,args,argTypes}=>match args.toList.map ρ,(argTypes[0]?).bind tt with
   |[.vt sz n f],some ⟨.slice _,_,_,_⟩=>K (.val (.int .i64 n))
   |l,_=>match WF tt H m .len argTypes l with
    |some r=>K r
    |none=>False
 | .buildSlice t len parts=>Ul tt m t len (parts.toList.map fun p=>(p.1,ρ p.2)) K
 | .build t parts=>ER tt t (parts.toList.map fun p=>(p.1,ρ p.2)) fun v=>K (.val v)
 |op=>match aop tt ρ H m op with
  |some r=>K r
  |none=>False
theorem Ju[Syms]{tt:TT}{ρ:Operand→AVal}{H:Heap}{m:Nat}{op:Op}{K:Res→Prop}(h:opT tt ρ H m op K):(∃r,aop tt ρ H m op=some r∧K r)∨(∃r' r,aop tt (fun x=>(ρ x).un) H m op=some r'∧r'.sees r∧K r):=by
 unfold opT at h
 split at h
 ·obtain⟨v,h1,h2⟩:=C7 h
  exact .inl ⟨_,by simp only[aop,h1,Option.map_some],h2⟩
 ·obtain⟨v,h1,h2⟩:=DB h
  exact .inl ⟨_,by simp only[aop,h1,Option.map_some],h2⟩
 ·left
  split at h
  ·rename_i xs ys hx hy
   split at h
   ·split at h
    ·rename_i b hb
     exact⟨_,by simp only[aop,hx,hy,hb,Option.map_some],h⟩
    ·exact h.elim
   ·split at h
    ·rename_i b hb
     exact⟨_,by simp only[aop,hx,hy,hb,Option.map_some],h⟩
    ·exact h.elim
   ·exact h.elim
  ·rename_i hno
   obtain⟨v,h1,h2⟩:=ET h
   refine⟨_,?_,h2⟩
   unfold aop
   simp only[h1,Option.map_some]
   try(split
       ·rename_i xs ys hx hy;exact absurd ⟨hx,hy⟩ (by intro hh;exact(hno xs ys hh.1 hh.2).elim)
       ·rfl)
 ·split at h
  ·rename_i t y lo hi mx _ sz n f hx
   right
   obtain⟨v',h1,v,h2,h3⟩:=Fl h
   refine⟨.val v',.val v,?_,h2,h3⟩
   have e:∀y:Option Operand,y.map (fun x=>(ρ x).un)=(y.map ρ).map AVal.un:=fun y=>by cases y<;>rfl
   have hs:∀lo hi mx:Option AVal,Ym tt t (.vs sz (XW n f)) (lo.map AVal.un) (hi.map AVal.un) (mx.map AVal.un)=Ym tt t (.vs sz (XW n f)) lo hi mx:=by
    intro lo hi mx
    unfold Ym
    simp only[Q03,Option.isNone_map,Option.isSome_map]
    cases mx with
    |none=>rfl
    |some q=>
     cases tt t with
     |none=>rfl
     |some ty=>
      obtain⟨kd,a,b,z⟩:=ty
      cases kd<;>rfl
   simp only[aop,hx,BD,e,hs,h1,Option.map_some]
  ·obtain⟨v,h1,h2⟩:=Kr h
   exact .inl ⟨_,by simp only[aop,h1,Option.map_some],h2⟩
 ·split at h
  ·rename_i t x ix sz n f hx
   obtain⟨h0,v,h1,h2⟩:=Ci h
   exact .inr ⟨.val v,.val v,by simp only[aop,hx,h0,BD,h1,Option.map_some],Res.sees_refl _,h2⟩
  ·obtain⟨v,h1,h2⟩:=MG h
   exact .inl ⟨_,by simp only[aop,h1,Option.map_some],h2⟩
 ·obtain⟨v,h1,h2⟩:=DT h
  exact .inl ⟨_,by simp only[aop,h1,Option.map_some],h2⟩
 ·exact .inl (C6 h)
 ·split at h
  ·rename_i src dst x sz n f hx
   obtain⟨r,h1,h2⟩:=Gj h
   exact .inr ⟨r,r,by simp only[aop,hx,BD,h1],Res.sees_refl _,h2⟩
  ·exact .inl (Gj h)
 ·exact .inl (BZ h)
 ·rename_i args argTypes
  split at h
  ·rename_i s sz n f hx
   obtain⟨r,h1,h2⟩:=UT h
   refine .inr ⟨r,r,?_,Res.sees_refl _,h2⟩
   have e:args.toList.map (fun x=>(ρ x).un)=(args.toList.map ρ).map AVal.un:=by rw[List.map_map];rfl
   simp only[aop,e,hx,List.map_cons,List.map_nil,BD,WF]
   rw[h1]
  ·rename_i s x hx hno
   obtain⟨r,h1,h2⟩:=UT h
   exact .inl ⟨r,by simp only[aop,WF,hno];rw[h1],h2⟩
  ·exact h.elim
 ·rename_i args argTypes
  split at h
  ·rename_i sz n f _ _ _ _ hx hty
   refine .inr ⟨_,_,?_,Res.sees_refl _,h⟩
   have e:args.toList.map (fun x=>(ρ x).un)=(args.toList.map ρ).map AVal.un:=by rw[List.map_map];rfl
   simp only[aop,e,hx,List.map_cons,List.map_nil,BD,WF,OB,hty,Option.map_some,YC]
  ·split at h
   ·rename_i r hr
    exact .inl ⟨r,by simp only[aop];exact hr,h⟩
   ·exact h.elim
 ·exact .inl (J1 h)
 ·obtain⟨v,h1,h2⟩:=Bc h
  exact .inl ⟨_,by simp only[aop,h1,Option.map_some],h2⟩
 ·left
  split at h
  ·rename_i r hr
   exact⟨r,hr,h⟩
  ·exact h.elim
end Go.Av
end
end
section
set_option linter.unusedVariables false
set_option linter.unusedSimpArgs false
noncomputable section
namespace Go.Av
abbrev CallT:=FuncId→List AVal→Heap→Nat→(AVal→Heap→Nat→Prop)→Prop
def CallT.det[Syms](P:Program)(c:CallT):Prop:=∀f args H nx K,c f args H nx K→ ∃v H' nx',UI P f∧Y6 P f args H nx v H' nx'∧K v H' nx'
def CallT.ok[Syms](P:Program)(c:CallT):Prop:=∀f args H nx K,c f args H nx K→UI P f∧ ∀(ι:Inj) (w:World) (vs:List Value),Qs ι args vs→RelH ι H w→X1 ι nx w→
    Calls P f ⟨vs⟩ w fun e w'=>∃v H' nx' r κ,K v H' nx'∧e= .returned r∧RelV κ v r∧RelH κ H' w'∧StepN ι H nx w κ H' nx' w'∧X1 κ nx' w'
theorem CallT.det.ok[Syms]{P:Program}{c:CallT}(h:c.det P):c.ok P:=by
 intro f args H nx K hc
 obtain⟨v,H',nx',h1,h2,h3⟩:=h f args H nx K hc
 refine⟨h1,fun ι w vs ha hH hb=>(h2 ι w vs ha hH hb).mono ?_⟩
 rintro e w' ⟨r,κ,g1,g2,g3,g4,g5⟩
 exact⟨v,H',nx',r,κ,h3,g1,g2,g3,g4,g5⟩
def ZT(e e':Env):Prop:=∀k,e.get k=e'.get k
theorem ZT.refl(e:Env):ZT e e:=fun _=>rfl
theorem ZT.put{e e':Env}(h:ZT e e')(d:Option Tmp)(v:AVal):ZT (e.put d v) (e'.put d v):=by
 intro k
 cases d with
 |none=>exact h k
 |some d=>simp only[Env.put,Env.get_cons];cases Nat.beq k d<;>simp[h k]
theorem ZT.lit{e:Env}{d:Nat}{x:AVal}(h:e.get d=x):ZT e ((d,x)::e):=by
 intro k
 rw[Env.get_cons]
 by_cases hk:k=d
 ·subst hk;simp[Nat.beq_refl,h]
 ·simp[Qd hk]
theorem ZT.trans{a b c:Env}(h:ZT a b)(k:ZT b c):ZT a c:=fun x=>(h x).trans (k x)
theorem ZT.evE{e e':Env}(h:ZT e e'):evE e=evE e':=by
 funext x
 cases x with
 |tmp t=>exact h t
 |const v=>rfl
 |global g=>rfl
 |func f=>first|rfl|(simp only[evE,St.ev];cases Nat.ble BND f<;>rfl)
theorem ZT.wanted{e e':Env}(h:ZT e e')(ops:Array Oper)(o:Oper):Qo ops e o=Qo ops e' o:=by
 unfold Qo
 split
 ·rfl
 ·split
  ·rename_i d _;rw[h d]
  ·rfl
theorem RelS.env_eq[Syms]{N:Nat}{ι:Inj}{e e':Env}{H:Heap}{nx:Nat}{a:Act}{w:World}(h:RelS N ι ⟨e,H,nx⟩ a w)(he:ZT e e'):RelS N ι ⟨e',H,nx⟩ a w:=
 ⟨h.defers,h.size,fun k=>by have:=h.env k;rw[he k]at this;exact this,h.heap,h.bound⟩
def unE(e:Env):Env:=e.map fun p=>(p.1,p.2.un)
theorem Vt:∀(e:Env) (k:Nat),(unE e).get k=(e.get k).un
 |[],k=>rfl
 |(j,v)::e,k=>by
  show Env.get ((j,v.un)::unE e) k=_
  rw[Env.get_cons,Env.get_cons]
  cases Nat.beq k j
  ·exact Vt e k
  ·rfl
theorem Cy(v:Value):(Wx v).un=Wx v:=by
 unfold Wx
 split<;>rfl
theorem N1(e:Env):evE (unE e)=fun x=>(evE e x).un:=by
 funext x
 cases x with
 |tmp t=>exact Vt e t
 |const v=>
  show Vl v=(Vl v).un
  unfold Vl
  split
  ·rfl
  ·exact(Cy _).symm
 |global g=>rfl
 |func f=>first|rfl|(simp only[evE,St.ev];cases Nat.ble BND f<;>rfl)
theorem GR(ops:Array Oper)(e:Env)(o:Oper):Qo ops (unE e) o=Qo ops e o:=by
 unfold Qo
 split
 ·rfl
 ·split
  ·rename_i d _
   rw[Vt]
   cases h:e.get d with
   |bool b=>rfl
   |tup l=>cases l<;>rfl
   |_=>rfl
  ·rfl
theorem RelV.of_un[Syms]{ι:Inj}{x:AVal}{v:Value}(h:RelV ι x.un v):RelV ι x v:=by
 cases x with
 |vt sz n f=>exact .vt sz n f v h
 |_=>exact h
theorem RelS.unE[Syms]{N:Nat}{ι:Inj}{e:Env}{H:Heap}{nx:Nat}{a:Act}{w:World}(h:RelS N ι ⟨e,H,nx⟩ a w):RelS N ι ⟨unE e,H,nx⟩ a w:=
 ⟨h.defers,h.size,fun k=>by show RelV ι ((Av.unE e).get k) _;rw[Vt];exact(h.env k).un,h.heap,h.bound⟩
theorem NS[Syms]{κ:Inj}{e:Env}{d:Option Tmp}{v v':AVal}(hv:∀ι u,RelV ι v' u→RelV ι v u){k:Nat}{u:Value}(h:RelV κ (((unE e).put d v').get k) u):RelV κ ((e.put d v).get k) u:=by
 cases d with
 |none=>
  simp only[Env.put]at h ⊢
  rw[Vt]at h
  exact h.of_un
 |some d=>
  simp only[Env.put,Env.get_cons]at h ⊢
  cases hb:Nat.beq k d with
  |true=>rw[hb]at h;exact hv _ _ h
  |false=>
   rw[hb]at h
   simp only[cond_false]at h ⊢
   rw[Vt]at h
   exact h.of_un
theorem Xd.see[Syms]{P:Program}{N:Nat}{ops:Array Oper}{o:Oper}{e:Env}{H H':Heap}{nx nx':Nat}{v v':AVal}(hv:∀ι u,RelV ι v' u→RelV ι v u)(h:Xd P N ops o ⟨unE e,H,nx⟩ ⟨(unE e).put o.dst v',H',nx'⟩):Xd P N ops o ⟨e,H,nx⟩ ⟨e.put o.dst v,H',nx'⟩:=
 fun ι a w K Q hS hK=>h ι a w K Q hS.unE fun κ a' w' hS' hst=>hK κ a' w' ⟨hS'.defers,hS'.size,fun k=>NS hv (hS'.env k),hS'.heap,hS'.bound⟩ hst
theorem Res.sees_parts[Syms]{r' r:Res}(h:r'.sees r)(H:Heap)(m:Nat):r'.heap H m=r.heap H m∧r'.next m=r.next m∧(∀ι u,RelV ι r'.v u→RelV ι r.v u)∧r'.calm=r.calm∧r'.news m=r.news m:=by
 cases r'<;>cases r<;>first|exact h.elim|skip
 ·exact⟨rfl,rfl,h,rfl,rfl⟩
 ·obtain⟨rfl,h⟩:=h;exact⟨rfl,rfl,h,rfl,rfl⟩
 ·obtain⟨rfl,h⟩:=h;exact⟨rfl,rfl,h,rfl,rfl⟩
theorem FK[Syms]{P:Program}{tt:TT}{N:Nat}{ops:Array Oper}{o:Oper}{e:Env}{H:Heap}{nx:Nat}{K:Res→Prop}(htt:TT.ok P tt)(hw:Qo ops e o=some true)(hd:Z6 N o.dst=true)(h:opT tt (evE e) H nx o.op K):
 ∃r,Xd P N ops o ⟨e,H,nx⟩ ⟨e.put o.dst r.v,r.heap H nx,r.next nx⟩∧K r:=by
 rcases Ju h with⟨r,h1,h2⟩|⟨r',r,h1,h2,h3⟩
 ·exact⟨r,Ve (s:=⟨e,H,nx⟩) htt hw hd (by rw[WW];exact h1),h2⟩
 ·refine⟨r,?_,h3⟩
  obtain⟨g1,g2,g3,_⟩:=Res.sees_parts (r':=r') (r:=r) h2 H nx
  rw[←g1,←g2]
  refine Xd.see g3 ?_
  exact Ve (s:=⟨unE e,H,nx⟩) htt (by rw[GR];exact hw) hd (by rw[WW];show aop tt (evE (unE e)) H nx o.op=_;rw[N1];exact h1)
abbrev Kn:=List (Nat×Bool)
def Kn.find:Kn→Nat→Option Bool
 |[],_=>none
 |(k,b)::l,n=>@Bool.rec (fun _=>Option Bool) (Kn.find l n) (some b) (Nat.beq n k)
def JE(ops:Array Oper)(o:Oper)(kn:Kn)(e:Env)(yes no:Kn→Env→Prop):Prop:=
 match o.guard with
 |none=>yes kn e
 |some (j,want)=>
  match(ops[j]?).bind (·.dst)with
  |some d=>match e.get d with
   | .bool b=>match kn.find d with
     |some t=>@Bool.rec (fun _=>Prop) False (@Bool.rec (fun _=>Prop) (no kn e) (yes kn e) (b == want)) (b == t)
     |none=>GZ b (bif want then yes ((d,true)::kn) ((d,.bool true)::e)else no ((d,true)::kn) ((d,.bool true)::e)) (bif want then no ((d,false)::kn) ((d,.bool false)::e)else yes ((d,false)::kn) ((d,.bool false)::e))
   | .tup []=>no kn e
   |_=>False
  |none=>no kn e
theorem VE{ops:Array Oper}{o:Oper}{kn:Kn}{e:Env}{yes no:Kn→Env→Prop}(h:JE ops o kn e yes no):∃kn' e',ZT e e'∧((Qo ops e' o=some true∧yes kn' e')∨(Qo ops e' o=some false∧no kn' e')):=by
 unfold JE at h
 split at h
 ·rename_i hg
  exact⟨kn,e,.refl e,.inl ⟨by simp only[Qo,hg],h⟩⟩
 ·rename_i j want hg
  split at h
  ·rename_i d hd
   split at h
   ·rename_i b hb
    split at h
    ·rename_i t ht
     have hw:Qo ops e o=some (b == want):=by simp only[Qo,hg,hd,hb]
     cases hbt:(b == t)with
     |false=>rw[hbt]at h;exact h.elim
     |true=>
      rw[hbt]at h
      cases hbw:(b == want)with
      |true=>rw[hbw]at h hw;exact⟨kn,e,.refl e,.inl ⟨hw,h⟩⟩
      |false=>rw[hbw]at h hw;exact⟨kn,e,.refl e,.inr ⟨hw,h⟩⟩
    have key:∀x,b=x→ ∃e',e'=(d,AVal.bool x)::e∧ZT e e'∧Qo ops e' o=some (x == want):=by
     intro x hx
     subst hx
     refine⟨_,rfl,ZT.lit hb,?_⟩
     have:Env.get ((d,AVal.bool b)::e) d= .bool b:=by rw[Env.get_cons,Nat.beq_refl];rfl
     simp only[Qo,hg,hd,this]
    cases b with
    |true=>
     have h:=VZ h
     obtain⟨e',rfl,h1,h2⟩:=key true rfl
     refine⟨(d,true)::kn,_,h1,?_⟩
     cases want with
     |true=>exact .inl ⟨h2,h⟩
     |false=>exact .inr ⟨h2,h⟩
    |false=>
     have h:=Vu h
     obtain⟨e',rfl,h1,h2⟩:=key false rfl
     refine⟨(d,false)::kn,_,h1,?_⟩
     cases want with
     |true=>exact .inr ⟨h2,h⟩
     |false=>exact .inl ⟨h2,h⟩
   ·rename_i ht
    exact⟨kn,e,.refl e,.inr ⟨by simp only[Qo,hg,hd,ht],h⟩⟩
   ·exact h.elim
  ·rename_i hd
   exact⟨kn,e,.refl e,.inr ⟨by simp only[Qo,hg,hd],h⟩⟩
def Gg(c:CallT)(tt:TT)(N:Nat)(ops:Array Oper)(o:Oper)(kn:Kn)(s:St)(K:Kn→St→Prop):Prop:=
 bif Z6 N o.dst then
  JE ops o kn s.env
   (fun kn e=>match V4 o.op with
     |some (fo,args)=>match evE e fo with
      | .func fid caps=>c (KN fid) (VV fid (args.toList.map (evE e)) caps) s.heap s.nx fun v H' nx'=>K kn ⟨e.put o.dst v,H',nx'⟩
      |_=>False
     |none=>opT tt (evE e) s.heap s.nx o.op fun r=>K kn ⟨e.put o.dst r.v,r.heap s.heap s.nx,r.next s.nx⟩)
   (fun kn e=>K kn ⟨e.put o.dst undefA,s.heap,s.nx⟩)
 else False
def OpK[Syms](P:Program)(N:Nat)(ops:Array Oper)(o:Oper)(s:St)(K:St→Prop):Prop:=
 ∀(ι:Inj) (a:Act) (w:World) (C:Act→World→Prop) (Q:Exit→Act→World→Prop),RelS N ι s a w→
  (∀s' κ a' w',K s'→RelS N κ s' a' w'→StepN ι s.heap s.nx w κ s'.heap s'.nx w'→C a' w')→
  if Region.wanted o (yielded ops a.tmps)then o.wp P a w C Q∨(o.asks P a w∧LetsOut Q)else C (a.put o.dst undef) w
theorem Xd.opK[Syms]{P:Program}{N:Nat}{ops:Array Oper}{o:Oper}{s s':St}{K:St→Prop}(h:Xd P N ops o s s')(hK:K s'):OpK P N ops o s K:=
 fun ι a w C Q hS hC=>h ι a w C Q hS fun κ a' w' hS' hst=>hC s' κ a' w' hK hS' hst
theorem Xd.env_eq[Syms]{P:Program}{N:Nat}{ops:Array Oper}{o:Oper}{e e':Env}{H:Heap}{nx:Nat}{s':St}(he:ZT e e')(h:Xd P N ops o ⟨e',H,nx⟩ s'):Xd P N ops o ⟨e,H,nx⟩ s':=
 fun ι a w C Q hS hC=>h ι a w C Q (hS.env_eq he) hC
theorem Iz[Syms]{P:Program}{c:CallT}{tt:TT}{N:Nat}{ops:Array Oper}{o:Oper}{kn:Kn}{s:St}{K:Kn→St→Prop}(htt:TT.ok P tt)(hc:c.det P)(h:Gg c tt N ops o kn s K):∃kn' s',Xd P N ops o s s'∧K kn' s':=by
 unfold Gg at h
 cases hd:Z6 N o.dst with
 |false=>rw[hd]at h;exact h.elim
 |true=>
  rw[hd]at h
  simp only[cond_true]at h
  obtain⟨kn',e',he,h⟩:=VE h
  have hs:s=⟨s.env,s.heap,s.nx⟩:=rfl
  rcases h with⟨hw,h⟩|⟨hw,h⟩
  ·split at h
   ·rename_i fo args hcall
    obtain⟨argTypes,ho⟩:=XU hcall
    split at h
    ·rename_i fid caps hf
     obtain⟨v,H',nx',h1,h2,h3⟩:=hc _ _ _ _ _ h
     refine⟨kn',_,?_,h3⟩
     rw[hs]
     refine Xd.env_eq he ?_
     have:=Mo (P:=P) (N:=N) (s:=⟨e',s.heap,s.nx⟩) hw hd ho (fo:=fo) (by rw[WW];exact hf) h1 (v:=v) (H':=H') (nx':=nx') (by rw[WW];exact h2)
     exact this
    ·exact h.elim
   ·obtain⟨r,h1,h2⟩:=FK (P:=P) (N:=N) htt hw hd h
    refine⟨kn',_,?_,h2⟩
    rw[hs]
    exact Xd.env_eq he h1
  ·refine⟨kn',_,?_,h⟩
   rw[hs]
   exact Xd.env_eq he (VB (s:=⟨e',s.heap,s.nx⟩) hw hd)
theorem Lu[Syms]{P:Program}{N:Nat}{ops:Array Oper}{o:Oper}{s:St}{fo:Operand}{args:Array Operand}{argTypes:Array TypeId}{fid:FuncId}{caps:List AVal}{c:CallT}{K:St→Prop}(hc:c.ok P)
 (hw:Qo ops s.env o=some true) (hd:Z6 N o.dst=true) (ho:o.op= .call {callee:=.value fo,args,argTypes}) (hf:s.ev fo= .func fid caps)
 (h:c (KN fid) (VV fid (args.toList.map s.ev) caps) s.heap s.nx fun v H' nx'=>K ⟨s.env.put o.dst v,H',nx'⟩):OpK P N ops o s K:=by
 intro ι a w C Q hS hK
 obtain⟨hok,hcalls⟩:=hc _ _ _ _ _ h
 rw[Zj hS.env hw]
 simp only[if_true]
 left
 have hfv:=hS.ev fo
 rw[hf]at hfv
 obtain⟨fvs,cvs,hfe,hcl⟩:=hfv.of_func
 unfold Oper.wp
 rw[F0 ho hfe hok]
 simp only[Oper.upon]
 refine(hcalls ι w _ (hcl _ _ (J4 hS.ev _)) hS.heap hS.bound).mono ?_
 rintro e w' ⟨v,H',nx',r,κ,hKv,rfl,hv,hH,hst,hb⟩
 obtain⟨h1,h2⟩:=VI hS hst.st.le hd hv
 exact hK _ κ _ w' hKv ⟨by rw[X6];exact hS.defers,h1,h2,hH,hb⟩ hst
theorem OpK.env_eq[Syms]{P:Program}{N:Nat}{ops:Array Oper}{o:Oper}{e e':Env}{H:Heap}{nx:Nat}{K:St→Prop}(he:ZT e e')(h:OpK P N ops o ⟨e',H,nx⟩ K):OpK P N ops o ⟨e,H,nx⟩ K:=
 fun ι a w C Q hS hC=>h ι a w C Q (hS.env_eq he) hC
theorem OpK.mono[Syms]{P:Program}{N:Nat}{ops:Array Oper}{o:Oper}{s:St}{K L:St→Prop}(hkl:∀s,K s→L s)(h:OpK P N ops o s K):OpK P N ops o s L:=
 fun ι a w C Q hS hC=>h ι a w C Q hS fun s' κ a' w' hk=>hC s' κ a' w' (hkl s' hk)
theorem Uc[Syms]{P:Program}{c:CallT}{tt:TT}{N:Nat}{ops:Array Oper}{o:Oper}{kn:Kn}{s:St}{K:Kn→St→Prop}(htt:TT.ok P tt)(hc:c.ok P)(h:Gg c tt N ops o kn s K):OpK P N ops o s fun s'=>∃kn',K kn' s':=by
 unfold Gg at h
 cases hd:Z6 N o.dst with
 |false=>rw[hd]at h;exact h.elim
 |true=>
  rw[hd]at h
  simp only[cond_true]at h
  obtain⟨kn',e',he,h⟩:=VE h
  have hs:s=⟨s.env,s.heap,s.nx⟩:=rfl
  rcases h with⟨hw,h⟩|⟨hw,h⟩
  ·split at h
   ·rename_i fo args hcall
    obtain⟨argTypes,ho⟩:=XU hcall
    split at h
    ·rename_i fid caps hf
     rw[hs]
     refine OpK.env_eq he ?_
     refine OpK.mono (fun s' hs=>⟨kn',hs⟩) (Lu (s:=⟨e',s.heap,s.nx⟩) (K:=K kn') hc hw hd ho (fo:=fo) (by rw[WW];exact hf) (by rw[WW];exact h))
    ·exact h.elim
   ·obtain⟨r,h1,h2⟩:=FK (P:=P) (N:=N) htt hw hd h
    rw[hs]
    refine OpK.env_eq he ?_
    exact h1.opK ⟨kn',h2⟩
  ·rw[hs]
   exact OpK.env_eq he ((VB (s:=⟨e',s.heap,s.nx⟩) hw hd).opK ⟨kn',h⟩)
def CY(c:CallT)(tt:TT)(N:Nat)(ops:Array Oper):List Oper→Kn→St→(St→Prop)→Prop
 |[],_,s,K=>K s
 |o::l,kn,s,K=>Gg c tt N ops o kn s fun kn s1=>CY c tt N ops l kn s1 K
theorem BJ[Syms]{P:Program}{c:CallT}{tt:TT}{N:Nat}{ops:Array Oper}{K:St→Prop}(htt:TT.ok P tt)(hc:c.det P):∀{l:List Oper} {kn:Kn} {s:St},CY c tt N ops l kn s K→ ∃s',WQ P N ops l s s'∧K s'
 |[],kn,s,h=>⟨s,rfl,h⟩
 |o::l,kn,s,h=>by
  obtain⟨kn1,s1,h1,h2⟩:=Iz htt hc h
  obtain⟨s',h3,h4⟩:=BJ htt hc h2
  exact⟨s',⟨s1,h1,h3⟩,h4⟩
theorem M2[Syms]{P:Program}{c:CallT}{tt:TT}{N:Nat}{ops:Array Oper}{K:St→Prop}{Q:Exit→Act→World→Prop}(htt:TT.ok P tt)(hc:c.ok P):∀(l:List Oper) (k:Nat) (kn:Kn) (s:St) (ι:Inj) (a:Act) (w:World),(∀j,l[j]?=ops[k+j]?)→CY c tt N ops l kn s K→RelS N ι s a w→
 (∀s' κ a' w',K s'→RelS N κ s' a' w'→StepN ι s.heap s.nx w κ s'.heap s'.nx w'→Q .normal a' w')→wpOps P ops Q (List.range' k l.length) a w
 |[],k,kn,s,ι,a,w,_,h,hS,hQ=>hQ s ι a w h hS (StepN.refl ι _ _ w)
 |o::l,k,kn,s,ι,a,w,hl,h,hS,hQ=>by
  have ho:ops[k]?=some o:=by simpa using(hl 0).symm
  rw[List.length_cons,List.range'_succ]
  simp only[wpOps,ho]
  refine Uc htt hc h ι a w _ Q hS (fun s1 κ a' w' ⟨kn1,h1⟩ hS' hst=>?_)
  exact M2 htt hc l (k+1) kn1 s1 κ a' w' (fun j=>by have:=hl (j+1);simpa[Nat.add_assoc,Nat.add_comm 1 j]using this) h1 hS' (fun s' μ a'' w'' h2 hS'' hst'=>hQ s' μ a'' w'' h2 hS'' (hst.trans hst'))
def WP(c:CallT)(tt:TT)(N:Nat)(ops:Array Oper)(ms:List Nat)(s:St):List Oper→Nat→Kn→Env→Heap→List (Nat×List (Nat×Blk))→(Env→Heap→Prop)→Prop
 |[],_,_,e,h,_,K=>K e h
 |o::l,i,kn,e,h,sp,K=>
  bif Z6 N o.dst then
   JE ops o kn e
    (fun kn e=>match V4 o.op with
      |some (fo,args)=>match evE e fo with
       | .func fid caps=>c (KN fid) (VV fid (args.toList.map (evE e)) caps) (ZK (Gu s.heap (ms.getD i 0) sp)) (s.nx+i*RR) fun v H' nx'=>
         bif Nat.ble nx' (s.nx+i*RR+RR)then
          (match Wp (s.nx+i*RR) H' H' with
          |[]=>WP c tt N ops ms s l (i+1) kn (e.put o.dst v) h sp K
          |x::y=>WP c tt N ops ms s l (i+1) kn (e.put o.dst v) (Zm h (x::y)) (sp++[(i,x::y)]) K)
         else False
       |_=>False
      |none=>opT tt (evE e) (ZK (Gu s.heap (ms.getD i 0) sp)) (s.nx+i*RR) o.op fun r=>
       bif r.calm then
        (match r.news (s.nx+i*RR)with
        |[]=>WP c tt N ops ms s l (i+1) kn (e.put o.dst r.v) h sp K
        |x::y=>WP c tt N ops ms s l (i+1) kn (e.put o.dst r.v) (Zm h (x::y)) (sp++[(i,x::y)]) K)
       else False)
    (fun kn e=>WP c tt N ops ms s l (i+1) kn (e.put o.dst undefA) h sp K)
  else False
theorem Zn.env'[Syms]{P:Program}{N:Nat}{ops:Array Oper}{o:Oper}{e e':Env}{H:Heap}{m:Nat}{v v':AVal}{news:List (Nat×Blk)}(he:∀ι t u,RelV ι (e'.get t) u→RelV ι (e.get t) u)(hv:∀ι u,RelV ι v' u→RelV ι v u)(h:Zn P N ops o e H m v' news):Zn P N ops o e' H m v news:=
 fun ι a w K Q h1 h2 h3 h4 h5 h6=>h ι a w K Q h1 h2 (fun t=>he ι t _ (h3 t)) h4 h5 fun κ u w' hu hc=>h6 κ u w' (hv κ u hu) hc
def Fj[Syms](P:Program)(N:Nat)(ops:Array Oper)(ms:List Nat)(s:St):Nat→List Oper→CalmSt→CalmSt→Prop
 |_,[],c,c'=>c'=c
 |i,o::l,c,c'=>Z6 N o.dst=true∧ ∃v news,Zn P N ops o (c.env.only (o.looksAt ops)) (Km s.heap (ms.getD i 0) 0 c.nws) (s.nx+i*RR) v news∧(∀id b,(id,b)∈news→s.nx+i*RR≤id∧id<s.nx+i*RR+RR)∧
   Fj P N ops ms s (i+1) l ⟨c.vals++[v],c.nws++[news],c.env.put o.dst v,Zm c.heap news⟩ c'
theorem KY[Syms]{P:Program}{N:Nat}{ops:Array Oper}{ms:List Nat}{s:St}:
 ∀(l:List Oper) (i:Nat) (c c':CalmSt),(∀j,j<l.length→l[j]?=ops[i+j]?)→c.vals.length=i→c.nws.length=i→Fj P N ops ms s i l c c'→
  c'.vals.length=i+l.length∧c'.nws.length=i+l.length∧(∃vs,c'.vals=c.vals++vs)∧(∃ws,c'.nws=c.nws++ws)∧
  ∀(v:Nat→AVal) (nw:Nat→List (Nat×Blk)),(∀k,k<i+l.length→c'.vals[k]?=some (v k)∧c'.nws[k]?=some (nw k))→c.env=QA s.env (Qh ops) v i→c.heap=Y7 s.heap nw (fun _=>true) i→
   c'.env=QA s.env (Qh ops) v (i+l.length)∧c'.heap=Y7 s.heap nw (fun _=>true) (i+l.length)∧
   ∀k o,i≤k→k<i+l.length→ops[k]?=some o→Z6 N o.dst=true∧Zn P N ops o ((QA s.env (Qh ops) v k).only (o.looksAt ops)) (Y7 s.heap nw (fun q=>(ms.getD k 0).testBit q) k) (s.nx+k*RR) (v k) (nw k)∧
    ∀id b,(id,b)∈nw k→W1 s.nx k id
 |[],i,c,c',_,hv,hn,h=>by
  obtain rfl:c'=c:=h
  exact⟨by simpa using hv,by simpa using hn,⟨[],by simp⟩,⟨[],by simp⟩,fun v nw _ he hh=>⟨by simpa using he,by simpa using hh,fun k o h1 h2=>by simp at h2;omega⟩⟩
 |o::l,i,c,c',hl,hv,hn,h=>by
  obtain⟨hdst,x,news,f1,f2,h⟩:=h
  obtain⟨ih1,ih2,⟨vs,ih3⟩,⟨ws,ih4⟩,ih5⟩:=KY l (i+1) _ c' (fun j hj=>by have:=hl (j+1) (by simpa using hj);simpa[Nat.add_assoc,Nat.add_comm 1 j]using this) (by simp[hv]) (by simp[hn]) h
  have ho:ops[i]?=some o:=by have:=hl 0 (by simp);simpa using this.symm
  refine⟨by simp;omega,by simp;omega,⟨x::vs,by simp[ih3]⟩,⟨news::ws,by simp[ih4]⟩,fun v nw hvn he hh=>?_⟩
  have hvi:v i=x:=by
   have:=(hvn i (by simp)).1
   rw[ih3]at this
   simp[hv]at this
   exact this.symm
  have hni:nw i=news:=by
   have:=(hvn i (by simp)).2
   rw[ih4]at this
   simp[hn]at this
   exact this.symm
  obtain⟨g1,g2,g3⟩:=ih5 v nw (fun k hk=>hvn k (by simp at hk ⊢;omega)) (by
   simp only[QA]
   rw[he,hvi,show Qh ops i=o.dst by simp[Qh,ho]]) (by
   simp only[Y7,if_true]
   rw[hh,hni])
  rw[List.length_cons,show i+(l.length+1)=i+1+l.length by omega]
  refine⟨g1,g2,fun k p h1 h2 hp=>?_⟩
  rcases Nat.lt_or_ge i k with hik|hik
  ·exact g3 k p (by omega) h2 hp
  ·obtain rfl:k=i:=by omega
   rw[ho]at hp
   cases hp
   have hvis:Km s.heap (ms.getD k 0) 0 c.nws=Y7 s.heap nw (fun q=>(ms.getD k 0).testBit q) k:=by
    have:=GA (nw:=nw) (p:=fun q=>(ms.getD k 0).testBit q) (m:=ms.getD k 0) (fun _=>rfl) c.nws 0 s.heap s.heap (fun j hj=>by
     have:=(hvn j (by simp;omega)).2
     rw[ih4,List.append_assoc,List.getElem?_append_left hj]at this
     simpa using this) rfl
    rw[this,Nat.zero_add,hn]
   rw[hvis,he]at f1
   refine⟨hdst,by rw[hvi,hni];exact f1,fun id b hin=>?_⟩
   rw[hni]at hin
   have:=f2 id b hin
   refine⟨this.1,?_⟩
   rw[Nat.add_mul]
   omega
theorem Lv[Syms]{e e':Env}(he:∀k,e.get k=e'.get k)(l:List Tmp):∀ι t u,RelV ι ((e.only l).get t) u→RelV ι ((e'.only l).get t) u:=by
 intro ι t u h
 rw[Env.only_get]at h ⊢
 split at h
 ·rename_i hc;rw[if_pos hc,←he];exact h
 ·rename_i hc;rw[if_neg hc];exact h
theorem Ui[Syms]{P:Program}{c:CallT}{tt:TT}{N:Nat}{ops:Array Oper}{ms:List Nat}{s:St}{K:Env→Heap→Prop}(htt:TT.ok P tt)(hc:c.det P):∀(l:List Oper) (i:Nat) (kn:Kn) (e':Env) (h:Heap) (sp:List (Nat×List (Nat×Blk))),WP c tt N ops ms s l i kn e' h sp K→
 ∀C:CalmSt,ZT C.env e'→C.heap=h→XG 0 C.nws=sp→C.nws.length=i→ ∃C',Fj P N ops ms s i l C C'∧ ∃e1',ZT C'.env e1'∧K e1' C'.heap
 |[],i,kn,e',h,sp,hk,C,he,hh,hsp,hlen=>⟨C,rfl,e',he,by subst hh;exact hk⟩
 |o::l,i,kn,e',h,sp,hk,C,he,hh,hsp,hlen=>by
  unfold WP at hk
  cases hd:Z6 N o.dst with
  |false=>rw[hd]at hk;exact hk.elim
  |true=>
   rw[hd]at hk
   simp only[cond_true]at hk
   obtain⟨kn2,e2,he2,hk⟩:=VE hk
   have hee:ZT C.env e2:=he.trans he2
   have hvis:Km s.heap (ms.getD i 0) 0 C.nws=Gu s.heap (ms.getD i 0) sp:=by rw[←hsp,Gz]
   have rest:∀(v:AVal) (news:List (Nat×Blk)),Zn P N ops o (e2.only (o.looksAt ops)) (Gu s.heap (ms.getD i 0) sp) (s.nx+i*RR) v news→(∀id b,(id,b)∈news→s.nx+i*RR≤id∧id<s.nx+i*RR+RR)→
    (match news with
      |[]=>WP c tt N ops ms s l (i+1) kn2 (e2.put o.dst v) h sp K
      |x::y=>WP c tt N ops ms s l (i+1) kn2 (e2.put o.dst v) (Zm h (x::y)) (sp++[(i,x::y)]) K)→
    ∃C',Fj P N ops ms s i (o::l) C C'∧ ∃e1',ZT C'.env e1'∧K e1' C'.heap:=by
    intro v news hsem hnums hrest
    have hsem':Zn P N ops o (C.env.only (o.looksAt ops)) (Km s.heap (ms.getD i 0) 0 C.nws) (s.nx+i*RR) v news:=by
     rw[hvis]
     exact hsem.env' (Lv hee _) (fun _ _ h=>h)
    cases news with
    |nil=>
     obtain⟨C',g1,g2⟩:=Ui htt hc l (i+1) kn2 _ h sp hrest ⟨C.vals++[v],C.nws++[[]],C.env.put o.dst v,Zm C.heap []⟩ (hee.put _ _) hh (by rw[XK,hsp];simp) (by simp[hlen])
     exact⟨C',⟨hd,v,[],hsem',hnums,g1⟩,g2⟩
    |cons x y=>
     obtain⟨C',g1,g2⟩:=Ui htt hc l (i+1) kn2 _ _ _ hrest ⟨C.vals++[v],C.nws++[x::y],C.env.put o.dst v,Zm C.heap (x::y)⟩ (hee.put _ _) (by rw[hh]) (by rw[XK,hsp,Nat.zero_add,hlen]) (by simp[hlen])
     exact⟨C',⟨hd,v,x::y,hsem',hnums,g1⟩,g2⟩
   rcases hk with⟨hw,hk⟩|⟨hw,hk⟩
   ·split at hk
    ·rename_i fo args hcall
     obtain⟨argTypes,ho⟩:=XU hcall
     split at hk
     ·rename_i fid caps hf
      obtain⟨v,H',nx',h1,h2,h3⟩:=hc _ _ _ _ _ hk
      cases hb:Nat.ble nx' (s.nx+i*RR+RR)with
      |false=>rw[hb]at h3;exact h3.elim
      |true=>
       rw[hb]at h3
       simp only[cond_true]at h3
       have k1:evE (e2.only (o.looksAt ops)) fo=evE e2 fo:=Wv (by rw[ho];simp[Op.operands,Call.operands])
       have k2:args.toList.map (evE (e2.only (o.looksAt ops)))=args.toList.map (evE e2):=List.map_congr_left fun x hx=>Wv (by rw[ho];simp[Op.operands,Call.operands];exact .inr (by simpa using hx))
       exact rest v (Wp (s.nx+i*RR) H' H') (UC (by rw[XX];exact hw) ho (by rw[k1];exact hf) h1 (by rw[k2];exact h2) (Nat.le_of_ble_eq_true hb) (fun id b hin=>⟨(QQ hin).1,(QQ hin).2.1⟩)) (fun id b hin=>(QQ hin).2.2) h3
     ·exact hk.elim
    ·rename_i hcall
     have nums:∀(r:Res) id b,(id,b)∈r.news (s.nx+i*RR)→s.nx+i*RR≤id∧id<s.nx+i*RR+RR:=by
      intro r id b hin
      cases r with
      |new b0 v0=>
       simp only[Res.news,List.mem_singleton,Prod.mk.injEq]at hin
       rw[hin.1]
       exact⟨Nat.le_refl _,by unfold RR;omega⟩
      |_=>simp[Res.news]at hin
     rcases Ju hk with⟨r,h1,h2⟩|⟨r',r,h1,h2,h3⟩
     ·cases hb:r.calm with
      |false=>rw[hb]at h2;exact h2.elim
      |true=>
       rw[hb]at h2
       simp only[cond_true]at h2
       exact rest r.v (r.news (s.nx+i*RR)) (MZ htt (by rw[XX];exact hw) (by rw[Vp o.op (fun x hx=>Wv hx)];exact h1) hb) (nums r) h2
     ·obtain⟨_,_,g3,g4,g5⟩:=Res.sees_parts (r':=r') (r:=r) h2 [] (s.nx+i*RR)
      cases hb:r.calm with
      |false=>rw[hb]at h3;exact h3.elim
      |true=>
       rw[hb]at h3
       simp only[cond_true]at h3
       refine rest r.v (r.news (s.nx+i*RR)) ?_ (nums r) h3
       rw[←g5]
       refine Zn.env' (e:=unE (e2.only (o.looksAt ops))) (fun ι t u h=>by rw[Vt];exact h.un) g3 ?_
       refine MZ htt (by rw[GR,XX];exact hw) ?_ (by rw[g4];exact hb)
       rw[N1,Vp o.op (fun x hx=>(by rw[Wv hx]:(evE (e2.only (o.looksAt ops)) x).un=(evE e2 x).un))]
       exact h1
   ·exact rest undefA [] ((Dm (P:=P) (N:=N) (ops:=ops) (o:=o) (env:=e2.only (o.looksAt ops)) (by rw[XX];exact hw))) (fun _ _ h=>nomatch h) hk
theorem UQ[Syms]{P:Program}{N:Nat}(hm:P.follows .mixedOrders=true){id:Nat}{ops:Array Oper}{s s':St}{ms:List Nat}{n:Nat}
 (hplan:U5 ops ms (mvs ops) n=true) {c:CalmSt} (hrun:Fj P N ops ms s 0 (ops.toList.take n) ⟨[],[],s.env,s.heap⟩ c)
 (htail:WQ P N ops (ops.toList.drop n) ⟨c.env,c.heap,s.nx+n*RR⟩ s')
 {Q:Exit→Act→World→Prop} {ι:Inj} {a:Act} {w:World} (hS:RelS N ι s a w) (hQ:∀κ a' w',RelS N κ s' a' w'→StepN ι s.heap s.nx w κ s'.heap s'.nx w'→Q .normal a' w'):(Code.region id ops true).wp P Q a w:=by
 obtain⟨pl,hmv⟩:=U4 hplan
 have hle:=pl.le
 obtain⟨hnd,hmo⟩:=VC ops ops.size
 generalize hmvs:mvs ops=l at *
 unfold mvs at hmvs
 rw[hmvs]at hnd hmo
 have hlen:(ops.toList.take n).length=n:=by simp;omega
 obtain⟨h1,h2,_,_,h3⟩:=KY (ops.toList.take n) 0 _ c (fun j hj=>by
  rw[hlen]at hj
  rw[List.getElem?_take_of_lt hj]
  simp) rfl rfl hrun
 rw[hlen,Nat.zero_add]at h1 h2
 obtain⟨g1,g2,g3⟩:=h3 (fun k=>c.vals.getD k .any) (fun k=>c.nws.getD k []) (fun k hk=>by
  rw[hlen,Nat.zero_add]at hk
  have e1:k<c.vals.length:=by omega
  have e2:k<c.nws.length:=by omega
  simp[e1,e2]) rfl rfl
 rw[hlen,Nat.zero_add]at g1 g2 g3
 refine KR (n:=n) (M:=fun i k=>(ms.getD i 0).testBit k) (v:=fun k=>c.vals.getD k .any) (nw:=fun k=>c.nws.getD k []) hm ⟨pl,fun i o ho hi=>(g3 i o (Nat.zero_le _) hi ho).1,fun k hk id b hin=>?_,fun i o ho hi=>(g3 i o (Nat.zero_le _) hi ho).2.1,?_⟩ (l:=l) (fun k hk=>List.contains_iff_mem.1 hk) hnd (fun i hi=>⟨UO (hmo i hi).2,(hmv i hi).1,fun k=>by rw[(hmv i hi).2];exact Nat.zero_testBit k⟩) hS hQ
 ·exact(g3 k _ (Nat.zero_le _) hk (Array.getElem?_eq_getElem (by omega))).2.2 id b hin
 ·have:Yz ops n s (fun k=>c.vals.getD k .any) (fun k=>c.nws.getD k [])=⟨c.env,c.heap,s.nx+n*RR⟩:=by
   unfold Yz
   rw[←g1,←g2]
  rw[this]
  exact htail
abbrev Pl:=Option (List Nat×Nat)
inductive PlanIs(ops:Array Oper)(ms:List Nat)(n:Nat):Prop where
 |mk (h:U5 ops ms (mvs ops) n=true)
def NM(c ci:CallT)(tt:TT)(N:Nat)(ops:Array Oper)(draw:Bool)(pl:Pl)(s:St)(K:St→Prop):Prop:=
 match draw with
 |true=>match pl with
  |some (ms,n)=>PlanIs ops ms n∧WP c tt N ops ms s (ops.toList.take n) 0 [] s.env s.heap [] fun e h=>CY c tt N ops (ops.toList.drop n) [] ⟨e,h,s.nx+n*RR⟩ K
  |none=>False
 |false=>CY ci tt N ops ops.toList [] s K
theorem WQ.env_eq[Syms]{P:Program}{N:Nat}{ops:Array Oper}{l:List Oper}{e e':Env}{H:Heap}{nx:Nat}{s':St}(he:ZT e e')(h:WQ P N ops l ⟨e',H,nx⟩ s'):l=[]∧s'=⟨e',H,nx⟩∨WQ P N ops l ⟨e,H,nx⟩ s':=by
 cases l with
 |nil=>exact .inl ⟨rfl,h.symm⟩
 |cons o l=>
  obtain⟨s1,h1,h2⟩:=h
  exact .inr ⟨s1,Xd.env_eq he h1,h2⟩
theorem E5[Syms]{P:Program}{c ci:CallT}{tt:TT}{N:Nat}(htt:TT.ok P tt)(hc:c.det P)(hci:ci.ok P)(hm:P.follows .mixedOrders=true){id:Nat}{ops:Array Oper}{draw:Bool}{pl:Pl}{s:St}{K:St→Prop}(h:NM c ci tt N ops draw pl s K)
 {Q:Exit→Act→World→Prop} {ι:Inj} {a:Act} {w:World} (hS:RelS N ι s a w) (hQ:∀s' κ a' w',K s'→RelS N κ s' a' w'→StepN ι s.heap s.nx w κ s'.heap s'.nx w'→Q .normal a' w'):(Code.region id ops draw).wp P Q a w:=by
 cases draw with
 |false=>
  refine wp_region ?_
  have:=M2 (Q:=Q) htt hci ops.toList 0 [] s ι a w (fun j=>by simp) h hS hQ
  rwa [List.range_eq_range',←Array.length_toList]
 |true=>
  cases pl with
  |none=>exact h.elim
  |some q=>
   obtain⟨ms,n⟩:=q
   obtain⟨⟨hp⟩,h⟩:=h
   obtain⟨c',g1,e1',g2,g3⟩:=Ui htt hc _ 0 [] s.env s.heap [] h ⟨[],[],s.env,s.heap⟩ (.refl _) rfl rfl rfl
   obtain⟨s',k1,k2⟩:=BJ htt hc g3
   rcases WQ.env_eq g2 k1 with⟨hl,rfl⟩|k1
   ·refine UQ hm hp g1 (s':=⟨c'.env,c'.heap,s.nx+n*RR⟩) (by rw[hl];rfl) hS (fun κ a' w' hS' hst=>hQ _ κ a' w' k2 (hS'.env_eq g2) hst)
   ·exact UQ hm hp g1 k1 hS (fun κ a' w' hS' hst=>hQ s' κ a' w' k2 hS' hst)
end Go.Av
end
end
section
set_option linter.unusedVariables false
set_option linter.unusedSimpArgs false
noncomputable section
namespace Go.Av
def DW(v:AVal)(K:AVal→Prop):Prop:=
 match v with
 | .agg cs=>VF cs fun cs=>K (.agg cs)
 | .tup cs=>VF cs fun cs=>K (.tup cs)
 | .func f cs=>VF cs fun cs=>K (.func f cs)
 |v=>DV v K
theorem FZ(v:AVal)(K:AVal→Prop):DW v K=K v:=by
 unfold DW
 split
 ·exact Yi _ _
 ·exact Yi _ _
 ·exact Yi _ _
 ·exact MK _ _
def LT(b:Option Blk)(K:Option Blk→Prop):Prop:=
 match b with
 |none=>K none
 |some (.cells rows ro)=>@Bool.rec (fun _=>Prop) (K (some (.cells rows false))) (K (some (.cells rows true))) ro
 |some (.iter s p)=>K (some (.iter s p))
theorem Iw(b:Option Blk)(K:Option Blk→Prop):LT b K=K b:=by
 cases b with
 |none=>rfl
 |some b=>cases b with
  |cells rows ro=>cases ro<;>rfl
  |iter s p=>rfl
def Ll(n:Nat):Bool:=@Bool.rec (fun _=>Bool) (Nat.beq n 9) true (Nat.beq n 7)
def YW(H:Heap)(K:Heap→Prop):Prop:=
 match H with
 |[]=>K []
 |(n,b)::t=>@Bool.rec (fun _=>Prop) (@Bool.rec (fun _=>Prop) (LT b fun b=>YW t fun t=>K ((n,b)::t)) (YW t fun t=>K ((n,b)::t)) (Ll n)) (K ((n,b)::t)) (Nat.beq n 4294967295)
theorem Wf:∀(H:Heap) (K:Heap→Prop),YW H K=K H
 |[],K=>rfl
 |(n,b)::t,K=>by
  simp only[YW,Iw,Wf t]
  cases Nat.beq n 4294967295<;>cases Ll n<;>rfl
def WT(e:Env)(d:Option Tmp)(v:AVal)(K:Env→Prop):Prop:=DW v fun v=>match d with
 |some d=>K ((d,v)::e)
 |none=>K e
theorem WK(e:Env)(d:Option Tmp)(v:AVal)(K:Env→Prop):WT e d v K=K (e.put d v):=by
 unfold WT
 rw[FZ]
 cases d<;>rfl
def Cs(c:CallT)(tt:TT)(N:Nat)(ops:Array Oper)(o:Oper)(kn:Kn)(e:Env)(H:Heap)(nx:Nat)(K:Kn→Env→Heap→Nat→Prop):Prop:=
 bif Z6 N o.dst then
  JE ops o kn e
   (fun kn e=>match V4 o.op with
     |some (fo,args)=>match evE e fo with
      | .func fid caps=>VF (VV fid (args.toList.map (evE e)) caps) fun as=>c (KN fid) as H nx fun v H' nx'=>WT e o.dst v fun e=>YW H' fun H=>K kn e H nx'
      |_=>False
     |none=>opT tt (evE e) H nx o.op fun r=>match r with
      | .val v=>WT e o.dst v fun e=>K kn e H nx
      | .new b v=>WT e o.dst v fun e=>YW (H.set nx (some b)) fun H=>K kn e H (nx+1)
      | .upd h v=>WT e o.dst v fun e=>YW h fun H=>K kn e H (nx+1))
   (fun kn e=>WT e o.dst undefA fun e=>K kn e H nx)
 else False
theorem MN(c:CallT)(tt:TT)(N:Nat)(ops:Array Oper)(o:Oper)(kn:Kn)(e:Env)(H:Heap)(nx:Nat)(K:Kn→St→Prop):Cs c tt N ops o kn e H nx (fun kn e H nx=>K kn ⟨e,H,nx⟩)=Gg c tt N ops o kn ⟨e,H,nx⟩ K:=by
 have hr:∀(kn:Kn) (e:Env) (r:Res),(match r with
        | .val v=>WT e o.dst v fun e=>K kn ⟨e,H,nx⟩
        | .new b v=>WT e o.dst v fun e=>YW (H.set nx (some b)) fun H=>K kn ⟨e,H,nx+1⟩
        | .upd h v=>WT e o.dst v fun e=>YW h fun H=>K kn ⟨e,H,nx+1⟩)=K kn ⟨e.put o.dst r.v,r.heap H nx,r.next nx⟩:=by
  intro kn e r
  cases r<;>simp only[WK,Wf]<;>rfl
 unfold Cs Gg
 simp only[hr]
 simp only[WK,Wf,Yi]
 try rfl
def Ld(c:CallT)(tt:TT)(N:Nat)(ops:Array Oper):List Oper→Kn→Env→Heap→Nat→(Env→Heap→Nat→Prop)→Prop
 |[],_,e,H,nx,K=>K e H nx
 |o::l,kn,e,H,nx,K=>Cs c tt N ops o kn e H nx fun kn e H nx=>Ld c tt N ops l kn e H nx K
theorem Hj(c:CallT)(tt:TT)(N:Nat)(ops:Array Oper):∀(l:List Oper) (kn:Kn) (e:Env) (H:Heap) (nx:Nat) (K:St→Prop),Ld c tt N ops l kn e H nx (fun e H nx=>K ⟨e,H,nx⟩)=CY c tt N ops l kn ⟨e,H,nx⟩ K
 |[],kn,e,H,nx,K=>rfl
 |o::l,kn,e,H,nx,K=>by
  have ih:=Hj c tt N ops l
  simp only[Ld,CY]
  rw[←MN]
  simp only[ih]
def US(c:CallT)(tt:TT)(N:Nat)(ops:Array Oper)(ms:List Nat)(H0:Heap)(nx:Nat):List Oper→Nat→Kn→Env→Heap→List (Nat×List (Nat×Blk))→(Env→Heap→Prop)→Prop
 |[],_,_,e,h,_,K=>K e h
 |o::l,i,kn,e,h,sp,K=>
  bif Z6 N o.dst then
   JE ops o kn e
    (fun kn e=>match V4 o.op with
      |some (fo,args)=>match evE e fo with
       | .func fid caps=>VF (VV fid (args.toList.map (evE e)) caps) fun as=>c (KN fid) as (ZK (Gu H0 (ms.getD i 0) sp)) (nx+i*RR) fun v H' nx'=>
         bif Nat.ble nx' (nx+i*RR+RR)then
          (match Wp (nx+i*RR) H' H' with
          |[]=>WT e o.dst v fun e=>US c tt N ops ms H0 nx l (i+1) kn e h sp K
          |x::y=>WT e o.dst v fun e=>YW (Zm h (x::y)) fun h=>US c tt N ops ms H0 nx l (i+1) kn e h (sp++[(i,x::y)]) K)
         else False
       |_=>False
      |none=>opT tt (evE e) (ZK (Gu H0 (ms.getD i 0) sp)) (nx+i*RR) o.op fun r=>
       match r with
       | .val v=>WT e o.dst v fun e=>US c tt N ops ms H0 nx l (i+1) kn e h sp K
       | .new b v=>bif b.ro then False else WT e o.dst v fun e=>YW (Zm h [(nx+i*RR,b)]) fun h=>US c tt N ops ms H0 nx l (i+1) kn e h (sp++[(i,[(nx+i*RR,b)])]) K
       | .upd _ _=>False)
    (fun kn e=>WT e o.dst undefA fun e=>US c tt N ops ms H0 nx l (i+1) kn e h sp K)
  else False
theorem CF(c:CallT)(tt:TT)(N:Nat)(ops:Array Oper)(ms:List Nat)(s:St):∀(l:List Oper) (i:Nat) (kn:Kn) (e:Env) (h:Heap) (sp:List (Nat×List (Nat×Blk))) (K:Env→Heap→Prop),US c tt N ops ms s.heap s.nx l i kn e h sp K=WP c tt N ops ms s l i kn e h sp K
 |[],i,kn,e,h,sp,K=>rfl
 |o::l,i,kn,e,h,sp,K=>by
  have ih:=CF c tt N ops ms s l
  unfold US WP
  have hr:∀(kn:Kn) (e:Env) (r:Res),(match r with
         | .val v=>WT e o.dst v fun e=>US c tt N ops ms s.heap s.nx l (i+1) kn e h sp K
         | .new b v=>bif b.ro then False else WT e o.dst v fun e=>YW (Zm h [(s.nx+i*RR,b)]) fun h=>US c tt N ops ms s.heap s.nx l (i+1) kn e h (sp++[(i,[(s.nx+i*RR,b)])]) K
         | .upd _ _=>False)=(bif r.calm then
           (match r.news (s.nx+i*RR)with
           |[]=>WP c tt N ops ms s l (i+1) kn (e.put o.dst r.v) h sp K
           |x::y=>WP c tt N ops ms s l (i+1) kn (e.put o.dst r.v) (Zm h (x::y)) (sp++[(i,x::y)]) K)
         else False):=by
   intro kn e r
   cases r with
   |val v=>simp only[WK,Wf,ih];rfl
   |new b v=>simp only[WK,Wf,ih,Res.calm,Res.news,Res.v];cases b.ro<;>rfl
   |upd h v=>rfl
  simp only[hr]
  simp only[WK,Yi,Wf,ih]
  try rfl
def NO(c ci:CallT)(tt:TT)(N:Nat)(ops:Array Oper)(draw:Bool)(pl:Pl)(e:Env)(H:Heap)(nx:Nat)(K:Env→Heap→Nat→Prop):Prop:=
 match draw with
 |true=>match pl with
  |some (ms,n)=>PlanIs ops ms n∧US c tt N ops ms H nx (ops.toList.take n) 0 [] e H [] fun e h=>Ld c tt N ops (ops.toList.drop n) [] e h (nx+n*RR) K
  |none=>False
 |false=>Ld ci tt N ops ops.toList [] e H nx K
theorem NN(c ci:CallT)(tt:TT)(N:Nat)(ops:Array Oper)(draw:Bool)(pl:Pl)(e:Env)(H:Heap)(nx:Nat)(K:St→Prop):NO c ci tt N ops draw pl e H nx (fun e H nx=>K ⟨e,H,nx⟩)=NM c ci tt N ops draw pl ⟨e,H,nx⟩ K:=by
 unfold NO NM
 simp only[Hj]
 cases draw with
 |false=>rfl
 |true=>
  cases pl with
  |none=>rfl
  |some q=>
   obtain⟨ms,n⟩:=q
   simp only
   rw[←CF c tt N ops ms ⟨e,H,nx⟩]
def WU:List Nat→Env→(Env→Prop)→Prop
 |[],_,K=>K []
 |k::l,e,K=>DW (e.get k) fun v=>WU l e fun r=>match v with
  | .any=>K r
  |v=>K ((k,v)::r)
theorem Y0:∀(l:List Nat) (e:Env) (K:Env→Prop),WU l e K→ ∃e',ZT (prune l e) e'∧K e'
 |[],e,K,h=>⟨[],.refl _,h⟩
 |k::l,e,K,h=>by
  simp only[WU,FZ]at h
  obtain⟨r,h1,h2⟩:=Y0 l e _ h
  have key:ZT (prune (k::l) e) ((k,e.get k)::r):=by
   intro j
   show Env.get ((k,e.get k)::prune l e) j=_
   rw[Env.get_cons,Env.get_cons,h1 j]
  split at h2
  ·rename_i hv
   refine⟨r,fun j=>?_,h2⟩
   rw[key j,Env.get_cons]
   by_cases hj:j=k
   ·subst hj
    rw[Nat.beq_refl,hv]
    show AVal.any=_
    have:=h1 j
    by_cases hin:l.contains j=true
    ·rw[←this,prune_get',if_pos hin,hv]
    ·rw[←this,prune_get',if_neg hin]
   ·rw[Qd hj];rfl
  ·exact⟨_,key,h2⟩
where
 prune_get' (e:Env):∀(keep:List Nat) (k:Nat),(prune keep e).get k=if keep.contains k then e.get k else .any
 |[],k=>by simp[prune,Env.get_nil]
 |x::l,k=>by
  have ih:=prune_get' e l k
  unfold prune at ih ⊢
  simp only[List.map_cons,Env.get_cons]
  by_cases h:k=x
  ·subst h;simp[Nat.beq_refl]
  ·rw[Qd h]
   simp only[cond_false]
   rw[ih]
   simp[h]
end Go.Av
end
end
section
set_option linter.unusedVariables false
set_option linter.unusedSimpArgs false
noncomputable section
namespace Go.Av
section
variable {P:Program} {tt:TT} {ι:Inj}
def Fz(ι:Inj)(w:World):Prop:=∀g cs,ι.fz g=some cs→ ∃e z,w.heap[g]?=some (.cells cs e z)
def Wu(ρ:Operand→AVal):Op→Bool
 | .move _| .assign _=>true
 | .indexAddr _ x _=>match ρ x with| .vs _ _=>true|_=>false
 | .fieldAddr _ x _=>match ρ x with| .vp _ _=>true| .ptr _ _ _=>true|_=>false
 | .load _ x=>match ρ x with| .vp _ _=>true|_=>false
 |_=>false
def VH(ρ:Operand→AVal)(op:Op):Bool:=Wu (fun x=>(ρ x).un) op
theorem EA{tt:TT}{ρ:Operand→AVal}{m:Nat}{op:Op}{r:Res}(h:VH ρ op=true)(ha:aop tt ρ [] m op=some r):Wu ρ op=true:=by
 cases op<;>first|rfl|exact h|skip
 case indexAddr t x ix=>
  simp only[VH,Wu]at h ⊢
  simp only[aop,Option.map_eq_some_iff]at ha
  obtain⟨v,hv,_⟩:=ha
  cases hx:ρ x with
  |vt sz n f=>
   rw[hx]at hv
   unfold ZI at hv
   split at hv<;>simp_all
  |_=>first|(rw[hx];rw[hx]at h;exact h)|(rw[hx]at h;cases h)|simp_all [AVal.un]
 case fieldAddr s x f=>
  simp only[VH,Wu]at h ⊢
  cases hx:ρ x<;>simp only[hx]at h<;>first|rfl|exact h|cases h
 case load t x=>
  simp only[VH,Wu]at h ⊢
  cases hx:ρ x<;>simp only[hx]at h<;>first|rfl|exact h|cases h
theorem Gf[Syms](htt:TT.ok P tt){ρ:Operand→AVal}{σ:Operand→Value}(hev:∀x,RelV ι (ρ x) (σ x)){o:Oper}{m:Nat}{v:AVal}(hf:Wu ρ o.op=true)(h:aop tt ρ [] m o.op=some (.val v)):
 ∃u,RelV ι v u∧ ∀w,Fz ι w→(execOp σ o).run P w= .ok (.value u) w:=by
 unfold execOp
 cases ho:o.op<;>rw[ho]at hf h<;>simp only[Wu]at hf<;>simp only[aop]at h<;>simp only
 case move x=>cases h;exact⟨σ x,hev x,fun w _=>rfl⟩
 case assign x=>cases h;exact⟨σ x,hev x,fun w _=>rfl⟩
 case indexAddr t x ix=>
  split at hf
  rotate_left
  ·cases hf
  rename_i sz rows hx
  rw[Option.map_eq_some_iff]at h
  obtain⟨z,hz,he⟩:=h
  cases he
  have hxv:=hev x
  rw[hx]at hz hxv
  unfold ZI at hz
  split at hz
  ·cases ‹AVal.vs _ _=AVal.slice _ _ _ _ _›
  ·rename_i sz' rows' kk iv hty he1 he2
   cases he1
   have hyv:=hev ix
   rw[he2]at hyv
   obtain⟨d,i,hd,hi,hk,_⟩:=Qk htt hty
   obtain rfl:=(Qg hk).2.2.2.1 _ rfl
   split at hz
   ·rename_i ety hety
    obtain⟨ed,ei,hed,hei,hek,hes,_⟩:=Qk htt hety
    split at hz
    ·rename_i hc
     obtain⟨h0,h1,h2⟩:=hc
     cases hz
     have hyv:=hyv.of_int
     obtain⟨gg,o',c,cs,g1,g2,g3,g4,g5,g6,g7,hxe⟩:=hxv.of_vs (fun e=>by rw[e,List.length_nil]at h1;omega)
     have hlt:iv.toNat<rows.length:=by omega
     have hrow:rows[iv.toNat]?=some (rows.getD iv.toNat []):=by simp[hlt]
     have hlen:=g5 _ _ hrow
     have hmul:iv.toNat*sz+sz≤rows.length*sz:=by
      have:=Nat.mul_le_mul_right sz (show iv.toNat+1≤rows.length by omega)
      rwa [Nat.add_mul,Nat.one_mul]at this
     refine⟨_,.vp _ 0 gg (o'+iv.toNat*sz) cs g1 (by omega) (fun q v hq hv=>g6 iv.toNat q v hlt (by omega) hv) (fun q x v hq hv=>g7 iv.toNat q _ x v hrow hq hv),fun w _=>?_⟩
     have hcond:=And.intro h0 h1
     rw[hxe,hyv]
     simp only[Instr.indexAt,Sem.run_bind,asIntOf,Sem.run_pure,run_underlying hd,Result.andThen_ok,hcond,and_self,if_true,Z1 hei,Ze,hes,h2,Nat.add_zero]
    ·cases hz
   ·cases hz
  ·cases ‹AVal.vs _ _=AVal.ptr _ _ _›
  ·cases hz
 case fieldAddr s x f=>
  rw[Option.map_eq_some_iff]at h
  obtain⟨z,hz,he⟩:=h
  cases he
  have hxv:=hev x
  unfold VQ at hz
  split at hz
  ·rename_i ty n kk jj hty he1
   rw[he1]at hxv
   obtain⟨d,i,hd,hi,hk,_⟩:=Qk htt hty
   obtain⟨gs,rfl,rfl⟩:=(Qg hk).2.2.2.2.2.2 _ rfl
   split at hz
   ·rename_i off t ht
    rw[List.getElem?_map,Option.map_eq_some_iff]at ht
    obtain⟨g,hg,he⟩:=ht
    obtain⟨e1,e2⟩:=Prod.mk.inj he
    subst e1;subst e2
    split at hz
    ·rename_i fty hfty
     obtain⟨fd,fi,hfd,hfi,hfk,hfs,_⟩:=Qk htt hfty
     split at hz
     ·cases hz
     ·rename_i hne
      cases hz
      obtain⟨L,hL,hxe⟩:=hxv.of_ptr
      have hg':gs[f]?=some g:=by simpa using hg
      refine⟨_,.ptr _ _ _ L hL,fun w _=>?_⟩
      have hne':¬fi.size=0:=by omega
      rw[hxe]
      simp only[Instr.fieldAt,Sem.run_bind,run_underlying hd,Result.andThen_ok,hg',Instr.sureAddr,Sem.run_pure,fieldPlace,Z1 hfi,hne',if_false,Ze,Nat.add_assoc]
    ·cases hz
   ·cases hz
  ·rename_i row' j' hty he1
   rw[he1]at hxv
   obtain⟨d,i,hd,hi,hk,_⟩:=Qk htt hty
   obtain⟨gs,rfl,rfl⟩:=(Qg hk).2.2.2.2.2.2 _ rfl
   split at hz
   ·rename_i off t ht
    rw[List.getElem?_map,Option.map_eq_some_iff]at ht
    obtain⟨g,hg,he⟩:=ht
    obtain⟨e1,e2⟩:=Prod.mk.inj he
    subst e1;subst e2
    split at hz
    ·rename_i fty hfty
     obtain⟨fd,fi,hfd,hfi,hfk,hfs,_⟩:=Qk htt hfty
     split at hz
     ·cases hz
     ·rename_i hne
      cases hz
      obtain⟨gg,b,cs,f1,f2,f3,f4,hxe⟩:=hxv.of_vp
      have hg':gs[f]?=some g:=by simpa using hg
      refine⟨_,.vp _ _ gg b cs f1 f2 f3 f4,fun w _=>?_⟩
      have hne':¬fi.size=0:=by omega
      rw[hxe]
      simp only[Instr.fieldAt,Sem.run_bind,run_underlying hd,Result.andThen_ok,hg',Instr.sureAddr,Sem.run_pure,fieldPlace,Z1 hfi,hne',if_false,Ze,Nat.add_assoc]
    ·cases hz
   ·cases hz
  ·cases hz
 case load t x=>
  split at hf
  rotate_left
  ·cases hf
  rename_i row j hx
  rw[Option.map_eq_some_iff]at h
  obtain⟨z,hz,he⟩:=h
  cases he
  have hxv:=hev x
  rw[hx]at hz hxv
  simp only[J7]at hz
  obtain⟨gg,b,cs,f1,f2,f3,f4,hxe⟩:=hxv.of_vp
  rw[hxe]
  split at hz
  ·rename_i ty hty
   obtain⟨d,i,hd,hi,hk,hsz,_⟩:=Qk htt hty
   have cell:∀(q:Nat) (x:AVal),row[q]?=some x→ ∃v,cs[b+q]?=some v∧RelV ι x v:=by
    intro q x hq
    have hlt:=(List.getElem?_eq_some_iff.1 hq).1
    have hv:cs[b+q]?=some (cs[b+q]'(by omega)):=Array.getElem?_eq_getElem _
    exact⟨_,hv,(f4 q x _ hq hv).mono ι.bare_le⟩
   split at hz
   ·rename_i ha
    split at hz
    ·rename_i hle
     cases hz
     obtain⟨us,hus,hc⟩:=Vc (ι:=ι) (Pr:=fun q v=>cs[b+j+q]?=some v) ((row.drop j).take ty.size) 0 (fun q x hq=>by
      have hlt:q<ty.size:=by
       have:=(List.getElem?_eq_some_iff.1 hq).1
       simp at this;omega
      rw[List.getElem?_take_of_lt hlt,List.getElem?_drop]at hq
      obtain⟨v,hv,hr⟩:=cell _ x hq
      refine⟨v,?_,hr⟩
      rw[←hv]
      congr 1
      omega)
     refine⟨.agg ⟨us⟩,.mk_agg hus,fun w hS=>?_⟩
     obtain⟨e,fz,hw⟩:=hS gg cs f1
     have hlen:us.length=i.size:=by
      rw[←hus.1,hsz];simp;omega
     have hload:=run_loadCells_list (P:=P) w ⟨gg,b+j,none⟩ us (fun q v hq=>by
      rw[Ze,cell_of_row w gg _ cs e fz hw];simpa using hc q v hq)
     rw[hlen]at hload
     simp only[Instr.loadAt,Instr.sureAddr,Sem.run_bind,Sem.run_pure,Result.andThen_ok,loadVar,YL hd hk,ha,if_true,Z1 hi,hload]
    ·cases hz
   ·rename_i ha
    have ha:WV ty.kd=false:=by simpa using ha
    obtain⟨u,hv,hr⟩:=cell j _ hz
    refine⟨u,hr,fun w hS=>?_⟩
    obtain⟨e,fz,hw⟩:=hS gg cs f1
    have hcell:w.cell? ⟨gg,b+j,none⟩=some u:=by rw[cell_of_row w gg _ cs e fz hw];exact hv
    simp only[Instr.loadAt,Instr.sureAddr,Sem.run_bind,Sem.run_pure,Result.andThen_ok,loadVar,YL hd hk,ha,Bool.false_eq_true,if_false,run_load,hcell]
  ·cases hz
 all_goals cases hf
end
theorem G6{P:Program}{md:Region.Mode}{ops:Array Oper}{Q:Exit→Act→World→Prop}{S S':World→Prop}(hS:∀w,S w→S' w):∀(fuel:Nat) (listed:Array Bool) (a:Act) (w:World),wpAnyH P md ops Q S fuel listed a w→wpAnyH P md ops Q S' fuel listed a w
 |0,_,_,_,h=>h
 |fuel+1,_,_,_,h=>⟨h.1,fun i hi=>wpOp_mono (fun a' w' h'=>⟨hS _ h'.1,G6 hS fuel _ a' w' h'.2⟩) (h.2 i hi)⟩
inductive NoSel(ops:Array Oper):Prop where
 |mk (h:(ops.all fun o=>match o.op with| .select _ _=>false|_=>true)=true)
def Nm(ops:Array Oper)(listed:Array Bool)(i:Nat)(o:Oper):Bool:=
 (List.range ops.size).all fun j=>Nat.beq j i||listed.getD j true||(match ops[j]? with|some oj=>(oj.after.any fun e=>Region.binds .any e&&Nat.beq e.on i)||o.apart ops oj|none=>true)
inductive Apart(ops:Array Oper)(listed:Array Bool)(i:Nat)(o:Oper):Prop where
 |mk (h:Nm ops listed i o=true)
def Uy(ops:Array Oper)(e:Env):List Nat→Option (Nat×Oper)
 |[]=>none
 |i::l=>match ops[i]? with
  |some o=>match o.guard with
   |none=>@Bool.rec (fun _=>Option (Nat×Oper)) (Uy ops e l) (some (i,o)) (VH (evE e) o.op)
   |some _=>Uy ops e l
  |none=>Uy ops e l
theorem WN{ops:Array Oper}{e:Env}:∀{l:List Nat} {i:Nat} {o:Oper},Uy ops e l=some (i,o)→i∈l∧ops[i]?=some o∧o.guard=none∧VH (evE e) o.op=true
 |[],i,o,h=>by cases h
 |k::l,i,o,h=>by
  unfold Uy at h
  split at h
  ·rename_i o' ho
   split at h
   ·rename_i hg
    cases hf:VH (evE e) o'.op with
    |true=>
     rw[hf]at h
     cases h
     exact⟨List.mem_cons_self ..,ho,hg,hf⟩
    |false=>
     rw[hf]at h
     obtain⟨h1,h2⟩:=WN (l:=l) h
     exact⟨List.mem_cons_of_mem _ h1,h2⟩
   ·obtain⟨h1,h2⟩:=WN h
    exact⟨List.mem_cons_of_mem _ h1,h2⟩
  ·obtain⟨h1,h2⟩:=WN h
   exact⟨List.mem_cons_of_mem _ h1,h2⟩
def HL(p:Nat→Prop)(l:List Nat):Prop:=@List.rec Nat (fun _=>Prop) True (fun i t ih=>@List.rec Nat (fun _=>Prop) (p i) (fun _ _ _=>p i∧ih) t) l
theorem IB(p:Nat→Prop)(k k':Nat)(l:List Nat):HL p (k::k'::l)=(p k∧HL p (k'::l)):=rfl
theorem D9{p:Nat→Prop}:∀{l:List Nat},HL p l→ ∀i∈l,p i
 |[],_,i,h=>by cases h
 |[k],h,i,hi=>by simp at hi;subst hi;exact h
 |k::k'::l,h,i,hi=>by
  rw[IB]at h
  rcases List.mem_cons.1 hi with rfl|hi
  ·exact h.1
  ·exact D9 (l:=k'::l) h.2 i hi
def DJ(ops:Array Oper)(listed:Array Bool):List Nat:=
 (List.range ops.size).filter fun i=>!listed.getD i true&&((ops[i]?).map fun o=>o.after.toList.all fun e=>!Region.binds .any e||listed.getD e.on false).getD false
theorem Jp(ops:Array Oper)(listed:Array Bool):DJ ops listed=Region.ready .any ops listed:=by
 unfold DJ Region.ready
 simp only[Array.all_toList]
def GF:List Bool→(List Bool→Prop)→Prop
 |[],K=>K []
 |b::l,K=>GF l fun l=>@Bool.rec (fun _=>Prop) (K (false::l)) (K (true::l)) b
theorem ML:∀(l:List Bool) (K:List Bool→Prop),GF l K=K l
 |[],K=>rfl
 |b::l,K=>by
  rw[GF,ML l]
  cases b<;>rfl
def Et(a:Array Bool)(K:Array Bool→Prop):Prop:=GF a.toList fun l=>K ⟨l⟩
theorem Ix(a:Array Bool)(K:Array Bool→Prop):Et a K=K a:=by
 obtain⟨l⟩:=a
 exact ML l _
def PJ(ops:Array Oper)(listed:Array Bool)(e:Env)(H:Heap)(nx:Nat)(K:Env→Heap→Nat→Prop):Prop:=
 match DJ ops listed with
 |[]=>K e H nx
 |_::_=>False
def PK(ci:CallT)(tt:TT)(N:Nat)(ops:Array Oper)(ih:Array Bool→Kn→Env→Heap→Nat→(Env→Heap→Nat→Prop)→Prop)(listed:Array Bool)(kn:Kn)(e:Env)(H:Heap)(nx:Nat)(K:Env→Heap→Nat→Prop):Prop:=
 match DJ ops listed with
  |[]=>K e H nx
  |r::rs=>match Uy ops e (r::rs)with
   |some (i,o)=>Apart ops listed i o∧(bif Z6 N o.dst then opT tt (evE e) [] nx o.op fun r=>match r with
     | .val v=>WT e o.dst v fun e=>Et (listed.setIfInBounds i true) fun listed=>ih listed kn e H nx K
     |_=>False
    else False)
   |none=>HL (fun i=>match ops[i]? with
     |some o=>Cs ci tt N ops o kn e H nx fun kn e H nx=>Et (listed.setIfInBounds i true) fun listed=>ih listed kn e H nx K
     |none=>False) (r::rs)
def CJ(ci:CallT)(tt:TT)(N:Nat)(ops:Array Oper)(f:Nat):Array Bool→Kn→Env→Heap→Nat→(Env→Heap→Nat→Prop)→Prop:=
 @Nat.rec (fun _=>Array Bool→Kn→Env→Heap→Nat→(Env→Heap→Nat→Prop)→Prop) (fun listed _ e H nx K=>PJ ops listed e H nx K) (fun _ ih listed kn e H nx K=>PK ci tt N ops ih listed kn e H nx K) f
theorem IM(ci:CallT)(tt:TT)(N:Nat)(ops:Array Oper)(listed:Array Bool)(kn:Kn)(e:Env)(H:Heap)(nx:Nat)(K:Env→Heap→Nat→Prop):CJ ci tt N ops 0 listed kn e H nx K=PJ ops listed e H nx K:=rfl
theorem Q02(ci:CallT)(tt:TT)(N:Nat)(ops:Array Oper)(f:Nat)(listed:Array Bool)(kn:Kn)(e:Env)(H:Heap)(nx:Nat)(K:Env→Heap→Nat→Prop):CJ ci tt N ops (f+1) listed kn e H nx K=PK ci tt N ops (CJ ci tt N ops f) listed kn e H nx K:=rfl
theorem F5[Syms]{P:Program}{ci:CallT}{tt:TT}{N:Nat}{ops:Array Oper}{Q:Exit→Act→World→Prop}(htt:TT.ok P tt)(hci:ci.ok P)(hsel:NoSel ops)(hQp:∀c a w,¬Q (.panic c) a w):∀(f:Nat) (listed:Array Bool) (kn:Kn) (e:Env) (H:Heap) (nx:Nat) (K:Env→Heap→Nat→Prop),
 CJ ci tt N ops f listed kn e H nx K→ ∀(ι:Inj) (a:Act) (w:World),RelS N ι ⟨e,H,nx⟩ a w→(∀e' H' nx' κ a' w',K e' H' nx'→RelS N κ ⟨e',H',nx'⟩ a' w'→StepN ι H nx w κ H' nx' w'→Q .normal a' w')→wpAnyH P .any ops Q (Fz ι) f listed a w
 |0,listed,kn,e,H,nx,K,h,ι,a,w,hS,hQ=>by
  rw[IM]at h
  unfold PJ at h
  split at h
  ·rename_i hr
   rw[Jp]at hr
   exact⟨hr,hQ e H nx ι a w h hS (StepN.refl ..)⟩
  ·exact h.elim
 |f+1,listed,kn,e,H,nx,K,h,ι,a,w,hS,hQ=>by
  have ih:=F5 (N:=N) htt hci hsel hQp (Q:=Q) f
  have hfzw:Fz ι w:=fun g cs hg=>(hS.heap.fz g cs hg).1
  rw[Q02]at h
  unfold PK at h
  simp only[Ix]at h
  split at h
  ·rename_i hr
   rw[Jp]at hr
   exact⟨fun _=>hQ e H nx ι a w h hS (StepN.refl ..),fun i hi=>by rw[hr]at hi;cases hi⟩
  ·rename_i r rs hr
   rw[Jp]at hr
   split at h
   ·rename_i i o hfo
    obtain⟨hmem,ho,hg,hf⟩:=WN hfo
    obtain⟨⟨hap⟩,h⟩:=h
    cases hd:Z6 N o.dst with
    |false=>rw[hd]at h;exact h.elim
    |true=>
    rw[hd]at h
    simp only[cond_true]at h
    have hevE:∀x,RelV ι (evE e x) (a.eval x):=fun x=>by have:=hS.ev x;rwa [WW]at this
    obtain⟨res,h2,hval⟩:∃res:Res,(match res with
     | .val v=>WT e o.dst v fun e=>CJ ci tt N ops f (listed.setIfInBounds i true) kn e H nx K
     |_=>False)∧ ∀v,res= .val v→ ∃u,RelV ι v u∧ ∀w,Fz ι w→(execOp a.eval o).run P w= .ok (.value u) w:=by
     rcases Ju h with⟨r,h1,h2⟩|⟨r',r,h1,h2,h3⟩
     ·exact⟨r,h2,fun v hv=>by subst hv;exact Gf (P:=P) htt hevE (EA hf h1) h1⟩
     ·refine⟨r,h3,fun v hv=>?_⟩
      subst hv
      cases r' with
      |val v'=>
       obtain⟨u,g1,g2⟩:=Gf (P:=P) (ι:=ι) (ρ:=fun x=>(evE e x).un) htt (fun x=>(hevE x).un) hf h1
       exact⟨u,h2 _ _ g1,g2⟩
      |new b v'=>exact h2.elim
      |upd b v'=>exact h2.elim
    split at h2
    rotate_left
    ·exact h2.elim
    rename_i v
    rw[WK]at h2
    obtain⟨u,hu,hrun⟩:=hval v rfl
    have hready:i∈Region.ready .any ops listed:=by rw[hr];exact hmem
    have hselp:∀(j:Nat) (o:Oper) cs b,ops[j]?=some o→o.op≠ .select cs b:=by
     intro j oj cs b hoj he
     have:=hsel.1
     rw[Array.all_eq_true']at this
     have:=this oj (by obtain⟨hlt,rfl⟩:=Array.getElem?_eq_some_iff.1 hoj;exact Array.getElem_mem hlt)
     rw[he]at this
     cases this
    refine wpAnyH_first ho hselp (fun c a w h=>(hQp _ _ _ h).elim) f listed a w (fun j oj hoj hne hun hnot=>?_) hready (.inl ⟨by simp[Region.wanted,hg],hrun⟩) hfzw ?_
    ·unfold Nm at hap
     rw[List.all_eq_true]at hap
     have hj:=hap j (List.mem_range.2 (Array.getElem?_eq_some_iff.1 hoj).1)
     rw[hoj,hun,Qd hne]at hj
     simp only[Bool.false_or,Bool.or_eq_true]at hj
     rcases hj with hj|hj
     ·rw[Array.any_eq_true']at hj
      obtain⟨ed,hed,hb⟩:=hj
      simp only[Bool.and_eq_true]at hb
      exact absurd (Nat.eq_of_beq_eq_true hb.2) (hnot ed hed hb.1)
     ·exact hj
    ·obtain⟨g1,g2⟩:=VI hS (Inj.le_refl ι) hd hu
     exact ih _ kn _ H nx K h2 ι _ w ⟨by rw[X6];exact hS.defers,g1,g2,hS.heap,hS.bound⟩ hQ
   ·refine⟨fun hno=>(by rw[hr]at hno;cases hno),fun i hi=>?_⟩
    rw[hr]at hi
    have hi:=D9 h i hi
    split at hi
    rotate_left
    ·exact hi.elim
    rename_i o ho
    have hx:Gg ci tt N ops o kn ⟨e,H,nx⟩ (fun kn' s'=>CJ ci tt N ops f (listed.setIfInBounds i true) kn' s'.env s'.heap s'.nx K):=by rw[←MN];exact hi
    have:=Uc htt hci hx ι a w (fun a' w'=>Fz ι w'∧wpAnyH P .any ops Q (Fz ι) f (listed.setIfInBounds i true) a' w') Q hS (fun s' κ a' w' ⟨kn',hk⟩ hS' hst=>?_)
    ·unfold wpOp
     rw[ho]
     exact this
    ·have hfz':∀w'',Fz κ w''→Fz ι w'':=fun w'' hw g cs hg=>hw g cs (hst.st.le.2 g cs hg)
     exact⟨hfz' w' fun g cs hg=>(hS'.heap.fz g cs hg).1,G6 hfz' f _ a' w' (ih _ kn' s'.env s'.heap s'.nx K hk κ a' w' hS' fun e' H' nx' μ a'' w'' hk' hS'' hst'=>hQ e' H' nx' μ a'' w'' hk' hS'' (hst.trans hst'))⟩
theorem GS[Syms]{P:Program}{tt:TT}{ι:Inj}{w:World}(htt:TT.ok P tt){t:TypeId}{sz:Nat}{rows:List (List AVal)}{v u:Value}{ty:Ty}{e:TypeId}(hty:tt t=some ty)(hk:ty.kd= .slice e)(hx:RelV ι (.vs sz rows) v)(hy:RelV ι .nils u)(ox oy:Operand):
 ∃b,(rows≠[]→b=false)∧(do eqGuard .eql t ox oy v u;binOp .eql t v u:Sem Value).run P w= .ok (.bool b) w∧(do eqGuard .neq t ox oy v u;binOp .neq t v u:Sem Value).run P w= .ok (.bool (!b)) w:=by
 obtain⟨d,i,hd,_,hf,_⟩:=Qk htt hty
 obtain rfl:=(Qg hf).2.2.2.1 _ hk
 cases hy
 have key:∀(a:Option Addr) (n c:Nat),∃b,(a.isSome=true→b=false)∧(do eqGuard .eql t ox oy (.slice a n c) (.slice none 0 0);binOp .eql t (.slice a n c) (.slice none 0 0):Sem Value).run P w= .ok (.bool b) w∧(do eqGuard .neq t ox oy (.slice a n c) (.slice none 0 0);binOp .neq t (.slice a n c) (.slice none 0 0):Sem Value).run P w= .ok (.bool (!b)) w:=by
  intro a n c
  have hg:∀op,(eqGuard op t ox oy (.slice a n c) (.slice none 0 0)).run P w= .ok () w:=fun op=>by unfold eqGuard;cases op<;>rfl
  have hE:∀b,(∀d,(Op.equalIn (d+1) t (.slice a n c) (.slice none 0 0)).run P w= .ok b w)→(binOp .eql t (.slice a n c) (.slice none 0 0)).run P w= .ok (.bool b) w∧(binOp .neq t (.slice a n c) (.slice none 0 0)).run P w= .ok (.bool (!b)) w:=by
   intro b h
   have:=KQ (P:=P) (w:=w) (t:=t) (v:=.slice a n c) (u:=.slice none 0 0) (b:=b) h
   exact⟨by simp only[binOp,Sem.run_bind,this,Result.andThen_ok,Sem.run_pure],by simp only[binOp,Sem.run_bind,this,Result.andThen_ok,Sem.run_pure]⟩
  cases a with
  |none=>
   obtain⟨h1,h2⟩:=hE true (fun d=>by simp only[Op.equalIn,Sem.run_bind,run_underlying hd,Result.andThen_ok,Sem.run_pure];rfl)
   exact⟨true,fun h=>(nomatch h),by rw[Sem.run_bind,hg];exact h1,by rw[Sem.run_bind,hg];exact h2⟩
  |some a=>
   obtain⟨h1,h2⟩:=hE false (fun d=>by simp only[Op.equalIn,Sem.run_bind,run_underlying hd,Result.andThen_ok,Sem.run_pure])
   exact⟨false,fun _=>rfl,by rw[Sem.run_bind,hg];exact h1,by rw[Sem.run_bind,hg];exact h2⟩
 cases hx with
 |vs _ _ g o c cs hf hl hm hp hr h1 h=>
  obtain⟨b,k1,k2,k3⟩:=key (some ⟨g,o,none⟩) rows.length c
  exact⟨b,fun _=>k1 rfl,k2,k3⟩
 |vz _ a c hm hc=>
  obtain⟨b,k1,k2,k3⟩:=key a 0 c
  exact⟨b,fun h=>absurd rfl h,k2,k3⟩
def Ee(tt:TT)(ρ:Operand→AVal)(o:Oper):Option (Bool×List (List AVal)):=
 match o.guard,o.op with
 |none,.binOp .eql t x y _=>match tt t,(ρ x).un,ρ y with|some ⟨.slice _,_,_,_⟩,.vs _ rows,.nils=>some (false,rows)|_,_,_=>none
 |none,.binOp .neq t x y _=>match tt t,(ρ x).un,ρ y with|some ⟨.slice _,_,_,_⟩,.vs _ rows,.nils=>some (true,rows)|_,_,_=>none
 |_,_=>none
theorem Ed[Syms]{P:Program}{tt:TT}{ι:Inj}{w:World}(htt:TT.ok P tt){ρ:Operand→AVal}{σ:Operand→Value}(hev:∀x,RelV ι (ρ x) (σ x)){o:Oper}{ng:Bool}{rows:List (List AVal)}(h:Ee tt ρ o=some (ng,rows)):
 o.guard=none∧ ∃b,(rows≠[]→b=false)∧(execOp σ o).run P w= .ok (.value (.bool (bif ng then !b else b))) w:=by
 unfold Ee at h
 split at h
 ·rename_i t x y ty hg ho
  split at h
  ·rename_i e _ _ _ _ _ hty hx hy
   cases h
   have hxv:=hev x
   have hyv:=hev y
   replace hxv:=hxv.un
   rw[hx]at hxv
   rw[hy]at hyv
   obtain⟨b,h1,h2,h3⟩:=GS (w:=w) htt hty rfl hxv hyv x y
   refine⟨hg,b,h1,?_⟩
   unfold execOp
   simp only[ho]
   simp only[Sem.run_bind]at h2 ⊢
   cases hq:(eqGuard .eql t x y (σ x) (σ y)).run P w with
   |ok u w'=>rw[hq]at h2;simp only[Result.andThen_ok]at h2 ⊢;rw[h2];rfl
   |halt hlt w'=>rw[hq]at h2;cases h2
  ·cases h
 ·rename_i t x y ty hg ho
  split at h
  ·rename_i e _ _ _ _ _ hty hx hy
   cases h
   have hxv:=hev x
   have hyv:=hev y
   replace hxv:=hxv.un
   rw[hx]at hxv
   rw[hy]at hyv
   obtain⟨b,h1,h2,h3⟩:=GS (w:=w) htt hty rfl hxv hyv x y
   refine⟨hg,b,h1,?_⟩
   unfold execOp
   simp only[ho]
   simp only[Sem.run_bind]at h3 ⊢
   cases hq:(eqGuard .neq t x y (σ x) (σ y)).run P w with
   |ok u w'=>rw[hq]at h3;simp only[Result.andThen_ok]at h3 ⊢;rw[h3];rfl
   |halt hlt w'=>rw[hq]at h3;cases h3
  ·cases h
 ·cases h
def Cr(c:CallT)(tt:TT)(N:Nat)(ops:Array Oper)(o:Oper)(kn:Kn)(e:Env)(H:Heap)(nx:Nat)(K:Kn→Env→Heap→Nat→Prop):Prop:=
 match Ee tt (evE e) o with
 |some (ng,rows)=>bif Z6 N o.dst then ∀b:Bool,(rows≠[]→b=false)→WT e o.dst (.bool (bif ng then !b else b)) fun e=>K kn e H nx else False
 |none=>Cs c tt N ops o kn e H nx K
theorem Gh[Syms]{P:Program}{c:CallT}{tt:TT}{N:Nat}{ops:Array Oper}{o:Oper}{kn:Kn}{e:Env}{H:Heap}{nx:Nat}{K:Kn→St→Prop}(htt:TT.ok P tt)(hc:c.ok P)(h:Cr c tt N ops o kn e H nx fun kn e H nx=>K kn ⟨e,H,nx⟩):OpK P N ops o ⟨e,H,nx⟩ fun s'=>∃kn',K kn' s':=by
 unfold Cr at h
 split at h
 ·rename_i ng rows hn
  cases hd:Z6 N o.dst with
  |false=>rw[hd]at h;exact h.elim
  |true=>
   rw[hd]at h
   simp only[cond_true]at h
   intro ι a w C Q hS hC
   have hevE:∀x,RelV ι (evE e x) (a.eval x):=fun x=>by have:=hS.ev x;rwa [WW]at this
   obtain⟨hg,b,h1,h2⟩:=Ed (P:=P) (w:=w) htt hevE hn
   have hw:Region.wanted o (yielded ops a.tmps)=true:=by simp[Region.wanted,hg]
   rw[hw]
   simp only[if_true]
   left
   unfold Oper.wp
   rw[h2]
   have hb:=h b h1
   rw[WK]at hb
   obtain⟨g1,g2⟩:=VI hS (Inj.le_refl ι) hd (RelV.bool (ι:=ι) (bif ng then !b else b))
   exact hC _ ι _ w ⟨kn,hb⟩ ⟨by rw[X6];exact hS.defers,g1,g2,hS.heap,hS.bound⟩ (StepN.refl ..)
 ·rw[MN]at h
  exact Uc htt hc h
def Lc(c:CallT)(tt:TT)(N:Nat)(ops:Array Oper):List Oper→Kn→Env→Heap→Nat→(Env→Heap→Nat→Prop)→Prop
 |[],_,e,H,nx,K=>K e H nx
 |o::l,kn,e,H,nx,K=>Cr c tt N ops o kn e H nx fun kn e H nx=>Lc c tt N ops l kn e H nx K
theorem M4[Syms]{P:Program}{c:CallT}{tt:TT}{N:Nat}{ops:Array Oper}{K:Env→Heap→Nat→Prop}{Q:Exit→Act→World→Prop}(htt:TT.ok P tt)(hc:c.ok P):∀(l:List Oper) (k:Nat) (kn:Kn) (e:Env) (H:Heap) (nx:Nat) (ι:Inj) (a:Act) (w:World),(∀j,l[j]?=ops[k+j]?)→Lc c tt N ops l kn e H nx K→RelS N ι ⟨e,H,nx⟩ a w→
 (∀e' H' nx' κ a' w',K e' H' nx'→RelS N κ ⟨e',H',nx'⟩ a' w'→StepN ι H nx w κ H' nx' w'→Q .normal a' w')→wpOps P ops Q (List.range' k l.length) a w
 |[],k,kn,e,H,nx,ι,a,w,_,h,hS,hQ=>hQ e H nx ι a w h hS (StepN.refl ..)
 |o::l,k,kn,e,H,nx,ι,a,w,hl,h,hS,hQ=>by
  have ho:ops[k]?=some o:=by simpa using(hl 0).symm
  rw[List.length_cons,List.range'_succ]
  simp only[wpOps,ho]
  have h:Cr c tt N ops o kn e H nx fun kn e H nx=>(fun(kn:Kn) (s:St)=>Lc c tt N ops l kn s.env s.heap s.nx K) kn ⟨e,H,nx⟩:=h
  refine Gh (K:=fun kn s=>Lc c tt N ops l kn s.env s.heap s.nx K) htt hc h ι a w _ Q hS (fun s1 κ a' w' ⟨kn1,h1⟩ hS' hst=>?_)
  exact M4 htt hc l (k+1) kn1 s1.env s1.heap s1.nx κ a' w' (fun j=>by have:=hl (j+1);simpa[Nat.add_assoc,Nat.add_comm 1 j]using this) h1 hS' (fun e' H' nx' μ a'' w'' h2 hS'' hst'=>hQ e' H' nx' μ a'' w'' h2 hS'' (hst.trans hst'))
def Dt(ρ:Operand→AVal)(o:Oper):Option AVal:=
 match o.guard,o.op with
 |none,.binOp .add _ x y _=>match ρ x,ρ y with| .int k a,.int k' b=>bif k == k' then some (.int k (wr k (a+b)))else none|_,_=>none
 |none,.binOp .sub _ x y _=>match ρ x,ρ y with| .int k a,.int k' b=>bif k == k' then some (.int k (wr k (a-b)))else none|_,_=>none
 |none,.binOp .mul _ x y _=>match ρ x,ρ y with| .int k a,.int k' b=>bif k == k' then some (.int k (wr k (a*b)))else none|_,_=>none
 |_,_=>none
theorem Bu{tt:TT}{ρ:Operand→AVal}{H:Heap}{m:Nat}{o:Oper}{v:AVal}(h:Dt ρ o=some v):o.guard=none∧aop tt ρ H m o.op=some (.val v):=by
 unfold Dt at h
 split at h
 all_goals first
  |(rename_i hg hop
    split at h
    ·rename_i k a k' b hx hy
     cases hk:(k == k')with
     |false=>rw[hk]at h;cases h
     |true=>
      rw[hk]at h
      simp only[cond_true]at h
      cases h
      refine⟨hg,?_⟩
      rw[hop]
      simp only[aop,hx,hy,Un,Yn,hk,if_true,Option.map_some]
    ·cases h)
  |cases h
def HJ(c:CallT)(tt:TT)(N:Nat)(ops:Array Oper)(o:Oper)(kn:Kn)(e:Env)(H:Heap)(nx:Nat)(K:Kn→Env→Heap→Nat→Prop):Prop:=
 match Dt (evE e) o with
 |some v=>bif Z6 N o.dst then WT e o.dst v fun e=>K kn e H nx else False
 |none=>Cr c tt N ops o kn e H nx K
theorem Cq[Syms]{P:Program}{c:CallT}{tt:TT}{N:Nat}{ops:Array Oper}{o:Oper}{kn:Kn}{e:Env}{H:Heap}{nx:Nat}{K:Kn→St→Prop}(htt:TT.ok P tt)(hc:c.ok P)(h:HJ c tt N ops o kn e H nx fun kn e H nx=>K kn ⟨e,H,nx⟩):OpK P N ops o ⟨e,H,nx⟩ fun s'=>∃kn',K kn' s':=by
 unfold HJ at h
 split at h
 ·rename_i v hv
  cases hd:Z6 N o.dst with
  |false=>rw[hd]at h;exact h.elim
  |true=>
   rw[hd]at h
   simp only[cond_true]at h
   obtain⟨hg,ha⟩:=Bu (tt:=tt) (H:=H) (m:=nx) hv
   rw[WK]at h
   have:=Ve (P:=P) (N:=N) (ops:=ops) (s:=⟨e,H,nx⟩) htt (by simp only[Qo,hg]) hd (by rw[WW];exact ha)
   exact Xd.opK this ⟨kn,h⟩
 ·exact Gh htt hc h
def Lb(c:CallT)(tt:TT)(N:Nat)(ops:Array Oper):List Oper→Kn→Env→Heap→Nat→(Env→Heap→Nat→Prop)→Prop
 |[],_,e,H,nx,K=>K e H nx
 |o::l,kn,e,H,nx,K=>HJ c tt N ops o kn e H nx fun kn e H nx=>Lb c tt N ops l kn e H nx K
theorem M1[Syms]{P:Program}{c:CallT}{tt:TT}{N:Nat}{ops:Array Oper}{K:Env→Heap→Nat→Prop}{Q:Exit→Act→World→Prop}(htt:TT.ok P tt)(hc:c.ok P):∀(l:List Oper) (k:Nat) (kn:Kn) (e:Env) (H:Heap) (nx:Nat) (ι:Inj) (a:Act) (w:World),(∀j,l[j]?=ops[k+j]?)→Lb c tt N ops l kn e H nx K→RelS N ι ⟨e,H,nx⟩ a w→
 (∀e' H' nx' κ a' w',K e' H' nx'→RelS N κ ⟨e',H',nx'⟩ a' w'→StepN ι H nx w κ H' nx' w'→Q .normal a' w')→wpOps P ops Q (List.range' k l.length) a w
 |[],k,kn,e,H,nx,ι,a,w,_,h,hS,hQ=>hQ e H nx ι a w h hS (StepN.refl ..)
 |o::l,k,kn,e,H,nx,ι,a,w,hl,h,hS,hQ=>by
  have ho:ops[k]?=some o:=by simpa using(hl 0).symm
  rw[List.length_cons,List.range'_succ]
  simp only[wpOps,ho]
  have h:HJ c tt N ops o kn e H nx fun kn e H nx=>(fun(kn:Kn) (s:St)=>Lb c tt N ops l kn s.env s.heap s.nx K) kn ⟨e,H,nx⟩:=h
  refine Cq (K:=fun kn s=>Lb c tt N ops l kn s.env s.heap s.nx K) htt hc h ι a w _ Q hS (fun s1 κ a' w' ⟨kn1,h1⟩ hS' hst=>?_)
  exact M1 htt hc l (k+1) kn1 s1.env s1.heap s1.nx κ a' w' (fun j=>by have:=hl (j+1);simpa[Nat.add_assoc,Nat.add_comm 1 j]using this) h1 hS' (fun e' H' nx' μ a'' w'' h2 hS'' hst'=>hQ e' H' nx' μ a'' w'' h2 hS'' (hst.trans hst'))
theorem EW[Syms]{P:Program}{ci:CallT}{tt:TT}{N:Nat}(htt:TT.ok P tt)(hci:ci.ok P)(hm:P.follows .mixedOrders=true){id:Nat}{ops:Array Oper}{e:Env}{H:Heap}{nx:Nat}{K:Env→Heap→Nat→Prop}(hsel:NoSel ops)
 (h:CJ ci tt N ops ops.size (Array.replicate ops.size false) [] e H nx K) {Q:Exit→Act→World→Prop} {ι:Inj} {a:Act} {w:World} (hS:RelS N ι ⟨e,H,nx⟩ a w) (hQ:∀e' H' nx' κ a' w',K e' H' nx'→RelS N κ ⟨e',H',nx'⟩ a' w'→StepN ι H nx w κ H' nx' w'→Q .normal a' w'):
 (Code.region id ops true).wp P Q a w:=by
 refine Code.wp_mono (Q:=fun e a w=>e= .normal∧Q e a w) (fun _ _ _ h=>h.2) ?_
 refine wp_region_any hm ?_
 have hH:RelH ι H {w with drawn:=w.drawn+1}:=⟨fun n b hb=>let⟨L,h1,h2⟩:=hS.heap.blk n b hb;⟨L,h1,h2.keep (Inj.le_refl ι) rfl⟩,hS.heap.inj,hS.heap.fz⟩
 have hst:StepN ι H nx w ι H nx {w with drawn:=w.drawn+1}:=⟨Step.drew ι H w _,Nat.le_refl _,fun _ _ h=>.inl h⟩
 exact wpAny_of_held _ _ _ _ (F5 (Q:=fun e a w=>e= .normal∧Q e a w) htt hci hsel (fun c a w h=>nomatch h.1) _ _ _ _ _ _ K h ι a _ ⟨hS.defers,hS.size,hS.env,hH,hS.bound⟩ fun e' H' nx' κ a' w' hk hS' hst'=>⟨rfl,hQ e' H' nx' κ a' w' hk hS' (hst.trans hst')⟩)
end Go.Av
end
end
section
set_option linter.unusedVariables false
set_option linter.unusedSimpArgs false
noncomputable section
namespace Go.Av
structure StepL(na:Nat)(ι:Inj)(H:Heap)(w:World)(κ:Inj)(H':Heap)(w':World):Prop where
 keep:∀n L,n<na→ι n=some L→κ n=some L
 fzle:∀g cs,ι.fz g=some cs→κ.fz g=some cs
 os:w'.os=w.os
 tape:w'.tape=w.tape
 output:w'.output=w.output
 size:w.heap.size≤w'.heap.size
 same:∀g,g<w.heap.size→ ¬Own ι H g→w'.heap[g]?=w.heap[g]?
 own:∀g,Own κ H' g→Own ι H g∨w.heap.size≤g
 fzs:∀g cs,κ.fz g=some cs→ι.fz g=some cs∨w.heap.size≤g∨Own ι H g
 fresh:∀n L,n<na→κ n=some L→ι n=some L
theorem StepL.refl[Syms](na:Nat)(ι:Inj)(H:Heap)(w:World):StepL na ι H w ι H w:=⟨fun _ _ _ h=>h,fun _ _ h=>h,rfl,rfl,rfl,Nat.le_refl _,fun _ _ _=>rfl,fun _ h=>.inl h,fun _ _ h=>.inl h,fun _ _ _ h=>h⟩
theorem StepL.trans[Syms]{na:Nat}{ι κ μ:Inj}{H H' H'':Heap}{w w' w'':World}(h:StepL na ι H w κ H' w')(k:StepL na κ H' w' μ H'' w''):StepL na ι H w μ H'' w'' where
 keep n L hn hL:=k.keep n L hn (h.keep n L hn hL)
 fzle g cs hg:=k.fzle g cs (h.fzle g cs hg)
 os:=k.os.trans h.os
 tape:=k.tape.trans h.tape
 output:=k.output.trans h.output
 size:=Nat.le_trans h.size k.size
 same g hg ho:=by
  rw[k.same g (Nat.lt_of_lt_of_le hg h.size) (fun ho'=>(h.own g ho').elim ho (fun hge=>by omega)),h.same g hg ho]
 own g ho:=by
  rcases k.own g ho with h1|h1
  ·exact h.own g h1
  ·exact .inr (Nat.le_trans h.size h1)
 fzs g cs hg:=by
  rcases k.fzs g cs hg with h1|h1|h1
  ·exact h.fzs g cs h1
  ·exact .inr (.inl (Nat.le_trans h.size h1))
  ·rcases h.own g h1 with h2|h2
   ·exact .inr (.inr h2)
   ·exact .inr (.inl h2)
 fresh n L hn hL:=h.fresh n L hn (k.fresh n L hn hL)
theorem StepN.l[Syms]{na:Nat}{ι κ:Inj}{H H':Heap}{nx nx':Nat}{w w':World}(h:StepN ι H nx w κ H' nx' w')(hna:na≤nx):StepL na ι H w κ H' w':=
 ⟨fun n L _ hL=>h.st.le.1 n L hL,h.st.le.2,h.st.os,h.st.tape,h.st.output,h.st.size,h.st.same,h.st.own,h.st.fzs,fun n L hn hL=>(h.fresh n L hL).resolve_right (by omega)⟩
def Reb[Syms](na N:Nat)(s s':St):Prop:=
 (na≤s.nx→na≤s'.nx)∧ ∀(ι:Inj) (a:Act) (w:World),RelS N ι s a w→ ∃κ,RelS N κ s' a w∧StepL na ι s.heap w κ s'.heap w
theorem Reb.refl[Syms](na N:Nat)(s:St):Reb na N s s:=⟨fun h=>h,fun ι a w h=>⟨ι,h,.refl ..⟩⟩
theorem Reb.trans[Syms]{na N:Nat}{s s' s'':St}(h:Reb na N s s')(k:Reb na N s' s''):Reb na N s s'':=⟨fun x=>k.1 (h.1 x),fun ι a w hS=>
 let⟨κ,h1,h2⟩:=h.2 ι a w hS
 let⟨μ,h3,h4⟩:=k.2 κ a w h1
 ⟨μ,h3,h2.trans h4⟩⟩
def rho(l:List Nat)(nx n:Nat):Nat:=bif Nat.blt n l.length then l.getD n 0 else nx+n
theorem Xu{l:List Nat}{nx n:Nat}(h:n<l.length):rho l nx n=l.getD n 0:=by
 unfold rho;rw[show Nat.blt n l.length=true from by simpa[Nat.blt_eq]using h];rfl
theorem WS{l:List Nat}{nx n:Nat}(h:l.length≤n):rho l nx n=nx+n:=by
 unfold rho
 have:Nat.blt n l.length=false:=by
  cases hb:Nat.blt n l.length with
  |false=>rfl
  |true=>rw[Nat.blt_eq]at hb;omega
 rw[this];rfl
def AVal.isZ(sz:Nat):AVal→Bool
 | .nils=>true
 | .slice _ _ len sz' cap=>Nat.beq len 0
 | .zs _=>true
 |_=>false
theorem RelV.isZ[Syms]{ι κ:Inj}{sz:Nat}{x:AVal}{v:Value}(hx:x.isZ sz=true)(h:RelV ι x v):RelV κ (.vs sz []) v:=by
 cases h with
 |nils=>exact .vz _ _ _ (Nat.zero_le _) (fun _=>rfl)
 |slice n off len sz cap L a c h hs ha hl hp hm hc=>
  have:len=0:=Nat.eq_of_beq_eq_true hx
  subst this
  exact .vz _ _ _ hm (fun h=>nomatch h)
 |zs sz a=>exact .vz _ _ _ (Nat.zero_le _) (fun _=>rfl)
 |_=>cases hx
inductive SeeV:AVal→AVal→Prop
 |same (v:AVal):SeeV v v
 |un (sz n:Nat) (f:Nat→List AVal) (rows:List (List AVal)) (h:rows=XW n f):SeeV (.vt sz n f) (.vs sz rows)
 |tab (sz n:Nat) (f:Nat→List AVal) (rows:List (List AVal)) (h:rows=XW n f):SeeV (.vs sz rows) (.vt sz n f)
theorem SeeV.rel[Syms]{x y:AVal}(h:SeeV x y){ι:Inj}{v:Value}(hv:RelV ι x v):RelV ι y v:=by
 cases h with
 |same=>exact hv
 |un sz n f rows h=>subst h;exact hv.un
 |tab sz n f rows h=>subst h;exact .vt _ _ _ _ hv
inductive WkV:AVal→AVal→Prop
 |refl (x:AVal):WkV x x
 |any (x:AVal):WkV x .any
 |cap (n off len sz:Nat) (cap:Option Nat):WkV (.slice n off len sz cap) (.slice n off len sz none)
 |see (x y:AVal) (h:SeeV x y):WkV x y
 |zero (sz:Nat) (x:AVal) (h:x.isZ sz=true):WkV x (.vs sz [])
 |zeroT (sz:Nat) (f:Nat→List AVal) (x:AVal) (h:x.isZ sz=true):WkV x (.vt sz 0 f)
 |agg (cs cs':List AVal) (hl:cs.length=cs'.length) (h:∀(i:Nat) (c c':AVal),cs[i]?=some c→cs'[i]?=some c'→WkV c c'):WkV (.agg cs) (.agg cs')
inductive WkB:Blk→Blk→Prop
 |refl (b:Blk):WkB b b
 |take (rows junk:List (List AVal)) (ro:Bool):WkB (.cells (rows++junk) ro) (.cells rows ro)
 |each (rows rows':List (List AVal)) (ro:Bool) (hl:rows'.length=rows.length) (h:∀(k:Nat) (r r':List AVal),rows[k]?=some r→rows'[k]?=some r'→r'.length=r.length∧ ∀(j:Nat) (x x':AVal),r[j]?=some x→r'[j]?=some x'→WkV x x'):WkB (.cells rows ro) (.cells rows' ro)
theorem WkV.rel[Syms]{ι:Inj}{x y:AVal}{v:Value}(h:WkV x y)(hr:RelV ι x v):RelV ι y v:=by
 induction h generalizing v with
 |refl=>exact hr
 |any=>exact .any _
 |cap n off len sz cap=>
  cases hr with
  |slice _ _ _ _ _ L a c h hs ha hl hp hm hc=>exact .slice _ _ _ _ _ L a c h hs ha hl hp hm (fun _ h=>nomatch h)
 |see x y h=>exact h.rel hr
 |zero sz x h=>exact hr.isZ h
 |zeroT sz f x h=>exact .vt _ _ _ _ (hr.isZ h)
 |agg cs cs' hl h ih=>
  obtain⟨vs,rfl,hv⟩:=hr.of_agg
  refine .mk_agg ⟨by rw[←hl];exact hv.1,fun i c v h1 h2=>?_⟩
  have hi:i<cs.length:=by rw[hl];exact(List.getElem?_eq_some_iff.1 h1).1
  have hc:cs[i]?=some cs[i]:=List.getElem?_eq_getElem hi
  exact ih i cs[i] c hc h1 (hv.2 i _ v hc h2)
def Jd:List AVal→List AVal→Prop
 |[],[]=>True
 |a::l,b::m=>WkV a b∧Jd l m
 |_,_=>False
theorem Jd.at:∀{l m:List AVal},Jd l m→l.length=m.length∧ ∀(i:Nat) (c c':AVal),l[i]?=some c→m[i]?=some c'→WkV c c'
 |[],[],_=>⟨rfl,fun i c c' h=>by simp at h⟩
 |a::l,b::m,h=>by
  obtain⟨h1,h2⟩:=Jd.at h.2
  refine⟨by simp[h1],fun i c c' hc hc'=>?_⟩
  cases i with
  |zero=>simp at hc hc';subst hc;subst hc';exact h.1
  |succ i=>simp at hc hc';exact h2 i c c' hc hc'
 |[],_::_,h=>h.elim
 |_::_,[],h=>h.elim
theorem WkV.tab{α:Type}{sz:Nat}{enc:α→List AVal}{d:α}{rows:List (List AVal)}{l:List α}(h:rows=l.map enc):WkV (.vs sz rows) (.vt sz l.length fun i=>enc (l.getD i d)):=.see _ _ (.tab _ _ _ _ (by
 rw[h]
 apply List.ext_getElem?
 intro i
 unfold XW
 by_cases h:i<l.length
 ·simp[h]
 ·simp[h]))
theorem WkV.un{α:Type}{sz:Nat}{enc:α→List AVal}{d:α}{rows:List (List AVal)}{l:List α}(h:rows=l.map enc):WkV (.vt sz l.length fun i=>enc (l.getD i d)) (.vs sz rows):=.see _ _ (.un _ _ _ _ (by
 rw[h]
 apply List.ext_getElem?
 intro i
 unfold XW
 by_cases h:i<l.length
 ·simp[h]
 ·simp[h]))
theorem WkB.ro{x y:Blk}(h:WkB x y):x.ro=y.ro:=by cases h<;>rfl
theorem WkB.rel[Syms]{ι:Inj}{w:World}{L:Loc}{x y:Blk}(h:WkB x y)(hr:Zf ι w L x):Zf ι w L y:=by
 cases h with
 |refl=>exact hr
 |take rows junk ro=>
  obtain⟨cs,e,fz,h1,h2,h3,h4,h5⟩:=hr.rows
  refine Zf.mk h1 h2 ?_ (fun k row hk=>h4 k row ?_) h5 (hr.ty h1)
  ·have:rows.length*L.size≤(rows++junk).length*L.size:=Nat.mul_le_mul_right _ (by simp)
   omega
  ·rw[List.getElem?_append_left (List.getElem?_eq_some_iff.1 hk).1];exact hk
 |each rows rows' ro hl h=>
  obtain⟨cs,e,fz,h1,h2,h3,h4,h5⟩:=hr.rows
  refine Zf.mk h1 h2 (by rw[hl];exact h3) (fun k row hk=>?_) h5 (hr.ty h1)
  have hlt:k<rows.length:=by rw[←hl];exact(List.getElem?_eq_some_iff.1 hk).1
  obtain⟨g1,g2⟩:=h4 k rows[k] (List.getElem?_eq_getElem hlt)
  obtain⟨q1,q2⟩:=h k rows[k] row (List.getElem?_eq_getElem hlt) hk
  refine⟨by rw[q1];exact g1,fun j x hx=>?_⟩
  have hjl:j<rows[k].length:=by rw[←q1];exact(List.getElem?_eq_some_iff.1 hx).1
  obtain⟨v,v1,v2,v3⟩:=g2 j rows[k][j] (List.getElem?_eq_getElem hjl)
  exact⟨v,v1,v2,(q2 j _ x (List.getElem?_eq_getElem hjl) hx).rel v3⟩
def UU(ρ:Nat→Nat)(e:Env):Env→Prop
 |[]=>True
 |(k,v)::t=>WkV (e.get k) (v.ren ρ)∧UU ρ e t
def ZR(ρ:Nat→Nat)(n3:Nat)(H:Heap):Heap→Prop
 |[]=>True
 |(n,some b)::t=>(n<n3∧ ∃b0,H.get (ρ n)=some b0∧WkB b0 (b.ren ρ))∧ZR ρ n3 H t
 |(_,none)::t=>ZR ρ n3 H t
def WG(na nx:Nat)(l:List Nat):Bool:=l.all (fun n=>Nat.blt n nx)&&decide l.Nodup&&Nat.ble na l.length&&(List.range na).all (fun n=>Nat.beq (l.getD n 0) n)
theorem UU.get{ρ:Nat→Nat}{e:Env}:∀{e3:Env},UU ρ e e3→ ∀k,(e3.get k= .any)∨WkV (e.get k) ((e3.get k).ren ρ)
 |[],_,k=>.inl (Env.get_nil k)
 |(j,v)::t,h,k=>by
  rw[Env.get_cons]
  by_cases hk:k=j
  ·subst hk;rw[Nat.beq_refl];exact .inr h.1
  ·rw[Qd hk];exact UU.get h.2 k
theorem ZR.get[Syms]{ρ:Nat→Nat}{n3:Nat}{H:Heap}:∀{H3:Heap},ZR ρ n3 H H3→ ∀n b,H3.get n=some b→n<n3∧ ∃b0,H.get (ρ n)=some b0∧WkB b0 (b.ren ρ)
 |[],_,n,b,hb=>by rw[Heap.get_nil]at hb;cases hb
 |(m,c)::t,h,n,b,hb=>by
  rw[Heap.get_cons]at hb
  by_cases hk:n=m
  ·subst hk
   rw[Nat.beq_refl]at hb
   have hb:c=some b:=hb
   subst hb
   exact h.1
  ·rw[Qd hk]at hb
   cases c with
   |none=>exact ZR.get (H3:=t) h n b hb
   |some c=>exact ZR.get (H3:=t) h.2 n b hb
theorem Lz{l:List Nat}(h:l.Nodup){n m:Nat}(hn:n<l.length)(hm:m<l.length)(e:l[n]=l[m]):n=m:=by
 have hp:=List.pairwise_iff_getElem.1 h
 rcases Nat.lt_trichotomy n m with h1|h1|h1
 ·exact absurd e (hp n m hn hm h1)
 ·exact h1
 ·exact absurd e.symm (hp m n hm hn h1)
theorem DH{l:List Nat}{nx n m:Nat}(h1:l.all (fun n=>Nat.blt n nx)=true)(h2:l.Nodup)(h:rho l nx n=rho l nx m):n=m:=by
 have hl:∀i,i<l.length→l.getD i 0<nx:=fun i hi=>by
  have:=List.all_eq_true.1 h1 (l.getD i 0) (by simp[hi])
  simpa[Nat.blt_eq]using this
 rcases Nat.lt_or_ge n l.length with hn|hn<;>rcases Nat.lt_or_ge m l.length with hm|hm
 ·rw[Xu hn,Xu hm]at h
  simp[hn,hm]at h
  exact Lz h2 hn hm h
 ·rw[Xu hn,WS hm]at h
  have:=hl n hn
  omega
 ·rw[WS hn,Xu hm]at h
  have:=hl m hm
  omega
 ·rw[WS hn,WS hm]at h
  omega
theorem FE[Syms]{ρ:Nat→Nat}{ι:Inj}{n3:Nat}{H H3:Heap}{w:World}(hH:RelH ι H w)(hok:ZR ρ n3 H H3)(hinj:∀n m,ρ n=ρ m→n=m):RelH (ι.pull ρ) H3 w∧ ∀g,Own (ι.pull ρ) H3 g→Own ι H g:=by
 have hown:∀g,Own (ι.pull ρ) H3 g→Own ι H g:=by
  rintro g ⟨n,b,L,h1,h2,h3,h4⟩
  obtain⟨b0,k1,k2⟩:=(hok.get n b h1).2
  exact⟨ρ n,b0,L,k1,by rw[k2.ro,Blk.ren_ro];exact h2,h3,h4⟩
 refine⟨⟨fun n b hb=>?_,fun n m b c L M hb hc hL hM hg=>?_,fun g cs hg=>⟨(hH.fz g cs hg).1,fun ho=>(hH.fz g cs hg).2 (hown g ho)⟩⟩,hown⟩
 ·obtain⟨b0,k1,k2⟩:=(hok.get n b hb).2
  obtain⟨L,h1,h2⟩:=hH.blk _ _ k1
  exact⟨L,h1,(k2.rel h2).unren⟩
 ·obtain⟨b0,k1,k2⟩:=(hok.get n b hb).2
  obtain⟨c0,k3,k4⟩:=(hok.get m c hc).2
  rcases hH.inj _ _ _ _ L M k1 k3 hL hM hg with h|h
  ·exact .inl (hinj _ _ h)
  ·rw[k2.ro,k4.ro,Blk.ren_ro,Blk.ren_ro]at h
   exact .inr h
theorem Q1[Syms]{na N:Nat}{s:St}{e3:Env}{H3:Heap}(l:List Nat)(hl:WG na s.nx l=true)(he:UU (rho l s.nx) s.env e3)(hh:ZR (rho l s.nx) l.length s.heap H3):Reb na N s ⟨e3,H3,l.length⟩:=by
 refine⟨fun _=>?_,?_⟩
 ·simp only[WG,Bool.and_eq_true]at hl
  exact Nat.le_of_ble_eq_true hl.1.2
 intro ι a w hS
 simp only[WG,Bool.and_eq_true,decide_eq_true_eq]at hl
 obtain⟨⟨⟨h1,h2⟩,h3⟩,h4⟩:=hl
 have h3:na≤l.length:=Nat.le_of_ble_eq_true h3
 obtain⟨g1,g2⟩:=FE hS.heap hh (fun n m=>DH h1 h2)
 have hna:∀n,n<na→rho l s.nx n=n:=fun n hn=>by
  rw[Xu (by omega)]
  have:=List.all_eq_true.1 h4 n (by simpa using hn)
  exact Nat.eq_of_beq_eq_true this
 refine⟨ι.pull (rho l s.nx),⟨hS.defers,hS.size,fun k=>?_,g1,fun n L hn=>?_⟩,⟨fun n L hn hL=>?_,fun _ _ h=>h,rfl,rfl,rfl,Nat.le_refl _,fun _ _ _=>rfl,fun g hg=>.inl (g2 g hg),fun g cs hg=>.inl hg,fun n L hn hL=>?_⟩⟩
 ·rcases he.get k with h|h
  ·show RelV _ (e3.get k) _
   rw[h];exact .any _
  ·exact(h.rel (hS.env k)).unren (e3.get k) rfl
 ·have hb:=hS.bound _ L hn
  refine⟨?_,hb.2⟩
  rcases Nat.lt_or_ge n l.length with h|h
  ·exact h
  ·rw[WS h]at hb
   omega
 ·show ι (rho l s.nx n)=some L
  rw[hna n hn];exact hL
 ·have:ι (rho l s.nx n)=some L:=hL
  rwa [hna n hn]at this
def AVal.flat:AVal→Bool
 | .vs _ _| .vp _ _| .zs _| .vt _ _ _=>true
 |v=>v.closed1
theorem RelV.flat[Syms]{ι κ:Inj}(hz:∀g cs,ι.fz g=some cs→κ.fz g=some cs){x:AVal}{v:Value}(hx:x.flat=true)(h:RelV ι x v):RelV κ.bare x v:=by
 have hb:ι.bare.le κ.bare:=⟨fun _ _ h=>(nomatch h),hz⟩
 cases h with
 |vs sz rows g o c cs hf hl hm hp hr h1 h=>exact .vs _ _ _ _ _ _ (hz _ _ hf) hl hm hp hr h1 fun k j row x v a b d=>(h k j row x v a b d).mono hb
 |vp row j g b cs hf hp h1 h=>exact .vp _ _ _ _ _ (hz _ _ hf) hp h1 fun i x v a b=>(h i x v a b).mono hb
 |bool b=>exact .bool b
 |int k n=>exact .int k n
 |str s=>exact .str s
 |nilp=>exact .nilp
 |nils=>exact .nils
 |nilf=>exact .nilf
 |nili=>exact .nili
 |sym n=>exact .sym n
 |zs sz a=>exact .zs sz a
 |vz sz a c hm hc=>exact .vz sz a c hm hc
 |vt sz n f v h=>
  refine .vt sz n f v ?_
  generalize XW n f=rows at h ⊢
  cases h with
  |vs _ _ g o c cs hf hl hm hp hr h1 h=>exact .vs _ _ _ _ _ _ (hz _ _ hf) hl hm hp hr h1 fun k j row x v a b d=>(h k j row x v a b d).mono hb
  |vz _ a c hm hc=>exact .vz _ a c hm hc
 |_=>cases hx
def Dq(e:Env)(n:Nat)(rows:List (List AVal)):Env→Prop
 |[]=>True
 |(k,v)::t=>(e.get k=v∨ ∃off len sz cap,e.get k= .slice n off len sz cap∧0<len∧off+len≤rows.length∧v= .vs sz ((rows.drop off).take len))∧Dq e n rows t
theorem Dq.get{e:Env}{n:Nat}{rows:List (List AVal)}:∀{e3:Env},Dq e n rows e3→ ∀k,e3.get k= .any∨e.get k=e3.get k∨ ∃off len sz cap,e.get k= .slice n off len sz cap∧0<len∧off+len≤rows.length∧e3.get k= .vs sz ((rows.drop off).take len)
 |[],_,k=>.inl (Env.get_nil k)
 |(j,v)::t,h,k=>by
  rw[Env.get_cons]
  by_cases hk:k=j
  ·subst hk;rw[Nat.beq_refl];exact .inr h.1
  ·rw[Qd hk];exact Dq.get h.2 k
theorem Md[Syms]{na N:Nat}{s:St}{n:Nat}{rows:List (List AVal)}{e3:Env}(hb:s.heap.get n=some (.cells rows false))(hf:∀r∈rows,∀x∈r,x.flat=true)(he:Dq s.env n rows e3):
 Reb na N s ⟨e3,s.heap.set n none,s.nx⟩:=by
 refine⟨fun h=>h,?_⟩
 intro ι a w hS
 obtain⟨L,hL,hB⟩:=hS.heap.blk n _ hb
 obtain⟨cs,e,fz,c1,c2,c3,c4,c5⟩:=hB.rows
 have hown:Own ι s.heap L.g:=⟨n,_,L,hb,rfl,hL,rfl⟩
 let κ:Inj:=⟨ι.loc,fun g=>if g=L.g then some cs else ι.fz g⟩
 have hz:∀g ds,ι.fz g=some ds→κ.fz g=some ds:=by
  intro g ds hg
  show(if g=L.g then some cs else ι.fz g)=some ds
  by_cases h:g=L.g
  ·subst h;exact absurd hown (hS.heap.fz _ _ hg).2
  ·rw[if_neg h];exact hg
 have hle:ι.le κ:=⟨fun _ _ h=>h,hz⟩
 have hsub:(s.heap.set n none).sub s.heap:=by
  intro m b hm
  rw[Heap.get_set]at hm
  split at hm
  ·cases hm
  ·exact hm
 have hnot:¬Own κ (s.heap.set n none) L.g:=by
  rintro⟨m,b,M,h1,h2,h3,h4⟩
  have hmn:m≠n:=fun e=>by rw[e,Heap.get_set_same]at h1;cases h1
  rcases hS.heap.inj m n b _ M L (hsub _ _ h1) hb h3 hL h4 with h|h
  ·exact hmn h
  ·rw[h2]at h;cases h.1
 have hsz:∀x off len sz cap,RelV ι (.slice n off len sz cap) x→0<len→off+len≤rows.length→RelV κ (.vs sz ((rows.drop off).take len)) x:=by
  intro x off len sz cap hx hlen hol
  cases hx with
  |slice _ _ _ _ _ L' a c h hs ha hl hp hm hc=>
   have:L'=L:=by rw[hL]at h;exact(Option.some.inj h).symm
   subst this
   have ha:=ha.resolve_left (by omega)
   subst ha
   have hrl:((rows.drop off).take len).length=len:=by simp;omega
   have hk:κ.fz L'.g=some cs:=if_pos rfl
   have:Value.slice (some ⟨L'.g,L'.base+off*L'.size,none⟩) len c=Value.slice (some ⟨L'.g,L'.base+off*L'.size,none⟩) ((rows.drop off).take len).length c:=by rw[hrl]
   rw[this]
   subst hs
   have hat:∀k row,((rows.drop off).take len)[k]?=some row→k<len∧rows[off+k]?=some row:=by
    intro k row hr
    have:k<len:=by
     have:=(List.getElem?_eq_some_iff.1 hr).1
     omega
    rw[List.getElem?_take_of_lt this,List.getElem?_drop]at hr
    exact⟨this,hr⟩
   have hidx:∀k j,L'.base+off*L'.size+k*L'.size+j=L'.base+(off+k)*L'.size+j:=fun k j=>by rw[Nat.add_mul];omega
   refine .vs _ _ _ _ _ cs hk (by omega) hm ?_ (fun k row hr=>(c4 _ _ (hat k row hr).2).1) (fun k j v hk hj hv=>?_) (fun k j row x v hr hj hv=>?_)
   ·rw[hrl,c2]
    have:(off+len)*L'.size≤rows.length*L'.size:=Nat.mul_le_mul_right _ hol
    rw[Nat.add_mul]at this
    omega
   ·rw[hrl]at hk
    have hlt:off+k<rows.length:=by omega
    obtain⟨g1,g2⟩:=c4 (off+k) (rows[off+k]) (by simp[hlt])
    have hj':j<(rows[off+k]).length:=by omega
    obtain⟨v',v1,v2,v3⟩:=g2 j _ (List.getElem?_eq_getElem hj')
    rw[hidx]at hv
    rw[v1]at hv
    cases hv
    exact v2
   ·obtain⟨_,hr'⟩:=hat k row hr
    obtain⟨g1,g2⟩:=c4 _ row hr'
    obtain⟨v',v1,v2,v3⟩:=g2 j x hj
    rw[hidx]at hv
    rw[v1]at hv
    cases hv
    exact v3.flat hz (hf row (List.mem_of_getElem? hr') x (List.mem_of_getElem? hj))
 refine⟨κ,⟨hS.defers,hS.size,fun k=>?_,⟨fun m b hm=>?_,fun m m' b b' M M' h1 h2 h3 h4 h5=>hS.heap.inj m m' b b' M M' (hsub _ _ h1) (hsub _ _ h2) h3 h4 h5,fun g ds hg=>?_⟩,hS.bound⟩,⟨fun _ _ _ h=>h,hz,rfl,rfl,rfl,Nat.le_refl _,fun _ _ _=>rfl,fun g hg=>.inl ?_,fun g ds hg=>?_,fun _ _ _ h=>h⟩⟩
 ·rcases he.get k with h|h|⟨off,len,sz,cap,h1,h2,h3,h4⟩
  ·show RelV _ (e3.get k) _
   rw[h];exact .any _
  ·show RelV _ (e3.get k) _
   rw[←h];exact(hS.env k).mono hle
  ·show RelV _ (e3.get k) _
   rw[h4]
   have:=hS.env k
   rw[h1]at this
   exact hsz _ _ _ _ _ this h2 h3
 ·obtain⟨M,h1,h2⟩:=hS.heap.blk m b (hsub _ _ hm)
  exact⟨M,h1,h2.keep hle rfl⟩
 ·by_cases h:g=L.g
  ·subst h
   have hg:some cs=some ds:=by rw[←hg];exact(if_pos rfl).symm
   cases hg
   exact⟨⟨e,fz,c1⟩,hnot⟩
  ·have hg:ι.fz g=some ds:=by rw[←hg];exact(if_neg h).symm
   refine⟨(hS.heap.fz g ds hg).1,fun ho=>(hS.heap.fz g ds hg).2 ?_⟩
   obtain⟨m,b,M,h1,h2,h3,h4⟩:=ho
   exact⟨m,b,M,hsub _ _ h1,h2,h3,h4⟩
 ·obtain⟨m,b,M,h1,h2,h3,h4⟩:=hg
  exact⟨m,b,M,hsub _ _ h1,h2,h3,h4⟩
 ·by_cases h:g=L.g
  ·subst h;exact .inr (.inr hown)
  ·exact .inl (by rw[←hg];exact(if_neg h).symm)
end Go.Av
end
end
section
set_option linter.unusedVariables false
set_option linter.unusedSimpArgs false
noncomputable section
namespace Go.Av
abbrev RunT:=Option Code→Code→St→(Ex→St→Prop)→Prop
def OX[Syms](na N:Nat)(run:RunT)(b:Code)(s:St)(K:Ex→St→Prop):Prop:=
 ∃I:Nat→Nat→St→Prop,(run none b s fun e s1=>match e with
  | .goto l=>match findLabel b l with
    |some _=>∃n s2,Reb na N s1 s2∧I l n s2
    |none=>K (.goto l) s1
  |e=>K e s1)∧ ∀l rest n s1,findLabel b l=some rest→I l n s1→run none rest s1 fun e s2=>match e with
  | .goto l'=>match findLabel b l' with
    |some _=>∃m s3,Reb na N s2 s3∧I l' m s3∧m<n
    |none=>K (.goto l') s2
  |e=>K e s2
def Hg[Syms](na:Nat)(c ci:CallT)(tt:TT)(N:Nat)(keep:List Nat)(pls:Nat→Pl)(run:RunT)(code:Code)(s:St)(K:Ex→St→Prop):Prop:=
 match code with
 | .skip| .label _=>K .normal s
 | .exit id=>K (.exit id) s
 | .goto l=>K (.goto l) s
 | .ret=>K .ret s
 | .region id ops draw=>match s with
   |⟨e,H,nx⟩=>match draw,pls id with
    |true,some ([],_)=>NoSel ops∧ ∃s':St,CJ ci tt N ops ops.size (Array.replicate ops.size false) [] e H nx (fun e H nx=>∃u:Unit,Reb na N ⟨e,H,nx⟩ s')∧(match s' with|⟨e1,H1,n1⟩=>WU keep e1 fun e=>K .normal ⟨e,H1,n1⟩)
    |true,pl=>NO c ci tt N ops true pl e H nx fun e H nx=>WU keep e fun e=>K .normal ⟨e,H,nx⟩
    |false,none=>Lc ci tt N ops ops.toList [] e H nx fun e H nx=>WU keep e fun e=>K .normal ⟨e,H,nx⟩
    |false,some _=>Lb ci tt N ops ops.toList [] e H nx fun e H nx=>∃s':St,Reb na N ⟨e,H,nx⟩ s'∧(match s' with|⟨e1,H1,n1⟩=>WU keep e1 fun e=>K .normal ⟨e,H1,n1⟩)
 | .seq x y=>run none x s fun e s1=>match e with
   | .normal=>run none y s1 K
   |e=>K e s1
 | .cond o x y=>match s.ev o with
   | .bool b=>GZ b (run none x s K) (run none y s K)
   |_=>False
 | .block id b=>run none b s fun e s1=>match e with
   | .exit id'=>if id'=id then K .normal s1 else K (.exit id') s1
   |e=>K e s1
 | .loop b=>∃I:Nat→St→Prop,(∃n s1,Reb na N s s1∧I n s1)∧ ∀n s1,I n s1→run none b s1 fun e s2=>match e with
   | .normal=>∃m s3,Reb na N s2 s3∧I m s3∧m<n
   |e=>K e s2
 | .scope b=>run (some b) b s K∨OX na N run b s K
 |_=>False
def E0(run:RunT)(b code:Code)(s:St)(K:Ex→St→Prop):Prop:=
 run none code s fun e s1=>match e with
  | .goto l=>match findLabel b l with
    |some rest=>run (some b) rest s1 K
    |none=>K (.goto l) s1
  |e=>K e s1
def De[Syms](na:Nat)(c ci:CallT)(tt:TT)(N:Nat)(keep:List Nat)(pls:Nat→Pl)(f:Nat):RunT:=
 @Nat.rec (fun _=>RunT) (fun _ _ _ _=>False) (fun _ ih sc code s K=>@Option.rec Code (fun _=>Prop) (Hg na c ci tt N keep pls ih code s K) (fun b=>E0 ih b code s K) sc) f
theorem EK[Syms](na:Nat)(c ci:CallT)(tt:TT)(N:Nat)(keep:List Nat)(pls:Nat→Pl)(f:Nat)(code:Code)(s:St)(K:Ex→St→Prop):De na c ci tt N keep pls (f+1) none code s K=Hg na c ci tt N keep pls (De na c ci tt N keep pls f) code s K:=rfl
theorem EJ[Syms](na:Nat)(c ci:CallT)(tt:TT)(N:Nat)(keep:List Nat)(pls:Nat→Pl)(f:Nat)(b code:Code)(s:St)(K:Ex→St→Prop):De na c ci tt N keep pls (f+1) (some b) code s K=E0 (De na c ci tt N keep pls f) b code s K:=rfl
def CWs(P:Program):Option Code→Code→(Exit→Act→World→Prop)→Act→World→Prop
 |some b,c,Q,a,w=>UF P b c Q a w
 |none,c,Q,a,w=>c.wp P Q a w
theorem Uf[Syms]{P:Program}{na:Nat}{c ci:CallT}{tt:TT}{N:Nat}{keep:List Nat}{pls:Nat→Pl}(htt:TT.ok P tt)(hc:c.det P)(hci:ci.ok P)(hm:P.follows .mixedOrders=true):∀(f:Nat) (sc:Option Code) (code:Code) (s:St) (K:Ex→St→Prop),De na c ci tt N keep pls f sc code s K→
 ∀(Q:Exit→Act→World→Prop) (ι:Inj) (a:Act) (w:World),na≤s.nx→RelS N ι s a w→(∀e s' κ a' w',K e s'→na≤s'.nx→RelS N κ s' a' w'→StepL na ι s.heap w κ s'.heap w'→Q e.out a' w')→CWs P sc code Q a w
 |0,_,_,_,_,h=>h.elim
 |f+1,some b,code,s,K,h=>by
  intro Q ι a w hn hS hQ
  rw[EJ]at h
  unfold E0 at h
  have ih:=Uf htt hc hci hm (na:=na) (c:=c) (ci:=ci) (tt:=tt) (N:=N) (keep:=keep) (pls:=pls) f
  refine Yc (ih none code s _ h _ ι a w hn hS fun e s' κ a' w' hk hn' hS' hst=>?_)
  cases e with
  |goto l=>
   simp only at hk
   split at hk
   ·rename_i rest hf
    exact .inl ⟨l,rest,rfl,hf,ih (some b) rest s' K hk Q κ a' w' hn' hS' fun e s'' μ a'' w'' hk' hn'' hS'' hst'=>hQ e s'' μ a'' w'' hk' hn'' hS'' (hst.trans hst')⟩
   ·rename_i hf
    exact .inr ⟨fun l' hl=>by cases hl;exact hf,hQ (.goto l) s' κ a' w' hk hn' hS' hst⟩
  |normal=>exact .inr ⟨fun l' hl=>(by cases hl),hQ .normal s' κ a' w' hk hn' hS' hst⟩
  |exit id=>exact .inr ⟨fun l' hl=>(by cases hl),hQ (.exit id) s' κ a' w' hk hn' hS' hst⟩
  |ret=>exact .inr ⟨fun l' hl=>(by cases hl),hQ .ret s' κ a' w' hk hn' hS' hst⟩
 |f+1,none,code,s,K,h=>by
  intro Q ι a w hn hS hQ
  have ih:=Uf htt hc hci hm (na:=na) (c:=c) (ci:=ci) (tt:=tt) (N:=N) (keep:=keep) (pls:=pls) f
  rw[EK]at h
  cases code with
  |skip=>exact wp_skip (hQ .normal s ι a w h hn hS (.refl ..))
  |label l=>exact wp_label (hQ .normal s ι a w h hn hS (.refl ..))
  |exit id=>exact wp_exit (hQ (.exit id) s ι a w h hn hS (.refl ..))
  |goto l=>exact wp_goto (hQ (.goto l) s ι a w h hn hS (.refl ..))
  |ret=>exact wp_ret (hQ .ret s ι a w h hn hS (.refl ..))
  |region id ops draw=>
   have plain:NO c ci tt N ops draw (pls id) s.env s.heap s.nx (fun e H nx=>WU keep e fun e=>K .normal ⟨e,H,nx⟩)→(Code.region id ops draw).wp P Q a w:=by
    intro h
    have h:NM c ci tt N ops draw (pls id) s (fun s1=>WU keep s1.env fun e=>K .normal ⟨e,s1.heap,s1.nx⟩):=by
     have:=NN c ci tt N ops draw (pls id) s.env s.heap s.nx (fun s1=>WU keep s1.env fun e=>K .normal ⟨e,s1.heap,s1.nx⟩)
     rw[←this];exact h
    refine E5 htt hc hci hm h hS fun s' κ a' w' hk hS' hst=>?_
    obtain⟨e',he,hk⟩:=Y0 _ _ _ hk
    exact hQ .normal _ κ a' w' hk (Nat.le_trans hn hst.up) ((hS'.prune keep).env_eq he) (hst.l hn)
   simp only[Hg]at h
   split at h
   ·rename_i n hpl
    obtain⟨hsel,s',h1,h2⟩:=h
    obtain⟨e',he,hk⟩:=Y0 _ _ _ h2
    refine EW htt hci hm hsel h1 hS fun e1 H1 nx1 κ a' w' hrb hS' hst=>?_
    obtain⟨_,hreb⟩:=hrb
    obtain⟨μ,g1,g2⟩:=hreb.2 κ a' w' hS'
    exact hQ .normal _ μ a' w' hk (hreb.1 (Nat.le_trans hn hst.up)) ((g1.prune keep).env_eq he) ((hst.l hn).trans g2)
   ·exact plain h
   ·refine wp_region ?_
    have:=M4 (Q:=Q) htt hci ops.toList 0 [] s.env s.heap s.nx ι a w (fun j=>by simp) h hS fun e1 H1 nx1 κ a' w' hk hS' hst=>?_
    ·rwa [List.range_eq_range',←Array.length_toList]
    ·obtain⟨e',he,hk⟩:=Y0 _ _ _ hk
     exact hQ .normal _ κ a' w' hk (Nat.le_trans hn hst.up) ((hS'.prune keep).env_eq he) (hst.l hn)
   ·refine wp_region ?_
    have:=M1 (Q:=Q) htt hci ops.toList 0 [] s.env s.heap s.nx ι a w (fun j=>by simp) h hS fun e1 H1 nx1 κ a' w' hk hS' hst=>?_
    ·rwa [List.range_eq_range',←Array.length_toList]
    ·obtain⟨s',hreb,h2⟩:=hk
     obtain⟨e',he,hk⟩:=Y0 _ _ _ h2
     obtain⟨μ,g1,g2⟩:=hreb.2 κ a' w' hS'
     exact hQ .normal _ μ a' w' hk (hreb.1 (Nat.le_trans hn hst.up)) ((g1.prune keep).env_eq he) ((hst.l hn).trans g2)
  |seq x y=>
   refine wp_seq (ih none x s _ h _ ι a w hn hS fun e s' κ a' w' hk hn' hS' hst=>?_)
   cases e with
   |normal=>exact ih none y s' K hk Q κ a' w' hn' hS' fun e s'' μ a'' w'' hk' hn'' hS'' hst'=>hQ e s'' μ a'' w'' hk' hn'' hS'' (hst.trans hst')
   |exit id=>exact hQ (.exit id) s' κ a' w' hk hn' hS' hst
   |goto l=>exact hQ (.goto l) s' κ a' w' hk hn' hS' hst
   |ret=>exact hQ .ret s' κ a' w' hk hn' hS' hst
  |cond o x y=>
   simp only[Hg]at h
   split at h
   ·rename_i t ht
    have hv:=hS.ev o
    rw[ht]at hv
    refine wp_cond hv.of_bool ?_
    cases t with
    |true=>exact ih none x s K (VZ h) Q ι a w hn hS hQ
    |false=>exact ih none y s K (Vu h) Q ι a w hn hS hQ
   ·exact h.elim
  |block id b=>
   refine wp_block (ih none b s _ h _ ι a w hn hS fun e s' κ a' w' hk hn' hS' hst=>?_)
   cases e with
   |exit id'=>
    simp only at hk
    show Exit.inBlock id Q (.exit id') a' w'
    simp only[Exit.inBlock]
    split at hk
    ·rename_i he
     rw[if_pos he]
     exact hQ .normal s' κ a' w' hk hn' hS' hst
    ·rename_i he
     rw[if_neg he]
     exact hQ (.exit id') s' κ a' w' hk hn' hS' hst
   |normal=>exact hQ .normal s' κ a' w' hk hn' hS' hst
   |goto l=>exact hQ (.goto l) s' κ a' w' hk hn' hS' hst
   |ret=>exact hQ .ret s' κ a' w' hk hn' hS' hst
  |loop b=>
   obtain⟨I,⟨n0,s1,hreb,hI⟩,hbody⟩:=h
   have key:∀(n k:Nat) (s1:St),k<n→I k s1→ ∀(ι:Inj) (a:Act) (w:World),na≤s1.nx→RelS N ι s1 a w→(∀e s' κ a' w',K e s'→na≤s'.nx→RelS N κ s' a' w'→StepL na ι s1.heap w κ s'.heap w'→Q e.out a' w')→G3 P b Q a w:=by
    intro n
    induction n with
    |zero=>intro k s1 hlt;omega
    |succ n IH=>
     intro k s1 hlt hI ι a w hn hS hQ
     refine FO (ih none b s1 _ (hbody k s1 hI) _ ι a w hn hS fun e s' κ a' w' hk hn' hS' hst=>?_)
     cases e with
     |normal=>
      obtain⟨m,s3,hr,hI3,hμ⟩:=hk
      obtain⟨κ3,hS3,hst3⟩:=hr.2 κ a' w' hS'
      exact IH m s3 (by omega) hI3 κ3 a' w' (hr.1 hn') hS3 fun e s'' ν a'' w'' hk' hn'' hS'' hst'=>hQ e s'' ν a'' w'' hk' hn'' hS'' ((hst.trans hst3).trans hst')
     |exit id=>exact hQ (.exit id) s' κ a' w' hk hn' hS' hst
     |goto l=>exact hQ (.goto l) s' κ a' w' hk hn' hS' hst
     |ret=>exact hQ .ret s' κ a' w' hk hn' hS' hst
   obtain⟨κ1,hS1,hst1⟩:=hreb.2 ι a w hS
   exact GN (key (n0+1) n0 s1 (by omega) hI κ1 a w (hreb.1 hn) hS1 fun e s'' ν a'' w'' hk' hn'' hS'' hst'=>hQ e s'' ν a'' w'' hk' hn'' hS'' (hst1.trans hst'))
  |scope b=>
   rcases h with h|⟨I,h0,hbody⟩
   ·exact VW (ih (some b) b s K h Q ι a w hn hS hQ)
   have key:∀(n l k:Nat) (rest:Code) (s1:St),k<n→findLabel b l=some rest→I l k s1→ ∀(ι:Inj) (a:Act) (w:World),na≤s1.nx→RelS N ι s1 a w→(∀e s' κ a' w',K e s'→na≤s'.nx→RelS N κ s' a' w'→StepL na ι s1.heap w κ s'.heap w'→Q e.out a' w')→UF P b rest Q a w:=by
    intro n
    induction n with
    |zero=>intro l k rest s1 hlt;omega
    |succ n IH=>
     intro l k rest s1 hlt hfl hI ι a w hn hS hQ
     refine Yc (ih none rest s1 _ (hbody l rest k s1 hfl hI) _ ι a w hn hS fun e s' κ a' w' hk hn' hS' hst=>?_)
     cases e with
     |goto l'=>
      simp only at hk
      split at hk
      ·rename_i rest' hf
       obtain⟨m,s3,hr,hI3,hμ⟩:=hk
       obtain⟨κ3,hS3,hst3⟩:=hr.2 κ a' w' hS'
       exact .inl ⟨l',rest',rfl,hf,IH l' m rest' s3 (by omega) hf hI3 κ3 a' w' (hr.1 hn') hS3 fun e s'' ν a'' w'' hk' hn'' hS'' hst'=>hQ e s'' ν a'' w'' hk' hn'' hS'' ((hst.trans hst3).trans hst')⟩
      ·rename_i hf
       exact .inr ⟨fun l'' hl=>by cases hl;exact hf,hQ (.goto l') s' κ a' w' hk hn' hS' hst⟩
     |normal=>exact .inr ⟨fun l' hl=>(by cases hl),hQ .normal s' κ a' w' hk hn' hS' hst⟩
     |exit id=>exact .inr ⟨fun l' hl=>(by cases hl),hQ (.exit id) s' κ a' w' hk hn' hS' hst⟩
     |ret=>exact .inr ⟨fun l' hl=>(by cases hl),hQ .ret s' κ a' w' hk hn' hS' hst⟩
   refine VW (Yc (ih none b s _ h0 _ ι a w hn hS fun e s' κ a' w' hk hn' hS' hst=>?_))
   cases e with
   |goto l'=>
    simp only at hk
    split at hk
    ·rename_i rest' hf
     obtain⟨m,s3,hr,hI3⟩:=hk
     obtain⟨κ3,hS3,hst3⟩:=hr.2 κ a' w' hS'
     exact .inl ⟨l',rest',rfl,hf,key (m+1) l' m rest' s3 (by omega) hf hI3 κ3 a' w' (hr.1 hn') hS3 fun e s'' ν a'' w'' hk' hn'' hS'' hst'=>hQ e s'' ν a'' w'' hk' hn'' hS'' ((hst.trans hst3).trans hst')⟩
    ·rename_i hf
     exact .inr ⟨fun l'' hl=>by cases hl;exact hf,hQ (.goto l') s' κ a' w' hk hn' hS' hst⟩
   |normal=>exact .inr ⟨fun l' hl=>(by cases hl),hQ .normal s' κ a' w' hk hn' hS' hst⟩
   |exit id=>exact .inr ⟨fun l' hl=>(by cases hl),hQ (.exit id) s' κ a' w' hk hn' hS' hst⟩
   |ret=>exact .inr ⟨fun l' hl=>(by cases hl),hQ .ret s' κ a' w' hk hn' hS' hst⟩
  |rangeFunc _ _ _ _=>exact h.elim
  |refuse _=>exact h.elim
def YZ[Syms](P:Program)(f:FuncId)(args:List AVal)(H:Heap)(nx:Nat)(Post:AVal→Heap→Nat→Prop):Prop:=
 UI P f∧ ∀(ι:Inj) (w:World) (vs:List Value),Qs ι args vs→RelH ι H w→X1 ι nx w→
  Calls P f ⟨vs⟩ w fun e w'=>∃v H' nx' r κ,Post v H' nx'∧e= .returned r∧RelV κ v r∧RelH κ H' w'∧StepL nx ι H w κ H' w'∧X1 κ nx' w'∧nx≤nx'
def OZ(id:Nat)(l:List (Nat×List Nat×Nat)):Pl:=@List.rec (Nat×List Nat×Nat) (fun _=>Pl) none (fun p _ ih=>@Bool.rec (fun _=>Pl) ih (some p.2) (Nat.beq id p.1)) l
def ZS(t:Tr (List (Nat×List Nat×Nat)))(f id:Nat):Pl:=@Option.rec _ (fun _=>Pl) none (fun l=>OZ id l) (t.find f)
def Kz(l:List (Nat×Nat))(p:Nat→Nat→Pl)(f id:Nat):Pl:=@List.rec (Nat×Nat) (fun _=>Pl) (p f id) (fun q _ ih=>@Bool.rec (fun _=>Pl) ih (some ([],0)) (Nat.beq q.1 f&&Nat.beq q.2 id)) l
def fnT[Syms](c ci:CallT)(ft:FT)(tt:TT)(pls:Nat→Nat→Pl)(fuel:Nat)(f:FuncId)(args:List AVal)(H:Heap)(nx:Nat)(Post:AVal→Heap→Nat→Prop):Prop:=
 match ft f with
 |some fa=>De nx c ci tt fa.n fa.keep (pls f) fuel none fa.code ⟨VO 0 args,H,nx⟩ fun e s=>match e with
  | .normal| .ret=>∃s3,Reb nx fa.n s s3∧ ∃v,YE tt s3 fa.res=some v∧Post v s3.heap s3.nx
  |_=>False
 |none=>False
theorem QS[Syms]{P:Program}{c ci:CallT}{ft:FT}{tt:TT}{pls:Nat→Nat→Pl}{fuel:Nat}{f:FuncId}{args:List AVal}{H:Heap}{nx:Nat}{Post:AVal→Heap→Nat→Prop}(htt:TT.ok P tt)(hft:FT.ok P ft)(hc:c.det P)(hci:ci.ok P)(hm:P.follows .mixedOrders=true)
 (h:fnT c ci ft tt pls fuel f args H nx Post):YZ P f args H nx Post:=by
 unfold fnT at h
 split at h
 rotate_left
 ·exact h.elim
 rename_i fa hf
 refine⟨hft.fnOk hf,?_⟩
 intro ι w vs ha hH hb
 obtain⟨fn,h1,h2,h3,h4,h5⟩:=hft f fa hf
 have hlen:=ha.1
 refine calls_of_wp h1 h2 ?_
 have hS:RelS fa.n ι ⟨VO 0 args,H,nx⟩ {tmps:=⟨vs⟩++Array.replicate (fn.ntmps-(⟨vs⟩:Array Value).size) undef,defers:=[]} w:=by
  refine⟨rfl,?_,fun k=>?_,hH,hb⟩
  ·simp[h3];omega
  ·rw[Kf]
   simp only[Nat.zero_le,if_true,Nat.sub_zero]
   rcases Nat.lt_or_ge k args.length with hk|hk
   ·have e1:args.getD k .any=args[k]:=by simp[hk]
    have hk':k<vs.length:=by omega
    rw[e1]
    have:=ha.2 k _ _ (by simp[hk]:args[k]?=some args[k]) (by simp[hk']:vs[k]?=some vs[k])
    simpa[Array.getElem?_append,hk']using this
   ·have e1:args.getD k .any= .any:=by simp[hk]
    rw[e1]
    exact .any _
 refine Uf htt hc hci hm fuel none fa.code _ _ h (bodyPost P fn _) ι _ w (Nat.le_refl _) hS (fun e s' κ a' w' hk hn' hS' hst=>?_)
 have fin:(∃s3,Reb nx fa.n s' s3∧ ∃v,YE tt s3 fa.res=some v∧Post v s3.heap s3.nx)→a'.defers=[]∧ ∃r,(results fn a'.tmps).run P w'= .ok r w'∧ ∃v H' nx' r' κ,Post v H' nx'∧Ending.returned r= .returned r'∧RelV κ v r'∧RelH κ H' w'∧StepL nx ι H w κ H' w'∧X1 κ nx' w'∧nx≤nx':=by
  rintro⟨s3,hr,v,hv,hp⟩
  obtain⟨κ3,hS3,hst3⟩:=hr.2 κ a' w' hS'
  rw[←h4]at hv
  obtain⟨r,hrun,hrv⟩:=U0 htt hS3 hv
  exact⟨hS'.defers,r,hrun,v,_,_,r,κ3,hp,rfl,hrv,hS3.heap,hst.trans hst3,hS3.bound,hr.1 hn'⟩
 cases e with
 |normal=>exact fin hk
 |ret=>exact fin hk
 |exit id=>exact hk.elim
 |goto l=>exact hk.elim
end Go.Av
end
end
section
set_option linter.unusedVariables false
set_option linter.unusedSimpArgs false
noncomputable section
namespace Go.Av
def M9(ρ:Nat→Nat):Heap→Heap
 |[]=>[]
 |(n,some b)::t=>(ρ n,bif b.ro then none else some (b.ren ρ))::M9 ρ t
 |(n,none)::t=>(ρ n,none)::M9 ρ t
def Hz(ρ:Nat→Nat):Heap→Heap→Heap
 |[],H=>H
 |(n,_)::t,H=>(ρ n,none)::Hz ρ t H
def IL:Heap→Heap→Heap
 |[],H=>H
 |p::t,H=>p::IL t H
def P0(ρ:Nat→Nat)(H H3 H':Heap):Heap:=IL (M9 ρ H') (Hz ρ H3 H)
theorem CI:∀(A H:Heap) (m:Nat) (b:Blk),(IL A H).get m=some b→(∃o,(m,o)∈A∧A.get m=some b)∨H.get m=some b
 |[],H,m,b,h=>.inr h
 |(k,o)::t,H,m,b,h=>by
  simp only[IL]at h
  rw[Heap.get_cons]at h
  by_cases hk:m=k
  ·subst hk
   rw[Nat.beq_refl]at h
   have h:o=some b:=h
   exact .inl ⟨o,by simp,by rw[Heap.get_cons,Nat.beq_refl];exact h⟩
  ·rw[Qd hk]at h
   rcases CI t H m b h with⟨o',h1,h2⟩|h1
   ·exact .inl ⟨o',by simp[h1],by rw[Heap.get_cons,Qd hk];exact h2⟩
   ·exact .inr h1
theorem FL(ρ:Nat→Nat):∀(A H:Heap) (m:Nat) (b:Blk),(Hz ρ A H).get m=some b→H.get m=some b∧ ∀n o,(n,o)∈A→m≠ρ n
 |[],H,m,b,h=>⟨h,by simp⟩
 |(k,o)::t,H,m,b,h=>by
  simp only[Hz]at h
  rw[Heap.get_cons]at h
  by_cases hk:m=ρ k
  ·subst hk;rw[Nat.beq_refl]at h;cases h
  ·rw[Qd hk]at h
   obtain⟨h1,h2⟩:=FL ρ t H m b h
   refine⟨h1,fun n o' hn=>?_⟩
   rcases List.mem_cons.1 hn with h3|h3
   ·cases h3;exact hk
   ·exact h2 n o' h3
theorem M8{ρ:Nat→Nat}(hinj:∀n m,ρ n=ρ m→n=m):∀(A:Heap) (m:Nat) (b:Blk),(M9 ρ A).get m=some b→ ∃n c,A.get n=some c∧c.ro=false∧m=ρ n∧b=c.ren ρ
 |[],m,b,h=>by simp only[M9]at h;rw[Heap.get_nil]at h;cases h
 |(k,none)::t,m,b,h=>by
  simp only[M9]at h
  rw[Heap.get_cons]at h
  by_cases hk:m=ρ k
  ·subst hk;rw[Nat.beq_refl]at h;cases h
  ·rw[Qd hk]at h
   obtain⟨n,c,h1,h2,h3,h4⟩:=M8 hinj t m b h
   refine⟨n,c,?_,h2,h3,h4⟩
   rw[Heap.get_cons,Qd (fun e=>hk (by rw[h3,e]))]
   exact h1
 |(k,some a)::t,m,b,h=>by
  simp only[M9]at h
  rw[Heap.get_cons]at h
  by_cases hk:m=ρ k
  ·subst hk
   rw[Nat.beq_refl]at h
   have h:(bif a.ro then none else some (a.ren ρ))=some b:=h
   cases hr:a.ro with
   |true=>rw[hr]at h;cases h
   |false=>
    rw[hr]at h
    have h:some (a.ren ρ)=some b:=h
    exact⟨k,a,by rw[Heap.get_cons,Nat.beq_refl];rfl,hr,rfl,(Option.some.inj h).symm⟩
  ·rw[Qd hk]at h
   obtain⟨n,c,h1,h2,h3,h4⟩:=M8 hinj t m b h
   refine⟨n,c,?_,h2,h3,h4⟩
   rw[Heap.get_cons,Qd (fun e=>hk (by rw[h3,e]))]
   exact h1
theorem U7{ρ:Nat→Nat}(hinj:∀n m,ρ n=ρ m→n=m){H H3 H':Heap}{m:Nat}{b:Blk}(h:(P0 ρ H H3 H').get m=some b):
 (∃n c,H'.get n=some c∧c.ro=false∧m=ρ n∧b=c.ren ρ)∨(H.get m=some b∧ ∀n c,H3.get n=some c→m≠ρ n):=by
 rcases CI _ _ _ _ h with⟨_,_,h1⟩|h1
 ·exact .inl (M8 hinj _ _ _ h1)
 ·obtain⟨h2,h3⟩:=FL _ _ _ _ _ h1
  refine .inr ⟨h2,fun n c hc=>?_⟩
  have:∃o,(n,o)∈H3:=by
   clear h1 h2 h3 h
   induction H3 with
   |nil=>rw[Heap.get_nil]at hc;cases hc
   |cons p t ih=>
    obtain⟨k,o⟩:=p
    rw[Heap.get_cons]at hc
    by_cases hk:n=k
    ·subst hk;exact⟨o,by simp⟩
    ·rw[Qd hk]at hc
     obtain⟨o',h⟩:=ih hc
     exact⟨o',by simp[h]⟩
  obtain⟨o,ho⟩:=this
  exact h3 n o ho
def G5(ρ:Nat→Nat):List AVal→List AVal→Prop
 |[],[]=>True
 |x::l,y::r=>WkV x (y.ren ρ)∧G5 ρ l r
 |_,_=>False
theorem G5.rel[Syms]{ρ:Nat→Nat}{ι:Inj}:∀{l r:List AVal} {vs:List Value},G5 ρ l r→Qs ι l vs→Qs (ι.pull ρ) r vs
 |[],[],vs,_,h=>by rw[h.unnil];exact .nil _
 |x::l,y::r,vs,ha,h=>by
  obtain⟨v,vs',rfl,h1,h2⟩:=h.uncons
  exact .cons ((ha.1.rel h1).unren y rfl) (G5.rel ha.2 h2)
 |[],_::_,_,ha,_=>ha.elim
 |_::_,[],_,ha,_=>ha.elim
abbrev SpecT:=List AVal→Heap→Nat→(AVal→Heap→Nat→Prop)→Prop
def SpecT.ok[Syms](P:Program)(f:FuncId)(S:SpecT):Prop:=∀args H nx Post,S args H nx Post→YZ P f args H nx Post
def OL(S:SpecT):List AVal→Heap→Nat→(AVal→Heap→Nat→Prop)→Prop:=fun args H nx K=>
 ∃(l:List Nat) (args3:List AVal) (H3:Heap),WG 0 nx l=true∧G5 (rho l nx) args args3∧ZR (rho l nx) l.length H H3∧S args3 H3 l.length fun v H' nx'=>K (v.ren (rho l nx)) (P0 (rho l nx) H H3 H') (nx+nx')
theorem F1[Syms]{P:Program}{f:FuncId}{S:SpecT}(hS:S.ok P f){args:List AVal}{H:Heap}{nx:Nat}{K:AVal→Heap→Nat→Prop}(h:OL S args H nx K):
 UI P f∧ ∀(ι:Inj) (w:World) (vs:List Value),Qs ι args vs→RelH ι H w→X1 ι nx w→
 Calls P f ⟨vs⟩ w fun e w'=>∃v H' nx' r κ,K v H' nx'∧e= .returned r∧RelV κ v r∧RelH κ H' w'∧StepN ι H nx w κ H' nx' w'∧X1 κ nx' w':=by
 obtain⟨l,args3,H3,hl,ha,hh,hs⟩:=h
 obtain⟨hok,hsem⟩:=hS _ _ _ _ hs
 refine⟨hok,fun ι w vs hvs hH hb=>?_⟩
 simp only[WG,Bool.and_eq_true,decide_eq_true_eq]at hl
 obtain⟨⟨⟨h1,h2⟩,h3⟩,h4⟩:=hl
 have hinj:∀n m,rho l nx n=rho l nx m→n=m:=fun n m=>DH h1 h2
 obtain⟨g1,g2⟩:=FE hH hh hinj
 have hltl:∀n,n<l.length→rho l nx n<nx:=fun n hn=>by
  rw[Xu hn]
  have:=List.all_eq_true.1 h1 (l.getD n 0) (by simp[hn])
  simpa[Nat.blt_eq]using this
 have hb3:X1 (ι.pull (rho l nx)) l.length w:=by
  intro n L hn
  have hb:=hb _ L hn
  refine⟨?_,hb.2⟩
  rcases Nat.lt_or_ge n l.length with h|h
  ·exact h
  ·rw[WS h]at hb
   omega
 refine(hsem (ι.pull (rho l nx)) w vs (ha.rel hvs) g1 hb3).mono ?_
 rintro e w' ⟨v,H',nx',r,κ,hK,rfl,hv,hH',hst,hbd,hnx⟩
 -- the caller's numbers
 let μ:Inj:=⟨fun m=>if m<nx then ι m else if l.length≤m-nx then κ (m-nx)else none,κ.fz⟩
 have hvia:Inj.via (rho l nx) κ μ:=by
  refine⟨fun n L hn=>?_,fun _ _ h=>h⟩
  rcases Nat.lt_or_ge n l.length with h|h
  ·have:=hst.fresh n L h hn
   show(if rho l nx n<nx then ι (rho l nx n)else _)=some L
   rw[if_pos (hltl n h)]
   exact this
  ·show(if rho l nx n<nx then _ else if l.length≤rho l nx n-nx then κ (rho l nx n-nx)else none)=some L
   rw[WS h,if_neg (by omega),show nx+n-nx=n by omega,if_pos h]
   exact hn
 have hback:∀n,∀L,μ (rho l nx n)=some L→κ n=some L:=by
  intro n L hn
  rcases Nat.lt_or_ge n l.length with h|h
  ·have hn:(if rho l nx n<nx then ι (rho l nx n)else _)=some L:=hn
   rw[if_pos (hltl n h)]at hn
   exact hst.keep n L h hn
  ·have hn:(if rho l nx n<nx then _ else if l.length≤rho l nx n-nx then κ (rho l nx n-nx)else none)=some L:=hn
   rw[WS h,if_neg (by omega),show nx+n-nx=n by omega,if_pos h]at hn
   exact hn
 have hle:ι.le μ:=by
  refine⟨fun n L hn=>?_,fun g cs hg=>hst.fzle g cs hg⟩
  show(if n<nx then ι n else _)=some L
  rw[if_pos (hb n L hn).1];exact hn
 have hold:∀m L,m<nx→μ m=some L→ι m=some L:=by
  intro m L hm hL
  have hL:(if m<nx then ι m else _)=some L:=hL
  rwa [if_pos hm]at hL
 -- a block of the caller's that was not handed over
 have hframe:∀m b L,H.get m=some b→(∀n c,H3.get n=some c→m≠rho l nx n)→ι m=some L→b.ro=false∨b.ro=true→(¬Own (ι.pull (rho l nx)) H3 L.g):=by
  rintro m b L hm hno hL _ ⟨n,c,M,k1,k2,k3,k4⟩
  obtain⟨_,c0,k5,k6⟩:=hh.get n c k1
  rcases hH.inj m _ b _ L M hm k5 hL k3 k4.symm with h|h
  ·exact hno n c k1 h
  ·rw[k6.ro,Blk.ren_ro,k2]at h;cases h.2
 have hfr:∀m b,H.get m=some b→ ∃L,ι m=some L∧L.g<w.heap.size∧m<nx:=by
  intro m b hm
  obtain⟨L,hL,_⟩:=hH.blk m b hm
  exact⟨L,hL,(hb m L hL).2,(hb m L hL).1⟩
 have hownOut:∀g,Own μ (P0 (rho l nx) H H3 H') g→Own ι H g∨w.heap.size≤g:=by
  rintro g ⟨m,b,L,k1,k2,k3,k4⟩
  rcases U7 hinj k1 with⟨n,c,c1,c2,rfl,rfl⟩|⟨c1,c2⟩
  ·rcases hst.own g ⟨n,c,L,c1,c2,hback n L k3,k4⟩with h|h
   ·exact .inl (g2 g h)
   ·exact .inr h
  ·obtain⟨L',q1,q2,q3⟩:=hfr m b c1
   exact .inl ⟨m,b,L,c1,k2,hold m L q3 k3,k4⟩
 have hsame:∀g,g<w.heap.size→ ¬Own ι H g→w'.heap[g]?=w.heap[g]?:=fun g hg ho=>hst.same g hg (fun h=>ho (g2 g h))
 refine⟨_,_,_,r,μ,hK,rfl,hv.ren hvia,⟨fun m b hm=>?_,fun m m' b b' L L' k1 k2 k3 k4 k5=>?_,fun g cs hg=>⟨(hH'.fz g cs hg).1,?_⟩⟩,⟨⟨hle,hst.os,hst.tape,hst.output,hst.size,hsame,hownOut,fun g cs hg=>?_⟩,by omega,fun n L hn=>?_⟩,fun n L hn=>?_⟩
 ·rcases U7 hinj hm with⟨n,c,c1,c2,rfl,rfl⟩|⟨c1,c2⟩
  ·obtain⟨L,q1,q2⟩:=hH'.blk n c c1
   exact⟨L,hvia.loc n L q1,q2.ren hvia⟩
  ·obtain⟨L,q1,q2⟩:=hH.blk m b c1
   refine⟨L,hle.1 _ _ q1,q2.keep hle ?_⟩
   refine hst.same _ (hb m L q1).2 (hframe m b L c1 c2 q1 (by cases b.ro<;>simp))
 ·rcases U7 hinj k1 with⟨n,c,c1,c2,rfl,rfl⟩|⟨c1,c2⟩<;>rcases U7 hinj k2 with⟨n',c',c1',c2',rfl,rfl⟩|⟨c1',c2'⟩
  ·rcases hH'.inj n n' c c' L L' c1 c1' (hback _ _ k3) (hback _ _ k4) k5 with h|h
   ·exact .inl (by rw[h])
   ·rw[c2]at h;cases h.1
  ·obtain⟨M,q1,q2,q3⟩:=hfr m' b' c1'
   have e:L'=M:=by have:=hold m' L' q3 k4;rw[q1]at this;exact(Option.some.inj this).symm
   subst e
   rcases hst.own L'.g ⟨n,c,L,c1,c2,hback n L k3,k5⟩with h|h
   ·exact absurd h (hframe m' b' L' c1' c2' q1 (by cases b'.ro<;>simp))
   ·omega
  ·obtain⟨M,q1,q2,q3⟩:=hfr m b c1
   have e:L=M:=by have:=hold m L q3 k3;rw[q1]at this;exact(Option.some.inj this).symm
   subst e
   rcases hst.own L.g ⟨n',c',L',c1',c2',hback n' L' k4,k5.symm⟩with h|h
   ·exact absurd h (hframe m b L c1 c2 q1 (by cases b.ro<;>simp))
   ·omega
  ·obtain⟨M,q1,q2,q3⟩:=hfr m b c1
   obtain⟨M',q1',q2',q3'⟩:=hfr m' b' c1'
   exact hH.inj m m' b b' L L' c1 c1' (hold m L q3 k3) (hold m' L' q3' k4) k5
 ·rintro⟨m,b,L,k1,k2,k3,k4⟩
  rcases U7 hinj k1 with⟨n,c,c1,c2,rfl,rfl⟩|⟨c1,c2⟩
  ·exact(hH'.fz g cs hg).2 ⟨n,c,L,c1,c2,hback n L k3,k4⟩
  ·obtain⟨M,q1,q2,q3⟩:=hfr m b c1
   have e:L=M:=by have:=hold m L q3 k3;rw[q1]at this;exact(Option.some.inj this).symm
   subst e
   rcases hst.fzs g cs hg with h|h|h
   ·exact(hH.fz g cs h).2 ⟨m,b,L,c1,k2,q1,k4⟩
   ·omega
   ·rw[←k4]at h
    exact hframe m b L c1 c2 q1 (by cases b.ro<;>simp) h
 ·rcases hst.fzs g cs hg with h|h|h
  ·exact .inl h
  ·exact .inr (.inl h)
  ·exact .inr (.inr (g2 g h))
 ·have hn':(if n<nx then ι n else if l.length≤n-nx then κ (n-nx)else none)=some L:=hn
  by_cases hlt:n<nx
  ·rw[if_pos hlt]at hn';exact .inl hn'
  ·exact .inr (by omega)
 ·have hn':(if n<nx then ι n else if l.length≤n-nx then κ (n-nx)else none)=some L:=hn
  by_cases hlt:n<nx
  ·rw[if_pos hlt]at hn'
   have:=hb n L hn'
   exact⟨by omega,Nat.lt_of_lt_of_le this.2 hst.size⟩
  ·rw[if_neg hlt]at hn'
   split at hn'
   ·have:=hbd _ L hn'
    exact⟨by omega,this.2⟩
   ·cases hn'
def Qv(n:Nat)(c d:CallT):CallT:=fun f args H nx K=>@Bool.rec (fun _=>Prop) (d f args H nx K) (c f args H nx K) (Nat.beq f n)
def Qz:CallT:=fun _ _ _ _ _=>False
def Hh(S:SpecT):CallT:=fun _ args H nx K=>OL S args H nx K
theorem Qy[Syms]{P:Program}:Qz.ok P:=fun _ _ _ _ _ h=>h.elim
theorem Qn[Syms]{P:Program}:Qz.det P:=fun _ _ _ _ _ h=>h.elim
theorem K2[Syms]{P:Program}{n:Nat}{S:SpecT}{d:CallT}(hS:S.ok P n)(hd:d.ok P):(Qv n (Hh S) d).ok P:=by
 intro f args H nx K h
 unfold Qv at h
 cases hf:Nat.beq f n with
 |true=>
  rw[hf]at h
  have:=Nat.eq_of_beq_eq_true hf
  subst this
  exact F1 hS h
 |false=>rw[hf]at h;exact hd f args H nx K h
def L0(g:List AVal→(AVal→Prop)→Prop):CallT:=fun _ args H nx K=>g args fun v=>K v H nx
def HZ[Syms](P:Program)(f:FuncId)(g:List AVal→(AVal→Prop)→Prop):Prop:=∀args K,g args K→UI P f∧ ∃v,K v∧ ∀(ι:Inj) (w:World) (vs:List Value),Qs ι args vs→Calls P f ⟨vs⟩ w fun e w'=>∃r,e= .returned r∧RelV ι v r∧w'=w
theorem FI[Syms]{P:Program}{n:Nat}{g:List AVal→(AVal→Prop)→Prop}{d:CallT}(hg:HZ P n g)(hd:d.det P):(Qv n (L0 g) d).det P:=by
 intro f args H nx K h
 unfold Qv at h
 cases hf:Nat.beq f n with
 |true=>
  rw[hf]at h
  have:=Nat.eq_of_beq_eq_true hf
  subst this
  obtain⟨h1,v,h2,h3⟩:=hg args _ h
  refine⟨v,H,nx,h1,fun ι w vs ha hH hb=>(h3 ι w vs ha).mono ?_,h2⟩
  rintro e w' ⟨r,rfl,hr,rfl⟩
  exact⟨r,ι,rfl,hr,hH,.refl ..,hb⟩
 |false=>rw[hf]at h;exact hd f args H nx K h
theorem KA[Syms]{P:Program}{n:Nat}{g:List AVal→(AVal→Prop)→Prop}{d:CallT}(hg:HZ P n g)(hd:d.ok P):(Qv n (L0 g) d).ok P:=by
 intro f args H nx K h
 unfold Qv at h
 cases hf:Nat.beq f n with
 |true=>
  rw[hf]at h
  have hd':(Qv f (L0 g) Qz).det P:=FI (Nat.eq_of_beq_eq_true hf▸hg) Qn
  refine hd'.ok f args H nx K ?_
  unfold Qv
  rw[Nat.beq_refl]
  exact h
 |false=>rw[hf]at h;exact hd f args H nx K h
end Go.Av
end
end
section
set_option linter.unusedVariables false
set_option linter.unusedSimpArgs false
noncomputable section
namespace Go.Av
theorem Mc[Syms]{na N:Nat}{e:Env}{H H':Heap}{nx:Nat}(hs:H'.sub H):Reb na N ⟨e,H,nx⟩ ⟨e,H',nx⟩:=
 ⟨fun h=>h,fun ι a w h=>⟨ι,⟨h.defers,h.size,h.env,h.heap.sub hs,h.bound⟩,⟨fun _ _ _ h=>h,fun _ _ h=>h,rfl,rfl,rfl,Nat.le_refl _,fun _ _ _=>rfl,fun g hg=>.inl (hg.sub hs),fun _ _ h=>.inl h,fun _ _ _ h=>h⟩⟩⟩
theorem Vy[Syms]{na N:Nat}{e:Env}{H:Heap}{nx:Nat}:Reb na N ⟨e,H,nx⟩ ⟨e,[],nx⟩:=Mc fun n b h=>by rw[Heap.get_nil]at h;cases h
theorem Hs[Syms]{na N:Nat}{e:Env}{H:Heap}{nx:Nat}(l:List Nat):Reb na N ⟨e,H,nx⟩ ⟨prune l e,H,nx⟩:=
 ⟨fun h=>h,fun ι a w h=>⟨ι,h.prune l,.refl ..⟩⟩
theorem Xv[Syms]{na N:Nat}{e:Env}{H:Heap}{nx k:Nat}{y:AVal}(h:∀(ι:Inj) (v:Value),RelV ι (e.get k) v→RelV ι y v):Reb na N ⟨e,H,nx⟩ ⟨(k,y)::e,H,nx⟩:=
 ⟨fun h=>h,fun ι a w hS=>⟨ι,⟨hS.defers,hS.size,fun j=>by
  show RelV ι (Env.get ((k,y)::e) j) _
  rw[Env.get_cons]
  by_cases hj:j=k
  ·subst hj;rw[Nat.beq_refl];exact h ι _ (hS.env j)
  ·rw[Qd hj];exact hS.env j,hS.heap,hS.bound⟩,.refl ..⟩⟩
theorem Lk[Syms]{na N:Nat}{e:Env}{H:Heap}{nx k:Nat}(sz:Nat)(h:(e.get k).isZ sz=true):Reb na N ⟨e,H,nx⟩ ⟨(k,.vs sz [])::e,H,nx⟩:=Xv fun _ _ hv=>hv.isZ h
theorem MJ(e:Env)(n:Nat)(rows:List (List AVal)):∀l:Env,(∀p∈l,e.get p.1=p.2)→Dq e n rows l
 |[],_=>trivial
 |p::t,h=>⟨.inl (h p (List.mem_cons_self ..)),MJ e n rows t fun q hq=>h q (List.mem_cons_of_mem _ hq)⟩
theorem E8[Syms]{na N:Nat}{e:Env}{H:Heap}{nx k n off len sz:Nat}{cap:Option Nat}{rows:List (List AVal)}(hk:e.get k= .slice n off len sz cap)(hb:H.get n=some (.cells rows false))(hol:off+len≤rows.length)
 (hf:∀r∈rows,∀x∈r,x.flat=true):Reb na N ⟨e,H,nx⟩ ⟨[(k,.vs sz ((rows.drop off).take len))],[],nx⟩:=by
 by_cases h0:len=0
 ·subst h0
  refine(Lk sz (k:=k) (by rw[hk];rfl)).trans ((Vy).trans ⟨fun h=>h,fun ι a w hS=>⟨ι,⟨hS.defers,hS.size,fun j=>?_,hS.heap,hS.bound⟩,.refl ..⟩⟩)
  rw[Env.get_cons]
  by_cases hj:j=k
  ·subst hj
   have:=hS.env j
   simp only[Env.get_cons,Nat.beq_refl,cond_true]at this ⊢
   simpa using this
  ·rw[Qd hj];exact .any _
 ·refine(Md (e3:=[(k,.vs sz ((rows.drop off).take len))]) hb hf ⟨.inr ⟨off,len,sz,cap,hk,by omega,hol,rfl⟩,trivial⟩).trans Vy
abbrev vT{α:Type}(sz:Nat)(enc:α→List AVal)(d:α)(l:List α):AVal:=.vt sz l.length fun i=>enc (l.getD i d)
theorem XY{α:Type}(enc:α→List AVal)(d:α)(l:List α):(XW l.length fun i=>enc (l.getD i d))=l.map enc:=by
 apply List.ext_getElem?
 intro i
 unfold XW
 by_cases h:i<l.length
 ·simp[h]
 ·simp[h]
theorem NQ[Syms]{na N:Nat}{e:Env}{H:Heap}{nx k sz n:Nat}{f:Nat→List AVal}{rows:List (List AVal)}(hk:e.get k= .vs sz rows)(h:rows=XW n f):Reb na N ⟨e,H,nx⟩ ⟨(k,.vt sz n f)::e,H,nx⟩:=
 Xv fun ι v hv=>by rw[hk,h]at hv;exact .vt _ _ _ _ hv
theorem DI[Syms]{na N:Nat}{e:Env}{H:Heap}{nx k:Nat}{v:AVal}(h:e.get k=v):Reb na N ⟨e,H,nx⟩ ⟨[(k,v)],H,nx⟩:=
 ⟨fun h=>h,fun ι a w hS=>⟨ι,⟨hS.defers,hS.size,fun j=>by
  show RelV ι (Env.get [(k,v)] j) _
  rw[Env.get_cons]
  by_cases hj:j=k
  ·subst hj;rw[Nat.beq_refl,←h];exact hS.env j
  ·rw[Qd hj];exact .any _,hS.heap,hS.bound⟩,.refl ..⟩⟩
theorem XD[Syms]{α:Type}{enc:α→List AVal}(d:α){l:List α}{na N:Nat}{e:Env}{H:Heap}{nx k n len sz:Nat}{cap:Option Nat}{rows:List (List AVal)}(hk:e.get k= .slice n 0 len sz cap)(hb:H.get n=some (.cells rows false))(hf:∀r∈rows,∀x∈r,x.flat=true)
 (hl:rows.take len=l.map enc) (hle:len≤rows.length):Reb na N ⟨e,H,nx⟩ ⟨[(k,vT sz enc d l)],[],nx⟩:=by
 refine(E8 (sz:=sz) hk hb (by omega) hf).trans ((NQ (k:=k) (sz:=sz) (rows:=(rows.drop 0).take len) (n:=l.length) (f:=fun i=>enc (l.getD i d)) ?_ ?_).trans (DI ?_))
 ·rw[Env.get_cons,Nat.beq_refl];rfl
 ·rw[XY,List.drop_zero];exact hl
 ·rw[Env.get_cons,Nat.beq_refl];rfl
theorem Kw[Syms]{α:Type}(sz:Nat)(enc:α→List AVal)(d:α){na N:Nat}{e:Env}{H:Heap}{nx k:Nat}(hk:(e.get k).isZ sz=true):Reb na N ⟨e,H,nx⟩ ⟨[(k,vT sz enc d [])],[],nx⟩:=by
 refine(Xv (y:=vT sz enc d []) fun ι v hv=>.vt _ _ _ _ (hv.isZ hk)).trans (Vy.trans (DI ?_))
 rw[Env.get_cons,Nat.beq_refl];rfl
def AVal.imm:AVal→Bool
 | .agg cs| .tup cs| .func _ cs=>cs.all AVal.flat
 |v=>v.flat
theorem RelV.imm[Syms]{ι κ:Inj}(hz:∀g cs,ι.fz g=some cs→κ.fz g=some cs){x:AVal}{v:Value}(hx:x.imm=true)(h:RelV ι x v):RelV κ.bare x v:=by
 cases x with
 |agg cs=>
  obtain⟨vs,rfl,hl⟩:=h.of_agg
  exact .mk_agg ⟨hl.1,fun i c v h1 h2=>(hl.2 i c v h1 h2).flat hz (List.all_eq_true.1 hx c (List.mem_of_getElem? h1))⟩
 |tup cs=>
  obtain⟨vs,rfl,hl⟩:=h.of_tup
  exact .mk_tup ⟨hl.1,fun i c v h1 h2=>(hl.2 i c v h1 h2).flat hz (List.all_eq_true.1 hx c (List.mem_of_getElem? h1))⟩
 |func f cs=>
  cases h with
  |func _ _ vs hf hl h=>exact .func f cs vs hf hl fun i c v h1 h2=>(h i c v h1 h2).flat hz (List.all_eq_true.1 hx c (List.mem_of_getElem? h1))
  |bfunc f' _ vs hl h=>exact .bfunc f' cs vs hl fun i c v h1 h2=>(h i c v h1 h2).flat hz (List.all_eq_true.1 hx c (List.mem_of_getElem? h1))
 |_=>exact h.flat hz hx
theorem QP[Syms]{na N:Nat}{e:Env}{H:Heap}{nx:Nat}(l:List Nat)(h:((prune l e).all fun p=>p.2.imm)=true):Reb na N ⟨e,H,nx⟩ ⟨prune l e,[],na⟩:=by
 refine⟨fun _=>Nat.le_refl _,fun ι a w hS=>⟨⟨fun n=>if n<na then ι n else none,ι.fz⟩,⟨hS.defers,hS.size,fun k=>?_,⟨fun n b hb=>(by rw[Heap.get_nil]at hb;cases hb),fun n m b c L M hb=>(by rw[Heap.get_nil]at hb;cases hb),fun g cs hg=>⟨(hS.heap.fz g cs hg).1,fun⟨n,b,L,h1,_⟩=>by rw[Heap.get_nil]at h1;cases h1⟩⟩,fun n L hn=>?_⟩,
  ⟨fun n L hn hL=>?_,fun _ _ h=>h,rfl,rfl,rfl,Nat.le_refl _,fun _ _ _=>rfl,fun g ⟨n,b,L,h1,_⟩=>(by rw[Heap.get_nil]at h1;cases h1),fun g cs hg=>.inl hg,fun n L hn hL=>?_⟩⟩⟩
 ·have hv:=(hS.prune l).env k
  have key:∀(e':Env),(e'.all fun p=>p.2.imm)=true→ ∀v,RelV ι (e'.get k) v→RelV (⟨fun n=>if n<na then ι n else none,ι.fz⟩:Inj) (e'.get k) v:=by
   intro e' he v hv
   induction e' with
   |nil=>rw[Env.get_nil];exact .any _
   |cons p t ih=>
    obtain⟨j,y⟩:=p
    simp only[List.all_cons,Bool.and_eq_true]at he
    rw[Env.get_cons]at hv ⊢
    by_cases hj:k=j
    ·subst hj
     rw[Nat.beq_refl]at hv ⊢
     exact RelV.mono (ι:=ι.bare) (κ:=⟨fun n=>if n<na then ι n else none,ι.fz⟩) ⟨fun _ _ h=>(nomatch h),fun _ _ h=>h⟩ (RelV.imm (κ:=ι) (fun _ _ h=>h) he.1 hv)
    ·rw[Qd hj]at hv ⊢
     exact ih he.2 hv
  exact key _ h _ hv
 ·have hn:(if n<na then ι n else none)=some L:=hn
  by_cases hlt:n<na
  ·rw[if_pos hlt]at hn
   exact⟨hlt,(hS.bound n L hn).2⟩
  ·rw[if_neg hlt]at hn;cases hn
 ·show(if n<na then ι n else none)=some L
  rw[if_pos hn];exact hL
 ·have hL:(if n<na then ι n else none)=some L:=hL
  rwa [if_pos hn]at hL
def JD:List AVal→Bool
 |[]=>true
 |x::l=>x.imm&&JD l
theorem Qs.imm[Syms]{ι:Inj}:∀{xs:List AVal} {vs:List Value},JD xs=true→Qs ι xs vs→Qs ι.bare xs vs
 |[],vs,_,h=>by rw[h.unnil];exact .nil _
 |x::xs,vs,hx,h=>by
  simp only[JD,Bool.and_eq_true]at hx
  obtain⟨v,vs',rfl,h1,h2⟩:=h.uncons
  exact .cons (h1.imm (fun _ _ h=>h) hx.1) (Qs.imm hx.2 h2)
abbrev SpecI:=List AVal→(AVal→Prop)→Prop
def X0[Syms](P:Program)(f:FuncId)(S:SpecI):Prop:=∀args K,S args K→JD args=true∧ ∃v,v.imm=true∧K v∧YZ P f args [] 0 fun v' H' _=>v'=v∧H'=[]
theorem LP[Syms]{P:Program}{f:FuncId}{args:List AVal}{v:AVal}(ha:JD args=true)(hv:v.imm=true)(h:YZ P f args [] 0 fun v' H' _=>v'=v∧H'=[])(H:Heap)(nx:Nat):Y6 P f args H nx v H nx:=by
 intro ι w vs hvs hH hb
 have h0:RelH ι.bare [] w:=⟨fun n b hb=>(by rw[Heap.get_nil]at hb;cases hb),fun n m b c L M hb=>(by rw[Heap.get_nil]at hb;cases hb),fun g cs hg=>⟨(hH.fz g cs hg).1,fun⟨n,b,L,h1,_⟩=>by rw[Heap.get_nil]at h1;cases h1⟩⟩
 refine(h.2 ι.bare w vs (hvs.imm ha) h0 (fun n L hn=>nomatch hn)).mono ?_
 rintro e w' ⟨v',H',nx',r,κ,⟨rfl,rfl⟩,rfl,hr,hH',hst,_⟩
 have same:∀g,g<w.heap.size→w'.heap[g]?=w.heap[g]?:=fun g hg=>hst.same g hg fun⟨n,b,L,h1,_⟩=>by rw[Heap.get_nil]at h1;cases h1
 have noOwn:∀g,¬Own ι.bare [] g:=fun g ⟨n,b,L,h1,_⟩=>by rw[Heap.get_nil]at h1;cases h1
 let μ:Inj:=⟨ι.loc,κ.fz⟩
 have hle:ι.le μ:=⟨fun _ _ h=>h,fun g cs hg=>hst.fzle g cs hg⟩
 refine⟨r,μ,rfl,RelV.mono (ι:=μ.bare) (Inj.bare_le μ) (hr.imm (κ:=κ) (fun _ _ h=>h) hv),⟨fun n b hn=>?_,hH.inj,fun g cs hg=>⟨(hH'.fz g cs hg).1,fun ho=>?_⟩⟩,⟨⟨hle,hst.os,hst.tape,hst.output,hst.size,fun g hg _=>same g hg,fun g hg=>.inl hg,fun g cs hg=>?_⟩,Nat.le_refl _,fun n L hn=>.inl hn⟩,fun n L hn=>⟨(hb n L hn).1,Nat.lt_of_lt_of_le (hb n L hn).2 hst.size⟩⟩
 ·obtain⟨L,h1,h2⟩:=hH.blk n b hn
  exact⟨L,h1,h2.keep hle (same _ (hb n L h1).2)⟩
 ·obtain⟨n,b,L,h1,h2,h3,h4⟩:=ho
  rcases hst.fzs g cs hg with h|h|h
  ·exact(hH.fz g cs h).2 ⟨n,b,L,h1,h2,h3,h4⟩
  ·have:=(hb n L h3).2;omega
  ·exact noOwn g h
 ·rcases hst.fzs g cs hg with h|h|h
  ·exact .inl h
  ·exact .inr (.inl h)
  ·exact absurd h (noOwn g)
def Yh(S:SpecI):CallT:=fun _ args H nx K=>S args fun v=>K v H nx
theorem XN[Syms]{P:Program}{n:Nat}{S:SpecI}{d:CallT}(hS:X0 P n S)(hd:d.det P):(Qv n (Yh S) d).det P:=by
 intro f args H nx K h
 unfold Qv at h
 cases hf:Nat.beq f n with
 |true=>
  rw[hf]at h
  have:=Nat.eq_of_beq_eq_true hf
  subst this
  obtain⟨h1,v,h2,h3,h4⟩:=hS args _ h
  exact⟨v,H,nx,h4.1,LP h1 h2 h4 H nx,h3⟩
 |false=>rw[hf]at h;exact hd f args H nx K h
theorem Qp[Syms]{P:Program}{n:Nat}{S:SpecI}{d:CallT}(hS:X0 P n S)(hd:d.ok P):(Qv n (Yh S) d).ok P:=by
 intro f args H nx K h
 unfold Qv at h
 cases hf:Nat.beq f n with
 |true=>
  rw[hf]at h
  have hd':(Qv f (Yh S) Qz).det P:=XN (Nat.eq_of_beq_eq_true hf▸hS) Qn
  refine hd'.ok f args H nx K ?_
  unfold Qv
  rw[Nat.beq_refl]
  exact h
 |false=>rw[hf]at h;exact hd f args H nx K h
def Dn[Syms](c ci:CallT)(ft:FT)(tt:TT)(pls:Nat→Nat→Pl)(fuel:Nat):CallT:=fun f args H nx K=>fnT c ci ft tt pls fuel f args H nx K
theorem YP[Syms]{P:Program}{c ci:CallT}{ft:FT}{tt:TT}{pls:Nat→Nat→Pl}{fuel:Nat}(htt:TT.ok P tt)(hft:FT.ok P ft)(hc:c.det P)(hci:ci.ok P)(hm:P.follows .mixedOrders=true):(Dn c ci ft tt pls fuel).ok P:=by
 intro f args H nx K h
 obtain⟨h1,h2⟩:=QS htt hft hc hci hm h
 refine⟨h1,fun ι w vs ha hH hb=>(h2 ι w vs ha hH hb).mono ?_⟩
 rintro e w' ⟨v,H',nx',r,κ,hK,rfl,hr,hH',hst,hb',hnx⟩
 exact⟨v,H',nx',r,κ,hK,rfl,hr,hH',⟨⟨⟨fun n L hn=>hst.keep n L (hb n L hn).1 hn,hst.fzle⟩,hst.os,hst.tape,hst.output,hst.size,hst.same,hst.own,hst.fzs⟩,hnx,fun n L hn=>by
  rcases Nat.lt_or_ge n nx with h|h
  ·exact .inl (hst.fresh n L h hn)
  ·exact .inr h⟩,hb'⟩
theorem YF[Syms]{P:Program}{n:Nat}{c d:CallT}(hc:c.ok P)(hd:d.ok P):(Qv n c d).ok P:=by
 intro f args H nx K h
 unfold Qv at h
 cases hf:Nat.beq f n with
 |true=>rw[hf]at h;exact hc f args H nx K h
 |false=>rw[hf]at h;exact hd f args H nx K h
theorem fnI[Syms]{P:Program}{c ci:CallT}{ft:FT}{tt:TT}{pls:Nat→Nat→Pl}{fuel:Nat}{f:FuncId}{args:List AVal}{v:AVal}(htt:TT.ok P tt)(hft:FT.ok P ft)(hc:c.det P)(hci:ci.ok P)(hm:P.follows .mixedOrders=true)
 (h:fnT c ci ft tt pls fuel f args [] 0 fun v' H' _=>v'=v∧H'=[]):YZ P f args [] 0 fun v' H' _=>v'=v∧H'=[]:=QS htt hft hc hci hm h
theorem XQ[Syms]{na N:Nat}{s:St}{B:(Nat→St→Prop)→Nat→St→Prop}(h:B (fun n s'=>n=0∧s'=s) 0 s):∃I:Nat→St→Prop,(∃n s1,Reb na N s s1∧I n s1)∧ ∀n s1,I n s1→B I n s1:=
 ⟨fun n s'=>n=0∧s'=s,⟨0,s,.refl _ _ _,rfl,rfl⟩,by rintro _ _ ⟨rfl,rfl⟩;exact h⟩
def Qe(rows:List (List AVal)):Prop:=∀r∈rows,∀x∈r,x.flat=true
theorem Vb(ρ:Nat→Nat){x:AVal}(h:x.flat=true):x.ren ρ=x:=by
 cases x<;>first|(cases h;done)|(simp only[AVal.ren];done)
theorem W9(ρ:Nat→Nat):∀{r:List AVal},(∀x∈r,x.flat=true)→AVal.renL ρ r=r
 |[],_=>by simp only[AVal.renL]
 |x::r,h=>by simp only[AVal.renL,Vb ρ (h x (List.mem_cons_self ..)),W9 ρ fun y hy=>h y (List.mem_cons_of_mem _ hy)]
theorem Um(ρ:Nat→Nat){rows:List (List AVal)}{ro:Bool}(h:Qe rows):(Blk.cells rows ro).ren ρ= .cells rows ro:=by
 simp only[Blk.ren]
 congr 1
 induction rows with
 |nil=>rfl
 |cons r rows ih=>rw[List.map_cons,W9 ρ (h r (List.mem_cons_self ..)),ih fun q hq=>h q (List.mem_cons_of_mem _ hq)]
theorem Qc{ρ:Nat→Nat}{rows:List (List AVal)}{ro:Bool}(h:Qe rows):WkB (.cells rows ro) ((Blk.cells rows ro).ren ρ):=by
 rw[Um ρ h];exact .refl _
theorem Q2{ρ:Nat→Nat}{rows rows':List (List AVal)}{ro:Bool}(h:rows'=rows)(hf:Qe rows):WkB (.cells rows' ro) ((Blk.cells rows ro).ren ρ):=by subst h;exact Qc hf
theorem QG:Qe []:=fun r hr=>nomatch hr
theorem Qa{α:Type}{enc:α→List AVal}(h:∀a,∀x∈enc a,x.flat=true)(l:List α):Qe (l.map enc):=fun r hr=>by
 obtain⟨a,_,rfl⟩:=List.mem_map.1 hr
 exact h a
theorem QC{a b:List (List AVal)}(h:Qe a)(k:Qe b):Qe (a++b):=fun r hr=>(List.mem_append.1 hr).elim (h r) (k r)
theorem JF{a:List (List AVal)}(h:Qe a){n m:Nat}:Qe ((a.drop n).take m):=fun r hr=>h r (List.mem_of_mem_drop (List.mem_of_mem_take hr))
theorem Xs{a:List AVal}{b:List (List AVal)}(h:∀x∈a,x.flat=true)(k:Qe b):Qe (a::b):=fun r hr=>(List.mem_cons.1 hr).elim (fun e=>e▸h) (k r)
theorem WR{α:Type}(enc:α→List AVal)(d:α){l:List α}{i:Nat}(h:i<l.length):(l.map enc).getD i []=enc (l.getD i d):=by simp[h]
end Go.Av
end
end
section
set_option linter.unusedVariables false
set_option linter.unusedSimpArgs false
noncomputable section
namespace Go.Av
theorem Ku[Syms]{na N:Nat}{e e3:Env}{H H3:Heap}{nx:Nat}(he:∀j,e3.get j= .any∨e.get j=e3.get j)(hh:H3.sub H):Reb na N ⟨e,H,nx⟩ ⟨e3,H3,nx⟩:=
 Reb.trans (s':=⟨e3,H,nx⟩) ⟨fun h=>h,fun ι a w hS=>⟨ι,⟨hS.defers,hS.size,fun j=>by
  rcases he j with h|h
  ·show RelV ι (e3.get j) _
   rw[h];exact .any _
  ·show RelV ι (e3.get j) _
   rw[←h];exact hS.env j,hS.heap,hS.bound⟩,.refl ..⟩⟩ (Mc hh)
theorem N2{e:Env}{k:Nat}{v:AVal}:∀{ke:Env},(∀p∈ke,p.1≠k∧e.get p.1=p.2)→ ∀j,Env.get ((k,v)::ke) j= .any∨Env.get ((k,v)::e) j=Env.get ((k,v)::ke) j:=by
 intro ke h j
 rw[Env.get_cons,Env.get_cons]
 cases Nat.beq j k with
 |true=>exact .inr rfl
 |false=>
  show Env.get ke j= .any∨Env.get e j=Env.get ke j
  induction ke with
  |nil=>exact .inl (Env.get_nil j)
  |cons p t ih=>
   obtain⟨m,x⟩:=p
   rw[Env.get_cons]
   by_cases hj:j=m
   ·subst hj
    rw[Nat.beq_refl]
    exact .inr (h (j,x) (List.mem_cons_self ..)).2
   ·rw[Qd hj]
    exact ih fun q hq=>h q (List.mem_cons_of_mem _ hq)
theorem Kv[Syms]{α:Type}{enc:α→List AVal}(d:α){l:List α}{na N:Nat}{e:Env}{H:Heap}{nx k n len sz:Nat}{cap:Option Nat}{rows:List (List AVal)}(ke:Env)(kh:Heap)
 (hk:e.get k= .slice n 0 len sz cap) (hb:H.get n=some (.cells rows false)) (hf:∀r∈rows,∀x∈r,x.flat=true) (hl:rows.take len=l.map enc) (hle:len≤rows.length)
 (hke:∀p∈ke,p.1≠k∧e.get p.1=p.2) (hkh:kh.sub (H.set n none)):Reb na N ⟨e,H,nx⟩ ⟨(k,vT sz enc d l)::ke,kh,nx⟩:=by
 have tab:∀(ι:Inj) (v:Value),RelV ι (.vs sz (l.map enc)) v→RelV ι (vT sz enc d l) v:=fun ι v hv=>.vt _ _ _ _ (by rw[XY];exact hv)
 have hsub:(H.set n none).sub H:=fun m b h=>by
  rw[Heap.get_set]at h
  split at h
  ·cases h
  ·exact h
 by_cases h0:len=0
 ·subst h0
  have hl0:l=[]:=by
   cases l with
   |nil=>rfl
   |cons a t=>rw[List.take_zero]at hl;cases hl
  subst hl0
  refine(Xv (k:=k) (y:=vT sz enc d []) fun ι v hv=>?_).trans (Ku (N2 hke) (Heap.sub_trans hkh hsub))
  rw[hk]at hv
  exact tab ι v (RelV.isZ (sz:=sz) (by simp[AVal.isZ,Nat.beq_refl]) hv)
 ·refine(Md (e3:=(k,.vs sz ((rows.drop 0).take len))::ke) hb hf ⟨.inr ⟨0,len,sz,cap,hk,by omega,by omega,rfl⟩,MJ e n rows ke fun p hp=>(hke p hp).2⟩).trans ?_
  refine(Mc hkh).trans ?_
  refine(Xv (k:=k) (y:=vT sz enc d l) fun ι v hv=>?_).trans (Ku ?_ (Heap.sub_refl _))
  ·rw[Env.get_cons,Nat.beq_refl]at hv
   simp only[cond_true,List.drop_zero,hl]at hv
   exact tab ι v hv
  ·intro j
   rw[Env.get_cons,Env.get_cons,Env.get_cons]
   cases Nat.beq j k<;>exact .inr rfl
end Go.Av
end
end
section
set_option linter.unusedVariables false
set_option linter.unusedSimpArgs false
noncomputable section
namespace Go.Av
def G2:List AVal→List AVal→Prop
 |[],[]=>True
 |a::l,b::m=>SeeV a b∧G2 l m
 |_,_=>False
theorem G2.at:∀{l m:List AVal},G2 l m→l.length=m.length∧ ∀(i:Nat) (c c':AVal),l[i]?=some c→m[i]?=some c'→SeeV c c'
 |[],[],_=>⟨rfl,fun i c c' h=>by simp at h⟩
 |a::l,b::m,h=>by
  obtain⟨h1,h2⟩:=G2.at h.2
  refine⟨by simp[h1],fun i c c' hc hc'=>?_⟩
  cases i with
  |zero=>simp at hc hc';subst hc;subst hc';exact h.1
  |succ i=>simp at hc hc';exact h2 i c c' hc hc'
 |[],_::_,h=>h.elim
 |_::_,[],h=>h.elim
theorem G2.rel[Syms]{ι:Inj}:∀{l m:List AVal} {vs:List Value},G2 l m→Qs ι l vs→Qs ι m vs
 |[],[],vs,_,h=>h
 |a::l,b::m,vs,hs,h=>by
  obtain⟨v,vs',rfl,h1,h2⟩:=h.uncons
  exact .cons (hs.1.rel h1) (G2.rel hs.2 h2)
 |[],_::_,_,h,_=>h.elim
 |_::_,[],_,h,_=>h.elim
def OV(S:SpecI):SpecI:=fun args K=>JD args=true∧ ∃args',G2 args args'∧S args' K
theorem X0.see[Syms]{P:Program}{f:FuncId}{S:SpecI}(h:X0 P f S):X0 P f (OV S):=by
 rintro args K ⟨hi,args',hs,hk⟩
 obtain⟨_,v,h2,h3,h4⟩:=h args' K hk
 exact⟨hi,v,h2,h3,h4.1,fun ι w vs hv=>h4.2 ι w vs (hs.rel hv)⟩
theorem Jd.rel[Syms]{ι:Inj}{l m:List AVal}{vs:List Value}(h:Jd l m)(hr:Qs ι l vs):Qs ι m vs:=by
 obtain⟨h1,h2⟩:=h.at
 refine⟨by rw[←h1];exact hr.1,fun i c v hc hv=>?_⟩
 have hi:i<l.length:=by rw[h1];exact(List.getElem?_eq_some_iff.1 hc).1
 exact(h2 i l[i] c (List.getElem?_eq_getElem hi) hc).rel (hr.2 i l[i] v (List.getElem?_eq_getElem hi) hv)
def seeR(S:SpecI):SpecI:=fun args K=>S args fun v=>∃v',v'.imm=true∧SeeV v v'∧K v'
theorem X0.seeR[Syms]{P:Program}{f:FuncId}{S:SpecI}(h:X0 P f S):X0 P f (seeR S):=by
 intro args K hs
 obtain⟨h1,v,h2,⟨v',h3,h4,h5⟩,h6⟩:=h args _ hs
 refine⟨h1,v',h3,h5,h6.1,fun ι w vs hv hH hb=>(h6.2 ι w vs hv hH hb).mono ?_⟩
 rintro e w' ⟨x,H',nx',r,κ,⟨rfl,rfl⟩,he,hr,g1,g2,g3,g4⟩
 exact⟨v',[],nx',r,κ,⟨rfl,rfl⟩,he,h4.rel hr,g1,g2,g3,g4⟩
inductive FzV(n:Nat)(rows:List (List AVal)):AVal→AVal→Prop
 |same (v:AVal):FzV n rows v v
 |any (v:AVal):FzV n rows v .any
 |sl (off len sz:Nat) (cap:Option Nat) (h0:0<len) (hl:off+len≤rows.length):FzV n rows (.slice n off len sz cap) (.vs sz ((rows.drop off).take len))
 |pt (k j:Nat) (row row':List AVal) (h:rows[k]?=some row) (hs:G2 row row'):FzV n rows (.ptr n k j) (.vp row' j)
 |fn (f:FuncId) (cs cs':List AVal) (hl:cs.length=cs'.length) (h:∀(i:Nat) (c c':AVal),cs[i]?=some c→cs'[i]?=some c'→FzV n rows c c'):FzV n rows (.func f cs) (.func f cs')
theorem FzV.eq{n:Nat}{rows:List (List AVal)}{v v':AVal}(h:v=v'):FzV n rows v v':=h▸ .same v
def FzL(n:Nat)(rows:List (List AVal)):List AVal→List AVal→Prop
 |[],[]=>True
 |a::l,b::m=>FzV n rows a b∧FzL n rows l m
 |_,_=>False
theorem FzL.at{n:Nat}{rows:List (List AVal)}:∀{l m:List AVal},FzL n rows l m→l.length=m.length∧ ∀(i:Nat) (c c':AVal),l[i]?=some c→m[i]?=some c'→FzV n rows c c'
 |[],[],_=>⟨rfl,fun i c c' h=>by simp at h⟩
 |a::l,b::m,h=>by
  obtain⟨h1,h2⟩:=FzL.at h.2
  refine⟨by simp[h1],fun i c c' hc hc'=>?_⟩
  cases i with
  |zero=>simp at hc hc';subst hc;subst hc';exact h.1
  |succ i=>simp at hc hc';exact h2 i c c' hc hc'
 |[],_::_,h=>h.elim
 |_::_,[],h=>h.elim
theorem FzV.func{n:Nat}{rows:List (List AVal)}{f:FuncId}{cs cs':List AVal}(h:FzL n rows cs cs'):FzV n rows (.func f cs) (.func f cs'):=.fn f cs cs' h.at.1 h.at.2
def FzE(n:Nat)(rows:List (List AVal))(e:Env):Env→Prop
 |[]=>True
 |(k,v)::t=>FzV n rows (e.get k) v∧FzE n rows e t
theorem FzE.get{n:Nat}{rows:List (List AVal)}{e:Env}:∀{e3:Env},FzE n rows e e3→ ∀k,FzV n rows (e.get k) (e3.get k)
 |[],_,k=>by rw[Env.get_nil];exact .any _
 |(j,v)::t,h,k=>by
  rw[Env.get_cons]
  by_cases hk:k=j
  ·subst hk;rw[Nat.beq_refl];exact h.1
  ·rw[Qd hk];exact FzE.get h.2 k
inductive FzB(n:Nat)(rows:List (List AVal)):Blk→Blk→Prop
 |same (b:Blk):FzB n rows b b
 |cells (R R':List (List AVal)) (ro:Bool) (hl:R'.length=R.length) (h:∀(k:Nat) (r r':List AVal),R[k]?=some r→R'[k]?=some r'→FzL n rows r r'):FzB n rows (.cells R ro) (.cells R' ro)
theorem FzB.ro{n:Nat}{rows:List (List AVal)}{b b':Blk}(h:FzB n rows b b'):b.ro=b'.ro:=by cases h<;>rfl
def FzH(n:Nat)(rows:List (List AVal))(H:Heap):Heap→Prop
 |[]=>True
 |(m,some b)::t=>(m≠n∧ ∃c,H.get m=some c∧FzB n rows c b)∧FzH n rows H t
 |(m,none)::t=>FzH n rows H t
theorem FzH.get{n:Nat}{rows:List (List AVal)}{H:Heap}:∀{H3:Heap},FzH n rows H H3→ ∀m b,H3.get m=some b→m≠n∧ ∃c,H.get m=some c∧FzB n rows c b
 |[],_,m,b,h=>by rw[Heap.get_nil]at h;cases h
 |(k,some x)::t,h,m,b,hm=>by
  rw[Heap.get_cons]at hm
  by_cases hk:m=k
  ·subst hk;rw[Nat.beq_refl]at hm;cases hm;exact h.1
  ·rw[Qd hk]at hm;exact FzH.get h.2 m b hm
 |(k,none)::t,h,m,b,hm=>by
  rw[Heap.get_cons]at hm
  by_cases hk:m=k
  ·subst hk;rw[Nat.beq_refl]at hm;cases hm
  ·rw[Qd hk]at hm;exact FzH.get (H3:=t) h m b hm
theorem Zo[Syms]{na N:Nat}{e e3:Env}{H H3:Heap}{nx n:Nat}{rows:List (List AVal)}(hb:H.get n=some (.cells rows false))(hf:∀r∈rows,∀x∈r,x.flat=true)(he:FzE n rows e e3)(hh:FzH n rows H H3):
 Reb na N ⟨e,H,nx⟩ ⟨e3,H3,nx⟩:=by
 refine⟨fun h=>h,?_⟩
 intro ι a w hS
 obtain⟨L,hL,hB⟩:=hS.heap.blk n _ hb
 obtain⟨cs,et,fz,c1,c2,c3,c4,c5⟩:=hB.rows
 have hown:Own ι H L.g:=⟨n,_,L,hb,rfl,hL,rfl⟩
 let κ:Inj:=⟨ι.loc,fun g=>if g=L.g then some cs else ι.fz g⟩
 have hz:∀g ds,ι.fz g=some ds→κ.fz g=some ds:=by
  intro g ds hg
  show(if g=L.g then some cs else ι.fz g)=some ds
  by_cases h:g=L.g
  ·subst h;exact absurd hown (hS.heap.fz _ _ hg).2
  ·rw[if_neg h];exact hg
 have hle:ι.le κ:=⟨fun _ _ h=>h,hz⟩
 have hk:κ.fz L.g=some cs:=if_pos rfl
 have hcell:∀(k j:Nat) (row:List AVal) (x:AVal),rows[k]?=some row→row[j]?=some x→ ∃v,cs[L.base+k*L.size+j]?=some v∧v.oneCell'=true∧RelV κ.bare x v:=by
  intro k j row x hr hx
  obtain⟨g1,g2⟩:=c4 k row hr
  obtain⟨v,v1,v2,v3⟩:=g2 j x hx
  exact⟨v,v1,v2,v3.flat hz (hf row (List.mem_of_getElem? hr) x (List.mem_of_getElem? hx))⟩
 have conv:∀{v v':AVal},FzV n rows v v'→ ∀u,RelV ι v u→RelV κ v' u:=by
  intro v v' hv
  induction hv with
  |same v=>exact fun u h=>h.mono hle
  |any v=>exact fun u _=>.any u
  |sl off len sz cap h0 hol=>
   intro u hx
   cases hx with
   |slice _ _ _ _ _ L' a c h hs ha hl hp hm hc=>
    have:L'=L:=by rw[hL]at h;exact(Option.some.inj h).symm
    subst this
    have ha:=ha.resolve_left (by omega)
    subst ha
    have hrl:((rows.drop off).take len).length=len:=by simp;omega
    have:Value.slice (some ⟨L'.g,L'.base+off*L'.size,none⟩) len c=Value.slice (some ⟨L'.g,L'.base+off*L'.size,none⟩) ((rows.drop off).take len).length c:=by rw[hrl]
    rw[this]
    subst hs
    have hat:∀k row,((rows.drop off).take len)[k]?=some row→k<len∧rows[off+k]?=some row:=by
     intro k row hr
     have:k<len:=by
      have:=(List.getElem?_eq_some_iff.1 hr).1
      omega
     rw[List.getElem?_take_of_lt this,List.getElem?_drop]at hr
     exact⟨this,hr⟩
    have hidx:∀k j,L'.base+off*L'.size+k*L'.size+j=L'.base+(off+k)*L'.size+j:=fun k j=>by rw[Nat.add_mul];omega
    refine .vs _ _ _ _ _ cs hk (by omega) hm ?_ (fun k row hr=>(c4 _ _ (hat k row hr).2).1) (fun k j v hk hj hv=>?_) (fun k j row x v hr hj hv=>?_)
    ·rw[hrl,c2]
     have:(off+len)*L'.size≤rows.length*L'.size:=Nat.mul_le_mul_right _ hol
     rw[Nat.add_mul]at this
     omega
    ·rw[hrl]at hk
     have hlt:off+k<rows.length:=by omega
     have hrow:rows[off+k]?=some rows[off+k]:=by simp[hlt]
     have hj':j<(rows[off+k]).length:=by rw[(c4 _ _ hrow).1];exact hj
     obtain⟨v',v1,v2,_⟩:=hcell (off+k) j _ _ hrow (List.getElem?_eq_getElem hj')
     rw[hidx]at hv
     rw[v1]at hv
     cases hv
     exact v2
    ·obtain⟨_,hr'⟩:=hat k row hr
     obtain⟨v',v1,v2,v3⟩:=hcell _ j row x hr' hj
     rw[hidx]at hv
     rw[v1]at hv
     cases hv
     exact v3
  |pt k j row row' hr hs=>
   intro u hx
   cases hx with
   |ptr _ _ _ L' h=>
    have:L'=L:=by rw[hL]at h;exact(Option.some.inj h).symm
    subst this
    have hkl:k<rows.length:=(List.getElem?_eq_some_iff.1 hr).1
    have hrl:=(c4 k row hr).1
    have hmul:(k+1)*L'.size≤rows.length*L'.size:=Nat.mul_le_mul_right _ hkl
    rw[Nat.add_mul,Nat.one_mul]at hmul
    obtain⟨s1,s2⟩:=hs.at
    refine .vp row' j L'.g (L'.base+k*L'.size) cs hk (by rw[c2];omega) (fun i v hi hv=>?_) (fun i x v hx hv=>?_)
    ·obtain⟨v',v1,v2,_⟩:=hcell k i row _ hr (List.getElem?_eq_getElem (by omega))
     rw[v1]at hv;cases hv;exact v2
    ·have hi:i<row.length:=by rw[s1];exact(List.getElem?_eq_some_iff.1 hx).1
     obtain⟨v',v1,v2,v3⟩:=hcell k i row _ hr (List.getElem?_eq_getElem hi)
     rw[v1]at hv;cases hv;exact(s2 i _ x (List.getElem?_eq_getElem hi) hx).rel v3
  |fn f as bs hl h ih=>
   intro u hx
   cases hx with
   |func _ _ vs hf hvl hv=>
    refine .func f bs vs hf (by omega) fun i c v hc hv'=>?_
    have hi:i<as.length:=by rw[hl];exact(List.getElem?_eq_some_iff.1 hc).1
    exact ih i as[i] c (List.getElem?_eq_getElem hi) hc v (hv i as[i] v (List.getElem?_eq_getElem hi) hv')
   |bfunc f' _ vs hvl hv=>
    refine .bfunc f' bs vs (by omega) fun i c v hc hv'=>?_
    have hi:i<as.length:=by rw[hl];exact(List.getElem?_eq_some_iff.1 hc).1
    exact ih i as[i] c (List.getElem?_eq_getElem hi) hc v (hv i as[i] v (List.getElem?_eq_getElem hi) hv')
 have convB:∀{b b':Blk} {M:Loc},FzB n rows b b'→Zf ι w M b→Zf κ w M b':=by
  intro b b' M hbb hr
  cases hbb with
  |same=>exact hr.keep hle rfl
  |cells R R' ro hl h=>
   obtain⟨ds,e',fz',d1,d2,d3,d4,d5⟩:=hr.rows
   refine Zf.mk d1 d2 (by rw[hl];exact d3) (fun k r' hr'=>?_) d5 (hr.ty d1)
   have hkR:k<R.length:=by rw[←hl];exact(List.getElem?_eq_some_iff.1 hr').1
   obtain⟨g1,g2⟩:=d4 k R[k] (List.getElem?_eq_getElem hkR)
   obtain⟨f1,f2⟩:=(h k R[k] r' (List.getElem?_eq_getElem hkR) hr').at
   refine⟨by rw[←f1];exact g1,fun j x hx=>?_⟩
   have hj:j<R[k].length:=by rw[f1];exact(List.getElem?_eq_some_iff.1 hx).1
   obtain⟨v,v1,v2,v3⟩:=g2 j _ (List.getElem?_eq_getElem hj)
   exact⟨v,v1,v2,conv (f2 j _ x (List.getElem?_eq_getElem hj) hx) v v3⟩
 have old:∀m b,H3.get m=some b→m≠n∧ ∃c,H.get m=some c∧FzB n rows c b:=hh.get
 refine⟨κ,⟨hS.defers,hS.size,fun k=>conv (he.get k) _ (hS.env k),⟨fun m b hm=>?_,fun m m' b b' M M' h1 h2 h3 h4 h5=>?_,fun g ds hg=>?_⟩,hS.bound⟩,⟨fun _ _ _ h=>h,hz,rfl,rfl,rfl,Nat.le_refl _,fun _ _ _=>rfl,fun g hg=>.inl ?_,fun g ds hg=>?_,fun _ _ _ h=>h⟩⟩
 ·obtain⟨_,c,h1,h2⟩:=old m b hm
  obtain⟨M,h3,h4⟩:=hS.heap.blk m c h1
  exact⟨M,h3,convB h2 h4⟩
 ·obtain⟨_,c,k1,k2⟩:=old m b h1
  obtain⟨_,c',k3,k4⟩:=old m' b' h2
  rcases hS.heap.inj m m' c c' M M' k1 k3 h3 h4 h5 with h|h
  ·exact .inl h
  ·exact .inr ⟨k2.ro▸h.1,k4.ro▸h.2⟩
 ·by_cases h:g=L.g
  ·subst h
   have hg:some cs=some ds:=by rw[←hg];exact(if_pos rfl).symm
   cases hg
   refine⟨⟨et,fz,c1⟩,?_⟩
   rintro⟨m,b,M,h1,h2,h3,h4⟩
   obtain⟨hmn,c,k1,k2⟩:=old m b h1
   rcases hS.heap.inj m n c _ M L k1 hb h3 hL h4 with h|h
   ·exact hmn h
   ·rw[k2.ro,h2]at h;cases h.1
  ·have hg:ι.fz g=some ds:=by rw[←hg];exact(if_neg h).symm
   refine⟨(hS.heap.fz g ds hg).1,fun ho=>(hS.heap.fz g ds hg).2 ?_⟩
   obtain⟨m,b,M,h1,h2,h3,h4⟩:=ho
   obtain⟨_,c,k1,k2⟩:=old m b h1
   exact⟨m,c,M,k1,by rw[k2.ro];exact h2,h3,h4⟩
 ·obtain⟨m,b,M,h1,h2,h3,h4⟩:=hg
  obtain⟨_,c,k1,k2⟩:=old m b h1
  exact⟨m,c,M,k1,by rw[k2.ro];exact h2,h3,h4⟩
 ·by_cases h:g=L.g
  ·subst h;exact .inr (.inr hown)
  ·exact .inl (by rw[←hg];exact(if_neg h).symm)
end Go.Av
end
end
section
set_option linter.unusedVariables false
set_option linter.unusedSimpArgs false
noncomputable section
namespace Go.Av
def R3:Nat→List AVal→Env
 |_,[]=>[]
 |k,a::l=>(k,a)::R3 (k+1) l
theorem FzE.args{n:Nat}{rows:List (List AVal)}:∀{l m:List AVal} (k:Nat) {e:Env},(∀i,i<l.length→e.get (k+i)=l.getD i .any)→FzL n rows l m→FzE n rows e (R3 k m)
 |[],[],_,_,_,_=>trivial
 |a::l,b::m,k,e,he,h=>by
  refine⟨?_,FzE.args (k+1) (fun i hi=>?_) h.2⟩
  ·have:=he 0 (by simp)
   rw[Nat.add_zero]at this
   rw[this];exact h.1
  ·have:=he (i+1) (by simpa using hi)
   rw[show k+1+i=k+(i+1) by omega,this];rfl
 |[],_::_,_,_,_,h=>h.elim
 |_::_,[],_,_,_,h=>h.elim
theorem FzL.len{n:Nat}{rows:List (List AVal)}{l m:List AVal}(h:FzL n rows l m):m.length=l.length:=h.at.1.symm
end Go.Av
end
end
section
set_option linter.unusedVariables false
set_option linter.unusedSimpArgs false
noncomputable section
namespace Go.Av
open Go.ChangeShapes Go.WideShapes Go.ChangeAt Go.RowKit
def WM(w:World):Inj:=⟨fun _=>none,fun g=>match w.heap[g]? with|some (.cells cs _ _)=>some cs|_=>none⟩
theorem Es{w:World}{g:Nat}{cs:Array Value}(h:(WM w).fz g=some cs):∃e z,w.heap[g]?=some (.cells cs e z):=by
 simp only[WM]at h
 split at h
 ·rename_i c e z hg
  cases h
  exact⟨e,z,hg⟩
 ·cases h
theorem LR{w:World}{g:Nat}{cs:Array Value}{e:TypeId}{z:Nat×Nat}(h:w.heap[g]?=some (.cells cs e z)):(WM w).fz g=some cs:=by
 simp only[WM,h]
theorem Lj[Syms](w:World):RelH (WM w) [] w:=
 ⟨fun n b hb=>(nomatch hb),fun n m b c L M hb=>(nomatch hb),fun g cs hg=>⟨Es hg,fun⟨n,b,L,h1,_⟩=>(nomatch h1)⟩⟩
theorem II(w:World):X1 (WM w) 0 w:=fun n L hn=>nomatch hn
theorem YZ.true_calls[Syms]{P:Program}{f:FuncId}{args:List AVal}{vs:List Value}{w:World}(h:YZ P f args [] 0 fun v H _=>v= .bool true∧H=[])(hv:Qs (WM w) args vs):
 Calls P f ⟨vs⟩ w fun e w'=>e= .returned (.bool true)∧Below w.heap.size w w':=by
 refine(h.2 (WM w) w vs hv (Lj w) (II w)).mono ?_
 rintro e w' ⟨v,H',nx',r,κ,⟨rfl,rfl⟩,rfl,hr,_,hst,_⟩
 obtain rfl:=hr.of_bool
 exact⟨rfl,hst.os,hst.tape,hst.output,hst.size,fun g hg=>hst.same g hg (fun⟨n,b,L,h1,_⟩=>(nomatch h1))⟩
end Go.Av
end
end
section
set_option linter.unusedVariables false
set_option linter.unusedSimpArgs false
noncomputable section
namespace Go.Av
open Go.ChangeShapes Go.WideShapes Go.ChangeAt Go.RowKit
inductive Shp
 |int (k:IntKind)
 |bool
 |str
 |slice (e:Shp)
 |struct (c:Shp)
 |pair (a b:Shp)
 |unit
def Shp.width:Shp→Nat
 | .int _=>1
 | .bool=>1
 | .str=>1
 | .slice _=>1
 | .struct c=>c.width
 | .pair a b=>a.width+b.width
 | .unit=>0
def Shp.ok:Shp→List AVal→Prop
 | .int k=>fun r=>∃z,r=[.int k z]∧(Lit.int k z).wf=true
 | .bool=>fun r=>∃b,r=[.bool b]
 | .str=>fun r=>∃s,r=[.str s]∧s.length≤maxLen
 | .slice e=>fun r=>∃rows,r=[.vs e.width rows]∧rows.length≤maxLen∧ ∀x∈rows,e.ok x
 | .struct c=>c.ok
 | .pair a b=>fun r=>∃x y,r=x++y∧a.ok x∧b.ok y
 | .unit=>fun r=>r=[]
def JG(P:Program):Shp→(TypeId→Bool)×(List Field→Nat→Bool)
 | .int k=>(fun t=>match P.underlying t with|some (.int q)=>decide (q=k)|_=>false,fun _ _=>false)
 | .bool=>(fun t=>match P.underlying t with|some .bool=>true|_=>false,fun _ _=>false)
 | .str=>(fun t=>match P.underlying t with|some .string=>true|_=>false,fun _ _=>false)
 | .slice e=>(fun t=>match P.underlying t with|some (.slice u)=>decide (P.cellsOf u=e.width∧0<e.width)&&(JG P e).1 u|_=>false,fun _ _=>false)
 | .struct c=>(fun t=>match P.underlying t with|some (.struct fs)=>decide (P.cellsOf t=c.width)&&(JG P c).2 fs.toList 0|_=>false,fun _ _=>false)
 | .pair a b=>(fun _=>false,fun fs off=>match fs with|f::fs=>decide (f.offset=off∧P.cellsOf f.type=a.width)&&(JG P a).1 f.type&&(JG P b).2 fs (off+a.width)|[]=>false)
 | .unit=>(fun _=>false,fun fs _=>fs.isEmpty)
theorem Wb{v:Value}(h:v.oneCell'=true):∀x∈[v],x.oneCell'=true:=fun x hx=>by rw[List.mem_singleton.1 hx];exact h
section
variable {H:Type} {enc:TypeId×Value→H} {P:Program} {w:World} {base:Nat} {spare:Nat→Bool} {held:Bool}
theorem Gk{α:Type}{Q:Nat→α→Prop}:∀n:Nat,(∀i,i<n→ ∃a,Q i a)→ ∃l:List α,l.length=n∧ ∀i a,l[i]?=some a→Q i a
 |0,_=>⟨[],rfl,fun i a h=>by simp at h⟩
 |n+1,h=>by
  obtain⟨l,h1,h2⟩:=Gk n fun i hi=>h i (by omega)
  obtain⟨a,ha⟩:=h n (by omega)
  refine⟨l++[a],by simp[h1],fun i b hb=>?_⟩
  rcases Nat.lt_or_ge i n with h3|h3
  ·rw[List.getElem?_append_left (by omega)]at hb;exact h2 i b hb
  ·have hi:i<(l++[a]).length:=(List.getElem?_eq_some_iff.1 hb).1
   simp[h1]at hi
   obtain rfl:i=n:=by omega
   rw[List.getElem?_append_right (by omega),h1,Nat.sub_self]at hb
   cases hb
   exact ha
theorem HU{a:Addr}{i:Nat}{v:Value}(h:w.cell? (a.add i)=some v)(hz:∃v0,w.cell? a=some v0):
 ∃cs e z,w.heap[a.block]?=some (.cells cs e z)∧a.spot=none∧cs[a.off+i]?=some v:=by
 obtain⟨v0,h0⟩:=hz
 obtain⟨g,o,sp⟩:=a
 unfold World.cell? at h0
 split at h0
 ·rename_i cs e z hg
  cases sp with
  |some s=>simp at h0
  |none=>
   refine⟨cs,e,z,hg,rfl,?_⟩
   unfold World.cell? at h
   have hb:((⟨g,o,none⟩:Addr).add i).block=g:=by unfold Addr.add;split<;>rfl
   have ho:((⟨g,o,none⟩:Addr).add i).off=o+i:=by unfold Addr.add;split<;>simp_all
   have hsp:((⟨g,o,none⟩:Addr).add i).spot=none:=by unfold Addr.add;split<;>rfl
   rw[hb,hg]at h
   simp only[hsp,ho]at h
   simpa using h
 ·cases h0
theorem Fa(g o k:Nat):(⟨g,o,none⟩:Addr).add k=⟨g,o+k,none⟩:=by
 unfold Addr.add
 split
 ·rename_i h;subst h;rfl
 ·rfl
theorem Shp.read[Syms]:∀c:Shp,
 (∀t,(JG P c).1 t=true→ ∀(fuel:Nat) (cs:List Value) (x:DataW H×List MemPlace),DataW.trod enc P w base spare held fuel t cs=some x→
   ∃row,c.ok row∧row.length=c.width∧Qs (WM w) row cs∧ ∀v∈cs,v.oneCell'=true)∧
 (∀fs off,(JG P c).2 fs off=true→ ∀(n:Nat) (cs:List Value) (xs:List (DataW H×List MemPlace)),cs.length=off+c.width→xs.length=fs.length→
   (∀(i:Nat) (f:Field),fs[i]?=some f→DataW.trod enc P w base spare held n f.type ((cs.drop f.offset).take (P.cellsOf f.type))=xs[i]?)→
   ∃row,c.ok row∧row.length=c.width∧Qs (WM w) row (cs.drop off)∧ ∀v∈cs.drop off,v.oneCell'=true)
 | .int k=>by
   refine⟨fun t ht fuel cs x h=>?_,fun fs off h=>nomatch h⟩
   simp only[JG]at ht
   split at ht
   ·rename_i q hq
    have ht:=of_decide_eq_true ht
    subst ht
    obtain⟨m,rfl,_,hw⟩:=DataW.trod_int hq h
    exact⟨_,⟨m,rfl,hw⟩,rfl,.cons (.int _ _) (.nil _),Wb rfl⟩
   ·cases ht
 | .bool=>by
   refine⟨fun t ht fuel cs x h=>?_,fun fs off h=>nomatch h⟩
   simp only[JG]at ht
   split at ht
   ·rename_i hq
    obtain⟨m,rfl,_⟩:=DataW.trod_bool hq h
    exact⟨_,⟨m,rfl⟩,rfl,.cons (.bool _) (.nil _),Wb rfl⟩
   ·cases ht
 | .str=>by
   refine⟨fun t ht fuel cs x h=>?_,fun fs off h=>nomatch h⟩
   simp only[JG]at ht
   split at ht
   ·rename_i hq
    obtain⟨s,rfl,_,hs⟩:=DataW.trod_string hq h
    exact⟨_,⟨s.data.toList,rfl,hs⟩,rfl,.cons (.str _) (.nil _),Wb rfl⟩
   ·cases ht
 | .slice e=>by
   refine⟨fun t ht fuel cs x h=>?_,fun fs off h=>nomatch h⟩
   simp only[JG]at ht
   split at ht
   ·rename_i u hq
    rw[Bool.and_eq_true]at ht
    obtain⟨hd,hu⟩:=ht
    obtain⟨hw,hpos⟩:=of_decide_eq_true hd
    have ih:=(Shp.read e).1 u hu
    rcases DataW.trod_slice hq h with⟨rfl,_⟩|⟨a,len,cap,elems,rest,n,_,rfl,_,hb,hl,hm,hlen,hel,_,_⟩
    ·exact⟨_,⟨[],rfl,Nat.zero_le _,fun x hx=>nomatch hx⟩,rfl,.cons (.vz e.width none 0 (Nat.zero_le _) (fun _=>rfl)) (.nil _),Wb rfl⟩
    ·rcases Nat.eq_zero_or_pos len with h0|h0
     ·subst h0
      exact⟨_,⟨[],rfl,Nat.zero_le _,fun x hx=>nomatch hx⟩,rfl,.cons (.vz e.width (some a) cap hm (fun h=>by cases h)) (.nil _),Wb rfl⟩
     ·have each:∀i,i<len→ ∃row:List AVal,(e.ok row∧row.length=e.width)∧ ∃csi:List Value,csi.length=e.width∧Qs (WM w) row csi∧(∀v∈csi,v.oneCell'=true)∧ ∀j,j<e.width→w.cell? ((a.add (i*e.width)).add j)=csi[j]?:=by
       intro i hi
       have h1:=hel i hi
       rw[List.getElem?_eq_getElem (by omega),hw,Option.bind_eq_some_iff]at h1
       obtain⟨csi,h2,h3⟩:=h1
       obtain⟨row,r1,r2,r3,r4⟩:=ih n csi _ h3
       obtain⟨_,k1,k2⟩:=World.cells?_some h2
       exact⟨row,⟨r1,r2⟩,csi,k1,r3,r4,k2⟩
      obtain⟨rows,hrl,hrows⟩:=Gk len each
      have hrow:∀(k:Nat) (row:List AVal),rows[k]?=some row→row.length=e.width:=fun k row hk=>(hrows k row hk).1.2
      have hz:∃v0,w.cell? a=some v0:=by
       obtain⟨row,_,csi,k1,_,_,k2⟩:=each 0 h0
       have:=k2 0 hpos
       rw[List.getElem?_eq_getElem (by omega),Nat.zero_mul]at this
       have e0:(a.add 0).add 0=a:=by simp[Addr.add]
       rw[e0]at this
       exact⟨_,this⟩
      have hadd:∀i j,(a.add i).add j=a.add (i+j):=by
       intro i j
       obtain⟨v0,hv0⟩:=hz
       obtain⟨g,o,sp⟩:=a
       unfold World.cell? at hv0
       split at hv0
       ·cases sp with
        |some s=>simp at hv0
        |none=>rw[Fa,Fa,Fa,Nat.add_assoc]
       ·cases hv0
      obtain⟨v0,hv0⟩:=hz
      obtain⟨cells,ety,zz,hg,hsp,_⟩:=HU (a:=a) (i:=0) (v:=v0) (by simpa[Addr.add]using hv0) ⟨v0,hv0⟩
      have hcell:∀(k:Nat) (row:List AVal),rows[k]?=some row→ ∃csi:List Value,csi.length=e.width∧Qs (WM w) row csi∧(∀v∈csi,v.oneCell'=true)∧ ∀j,j<e.width→cells[a.off+k*e.width+j]?=csi[j]?:=by
       intro k row hk
       obtain⟨_,csi,k1,k2,k3,k4⟩:=hrows k row hk
       refine⟨csi,k1,k2,k3,fun j hj=>?_⟩
       have:=k4 j hj
       rw[hadd,List.getElem?_eq_getElem (by omega)]at this
       obtain⟨cs',_,_,g1,_,g3⟩:=HU this ⟨v0,hv0⟩
       rw[hg]at g1
       cases g1
       rw[Nat.add_assoc,g3,List.getElem?_eq_getElem (by omega)]
      have haddr:(some a:Option Addr)=some ⟨a.block,a.off,none⟩:=by cases a;simp_all
      have hv:RelV (WM w) (.vs e.width rows) (.slice (some ⟨a.block,a.off,none⟩) rows.length cap):=by
       refine .vs _ rows a.block a.off cap cells (LR hg) (by omega) hm ?_ hrow ?_ ?_
       ·obtain⟨row,hr⟩:∃row,rows[len-1]?=some row:=⟨_,List.getElem?_eq_getElem (by omega)⟩
        obtain⟨csi,k1,_,_,k4⟩:=hcell _ _ hr
        have:=k4 (e.width-1) (by omega)
        rw[List.getElem?_eq_getElem (by omega)]at this
        have:=(Array.getElem?_eq_some_iff.1 this).1
        have e1:len*e.width=(len-1)*e.width+e.width:=by
         obtain⟨q,rfl⟩:∃q,len=q+1:=⟨len-1,by omega⟩
         rw[Nat.add_sub_cancel,Nat.add_mul,Nat.one_mul]
        rw[hrl,e1]
        omega
       ·intro k j v hk hj hv
        obtain⟨row,hr⟩:∃row,rows[k]?=some row:=⟨_,List.getElem?_eq_getElem hk⟩
        obtain⟨csi,k1,_,k3,k4⟩:=hcell _ _ hr
        rw[k4 j hj]at hv
        exact k3 v (List.mem_of_getElem? hv)
       ·intro k j row x v hr hx hv
        obtain⟨csi,k1,k2,_,k4⟩:=hcell _ _ hr
        have hj:j<e.width:=by rw[←hrow k row hr];exact(List.getElem?_eq_some_iff.1 hx).1
        rw[k4 j hj]at hv
        exact k2.2 j x v hx hv
      rw[hrl]at hv
      refine⟨_,⟨rows,rfl,by omega,fun r hr=>?_⟩,rfl,.cons (by rw[haddr];exact hv) (.nil _),Wb rfl⟩
      obtain⟨k,hk⟩:=List.getElem?_of_mem hr
      exact(hrows k r hk).1.1
   ·cases ht
 | .struct c=>by
   refine⟨fun t ht fuel cs x h=>?_,fun fs off h=>nomatch h⟩
   simp only[JG]at ht
   split at ht
   ·rename_i fs hq
    rw[Bool.and_eq_true]at ht
    obtain⟨hd,hu⟩:=ht
    have hw:=of_decide_eq_true hd
    obtain⟨xs,n,_,_,hl,hxl,hf⟩:=DataW.trod_struct hq h
    have:=(Shp.read c).2 fs.toList 0 hu n cs xs (by rw[hl,hw,Nat.zero_add]) (by rw[hxl,Array.length_toList]) (fun i f hi=>hf i f (by rw[←Array.getElem?_toList];exact hi))
    rw[List.drop_zero]at this
    exact this
   ·cases ht
 | .pair a b=>by
   refine⟨fun t ht=>(nomatch ht),fun fs off h n cs xs hl hxl hf=>?_⟩
   cases fs with
   |nil=>cases h
   |cons f fs=>
    simp only[JG]at h
    rw[Bool.and_eq_true,Bool.and_eq_true]at h
    obtain⟨⟨h1,h2⟩,h3⟩:=h
    obtain⟨ho,hw⟩:=of_decide_eq_true h1
    cases xs with
    |nil=>simp at hxl
    |cons y xs=>
     have e0:=hf 0 f rfl
     rw[ho,hw]at e0
     obtain⟨r1,a1,a2,a3,a4⟩:=(Shp.read a).1 f.type h2 n _ y e0
     have hl2:cs.length=off+a.width+b.width:=by rw[hl];simp only[Shp.width];omega
     obtain⟨r2,b1,b2,b3,b4⟩:=(Shp.read b).2 fs (off+a.width) h3 n cs xs hl2 (by simpa using hxl) (fun i g hi=>hf (i+1) g hi)
     have e:cs.drop off=(cs.drop off).take a.width++cs.drop (off+a.width):=by
      rw[←List.drop_drop,List.take_append_drop]
     refine⟨r1++r2,⟨r1,r2,rfl,a1,b1⟩,by rw[List.length_append,a2,b2];rfl,by rw[e];exact Qs.append a3 b3,fun v hv=>?_⟩
     rw[e]at hv
     rcases List.mem_append.1 hv with h|h
     ·exact a4 v h
     ·exact b4 v h
 | .unit=>by
   refine⟨fun t ht=>(nomatch ht),fun fs off h n cs xs hl hxl hf=>?_⟩
   have hl:cs.length=off:=hl
   have e:cs.drop off=[]:=List.drop_of_length_le (by omega)
   rw[e]
   exact⟨[],rfl,rfl,.nil _,fun v hv=>nomatch hv⟩
theorem Shp.arg1[Syms]{c:Shp}{t:TypeId}(hc:(JG P c).1 t=true){v:Value}{d:DataW H}{ps:List MemPlace}(hv:v.cells.toList=[v])(h:DataW.Trod enc P w base spare held t v d ps):
 ∃a,c.ok [a]∧RelV (WM w) a v:=by
 obtain⟨fuel,h⟩:=h
 rw[hv]at h
 obtain⟨row,h1,h2,h3,_⟩:=(Shp.read c).1 t hc fuel _ _ h
 have hl:=h3.1
 match row,hl with
 |[a],_=>exact⟨a,h1,h3.2 0 a v rfl rfl⟩
end
theorem DG{α:Type}(enc:α→List AVal){c:Shp}(G:α→Prop)(h:∀r,c.ok r→ ∃a,r=enc a∧G a):∀rows:List (List AVal),(∀r∈rows,c.ok r)→ ∃l:List α,rows=l.map enc∧ ∀a∈l,G a
 |[],_=>⟨[],rfl,fun a ha=>nomatch ha⟩
 |r::rows,hr=>by
  obtain⟨a,rfl,ha⟩:=h r (hr r (List.mem_cons_self ..))
  obtain⟨l,rfl,hl⟩:=DG enc G h rows fun q hq=>hr q (List.mem_cons_of_mem _ hq)
  refine⟨a::l,rfl,fun b hb=>?_⟩
  rcases List.mem_cons.1 hb with rfl|hb
  ·exact ha
  ·exact hl b hb
theorem OP{z:Int}(h:(Lit.int .i64 z).wf=true):-9223372036854775808≤z∧z≤9223372036854775807:=bounds_i64 h
theorem Shp.slice_of[Syms]{α:Type}{enc:α→List AVal}{e:Shp}{G:α→Prop}(d:α)(hG:∀r,e.ok r→ ∃a,r=enc a∧G a){ι:Inj}{x:AVal}{v:Value}(h:(Shp.slice e).ok [x])(hr:RelV ι x v):
 ∃l:List α,RelV ι (vT e.width enc d l) v∧l.length≤9223372036854775807∧ ∀a∈l,G a:=by
 obtain⟨rows,h1,h2,h3⟩:=h
 cases h1
 obtain⟨l,rfl,hl⟩:=DG enc G hG rows h3
 rw[List.length_map]at h2
 exact⟨l,(WkV.tab (d:=d) rfl).rel hr,h2,hl⟩
end Go.Av
end
end
section
set_option linter.unusedVariables false
set_option linter.unusedSimpArgs false
noncomputable section
namespace Go.Av
def Xy(base:Nat)(f:Nat→Option Blk):Nat→Heap
 |0=>[]
 |m+1=>(base+m,f m)::Xy base f m
theorem Vj{base:Nat}{f:Nat→Option Blk}:∀{m n:Nat},n<m→(Xy base f m).get (base+n)=f n
 |0,n,h=>absurd h (Nat.not_lt_zero n)
 |m+1,n,h=>by
  rw[Xy,Heap.get_cons]
  by_cases hn:n=m
  ·subst hn;rw[Nat.beq_refl];rfl
  ·rw[Qd (by omega)]
   exact Vj (by omega)
theorem KO{base:Nat}{f:Nat→Option Blk}:∀{m n:Nat} {b:Blk},(Xy base f m).get n=some b→ ∃j,j<m∧n=base+j∧f j=some b
 |0,n,b,h=>by rw[Xy,Heap.get_nil]at h;cases h
 |m+1,n,b,h=>by
  rw[Xy,Heap.get_cons]at h
  by_cases hn:n=base+m
  ·subst hn;rw[Nat.beq_refl]at h;exact⟨m,Nat.lt_succ_self m,rfl,h⟩
  ·rw[Qd hn]at h
   obtain⟨j,h1,h2,h3⟩:=KO h
   exact⟨j,by omega,h2,h3⟩
def Ok(lo hi:Nat)(l:Heap):Bool:=@List.rec (Nat×Option Blk) (fun _=>Bool) true (fun p _ ih=>(Nat.blt p.1 lo||Nat.ble hi p.1)&&ih) l
theorem KL{lo hi:Nat}:∀{l t:Heap},Ok lo hi l=true→ ∀{n:Nat},lo≤n→n<hi→Heap.get (l++t) n=Heap.get t n
 |[],t,_,n,_,_=>rfl
 |(k,b)::l,t,h,n,h1,h2=>by
  have h:((Nat.blt k lo||Nat.ble hi k)&&Ok lo hi l)=true:=h
  simp only[Bool.and_eq_true,Bool.or_eq_true,Nat.blt_eq]at h
  rw[List.cons_append,Heap.get_cons,Qd (fun e=>by
   subst e
   rcases h.1 with h|h
   ·omega
   ·have:=Nat.le_of_ble_eq_true h;omega)]
  exact KL h.2 h1 h2
theorem Ws{ρ:Nat→Nat}{n3 base:Nat}{H:Heap}{f:Nat→Option Blk}:∀{m:Nat},(∀j,j<m→ ∀b,f j=some b→base+j<n3∧ ∃b0,H.get (ρ (base+j))=some b0∧WkB b0 (b.ren ρ))→ZR ρ n3 H (Xy base f m)
 |0,_=>trivial
 |m+1,h=>by
  have ih:ZR ρ n3 H (Xy base f m):=Ws fun j hj=>h j (by omega)
  have h0:=h m (Nat.lt_succ_self m)
  rw[Xy]
  cases hf:f m with
  |none=>exact ih
  |some b=>exact⟨h0 b hf,ih⟩
def IP(ι:Inj)(n3:Nat)(τ:Nat→Nat):Inj:=⟨fun n=>bif Nat.blt n n3 then ι (τ n)else none,ι.fz⟩
theorem Bl{ι:Inj}{n3 n:Nat}{τ:Nat→Nat}(h:n<n3):IP ι n3 τ n=ι (τ n):=by
 show(bif Nat.blt n n3 then ι (τ n)else none)=_
 rw[show Nat.blt n n3=true from by simpa[Nat.blt_eq]using h];rfl
theorem Wi{ι:Inj}{n3 n:Nat}{τ:Nat→Nat}{L:Loc}(h:IP ι n3 τ n=some L):n<n3∧ι (τ n)=some L:=by
 have h:(bif Nat.blt n n3 then ι (τ n)else none)=some L:=h
 cases hb:Nat.blt n n3 with
 |true=>rw[hb]at h;rw[Nat.blt_eq]at hb;exact⟨hb,h⟩
 |false=>rw[hb]at h;cases h
theorem Q05(ι:Inj)(n3:Nat)(τ:Nat→Nat):((ι.pull τ).cutB n3).le (IP ι n3 τ):=⟨fun n L h=>by
 obtain⟨h1,h2⟩:=Inj.cutB_some h
 rw[Bl h1];exact h2,fun _ _ h=>h⟩
def Fi(n3:Nat)(e:Env):Prop:=∀k,(e.get k).under n3=true
theorem GB[Syms]{na N n3:Nat}{s:St}{e3:Env}{H3:Heap}(τ:Nat→Nat)(hna:na≤n3)(hid:∀n,n<na→τ n=n)(hinj:∀n m b c,H3.get n=some b→H3.get m=some c→τ n=τ m→n=m)
 (he:UU τ s.env e3) (hel:Fi n3 e3) (hh:ZR τ n3 s.heap H3) (hhl:∀n b,H3.get n=some b→b.under n3=true):Reb na N s ⟨e3,H3,n3⟩:=by
 refine⟨fun _=>hna,?_⟩
 intro ι a w hS
 have hcut:=Q05 ι n3 τ
 have hown:∀g,Own (IP ι n3 τ) H3 g→Own ι s.heap g:=by
  rintro g ⟨n,b,L,h1,h2,h3,h4⟩
  obtain⟨b0,k1,k2⟩:=(hh.get n b h1).2
  exact⟨τ n,b0,L,k1,by rw[k2.ro,Blk.ren_ro];exact h2,(Wi h3).2,h4⟩
 refine⟨IP ι n3 τ,⟨hS.defers,hS.size,fun k=>?_,⟨fun n b hb=>?_,fun n m b c L M hb hc hL hM hg=>?_,fun g cs hg=>⟨(hS.heap.fz g cs hg).1,fun ho=>(hS.heap.fz g cs hg).2 (hown g ho)⟩⟩,fun n L hn=>⟨(Wi hn).1,(hS.bound _ L (Wi hn).2).2⟩⟩,
  ⟨fun n L hn hL=>?_,fun _ _ h=>h,rfl,rfl,rfl,Nat.le_refl _,fun _ _ _=>rfl,fun g hg=>.inl (hown g hg),fun g cs hg=>.inl hg,fun n L hn hL=>?_⟩⟩
 ·rcases he.get k with h|h
  ·show RelV _ (e3.get k) _
   rw[h];exact .any _
  ·exact(((h.rel (hS.env k)).unren (e3.get k) rfl).under (hel k)).mono hcut
 ·obtain⟨hlt,b0,k1,k2⟩:=hh.get n b hb
  obtain⟨L,h1,h2⟩:=hS.heap.blk _ _ k1
  refine⟨L,(Bl hlt).trans h1,?_⟩
  exact(((k2.rel h2).unren).under (hhl n b hb)).keep hcut rfl
 ·obtain⟨b0,k1,k2⟩:=(hh.get n b hb).2
  obtain⟨c0,k3,k4⟩:=(hh.get m c hc).2
  rcases hS.heap.inj _ _ _ _ L M k1 k3 (Wi hL).2 (Wi hM).2 hg with h|h
  ·exact .inl (hinj n m b c hb hc h)
  ·rw[k2.ro,k4.ro,Blk.ren_ro,Blk.ren_ro]at h
   exact .inr h
 ·show IP ι n3 τ n=some L
  rw[Bl (by omega),hid n hn];exact hL
 ·have:=(Wi hL).2
  rwa [hid n hn]at this
end Go.Av
end
end
