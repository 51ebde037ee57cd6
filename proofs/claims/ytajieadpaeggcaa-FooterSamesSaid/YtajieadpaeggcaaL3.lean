/-
  Small facts of rows,for the symbolic runs. Plain. Bytes,cloned;a varint behind bytes. The program's. Calls that answer bytes of their own. A varint behind bytes. The program's. A number's bytes behind bytes,the lowest first. The program's. A varint,read. The program's. The names of a shape of raw numbers,and its paths:no two are the same. Plain. Leaves:how far each field is repeated and defined. Plain. The document's walk over a shape goes as the program's. Plain. What is wrong with a shape. Plain. Bytes that are read one behind the other;a schema's bytes. Plain. The reader of a schema's bytes:what is wrong,and so many bytes. The program's.
-/
import Derived.Test.YtajieadpaeggcaaL2
import Derived.Test.YtajieadpaeggcaaL1
set_option linter.unusedVariables false
set_option linter.unusedSimpArgs false
namespace Go.Proofs.Ytajieadpaeggcaa
open Go Go.Av
theorem Yy(s:List UInt8):asS (.str s)=s:=rfl
theorem XT(b:Bool):asB (.bool b)=b:=rfl
theorem Z2(a:Int):(Qk a).getD (0+0) .any= .int .i64 a:=rfl
theorem WC(f:Fd):(encF f).getD 0 .any= .str f.name:=rfl
theorem WB(f:Fd):(encF f).getD 1 .any= .int .i64 f.rep:=rfl
theorem WA(f:Fd):(encF f).getD 2 .any= .int .i64 f.kind:=rfl
theorem Yx(f:Fd):(encF f).getD (0+0) .any= .str f.name:=rfl
theorem Yw(f:Fd):(encF f).getD (0+1) .any= .int .i64 f.rep:=rfl
theorem Yv(f:Fd):(encF f).getD (0+2) .any= .int .i64 f.kind:=rfl
theorem Wz(l:Lf):(Zt l).getD 0 .any= .int .i64 l.field:=rfl
theorem Wy(l:Lf):(Zt l).getD 1 .any= .int .i64 l.r:=rfl
theorem Wx(l:Lf):(Zt l).getD 2 .any= .int .i64 l.d:=rfl
theorem Ww(l:Lf):(Zt l).getD 3 .any= .int .i64 l.kind:=rfl
theorem Yu(l:Lf):(Zt l).getD (0+0) .any= .int .i64 l.field:=rfl
theorem Yt(l:Lf):(Zt l).getD (0+1) .any= .int .i64 l.r:=rfl
theorem Ys(l:Lf):(Zt l).getD (0+2) .any= .int .i64 l.d:=rfl
theorem Yr(l:Lf):(Zt l).getD (0+3) .any= .int .i64 l.kind:=rfl
theorem X6(a:Int):(Qk a).length=1:=rfl
theorem sg:(∀(k:IntKind) (n:Int),asI (.int k n)=n)∧(∀s,asS (.str s)=s)∧(∀b,asB (.bool b)=b)∧(∀a,(Qk a).getD 0 .any= .int .i64 a)∧(∀a,(Qk a).getD (0+0) .any= .int .i64 a)∧
 (∀f,(encF f).getD 0 .any= .str f.name)∧(∀f,(encF f).getD 1 .any= .int .i64 f.rep)∧(∀f,(encF f).getD 2 .any= .int .i64 f.kind)∧(∀f,(encF f).getD 3 .any= .int .i64 f.kids)∧
 (∀f,(encF f).getD (0+0) .any= .str f.name)∧(∀f,(encF f).getD (0+1) .any= .int .i64 f.rep)∧(∀f,(encF f).getD (0+2) .any= .int .i64 f.kind)∧(∀f,(encF f).getD (0+3) .any= .int .i64 f.kids)∧
 (∀l,(Zt l).getD 0 .any= .int .i64 l.field)∧(∀l,(Zt l).getD 1 .any= .int .i64 l.r)∧(∀l,(Zt l).getD 2 .any= .int .i64 l.d)∧(∀l,(Zt l).getD 3 .any= .int .i64 l.kind)∧
 (∀l,(Zt l).getD (0+0) .any= .int .i64 l.field)∧(∀l,(Zt l).getD (0+1) .any= .int .i64 l.r)∧(∀l,(Zt l).getD (0+2) .any= .int .i64 l.d)∧(∀l,(Zt l).getD (0+3) .any= .int .i64 l.kind)∧
 (∀n:Nat,0+n=n)∧(∀n:Nat,n+0=n)∧(∀n:Nat,((n:Nat):Int).toNat=n)∧((0:Int).toNat=0)∧
 (∀(x d:AVal) (l:List AVal),(x::l).getD 0 d=x)∧(∀(x d:AVal) (l:List AVal) (n:Nat),(x::l).getD (n+1) d=l.getD n d)∧(∀(x d:List AVal) (l:List (List AVal)),(x::l).getD 0 d=x)∧(∀(x d:List AVal) (l:List (List AVal)) (n:Nat),(x::l).getD (n+1) d=l.getD n d):=
 ⟨fun _ _=>rfl,fun _=>rfl,fun _=>rfl,fun _=>rfl,fun _=>rfl,fun _=>rfl,fun _=>rfl,fun _=>rfl,fun _=>rfl,fun _=>rfl,fun _=>rfl,fun _=>rfl,fun _=>rfl,fun _=>rfl,fun _=>rfl,fun _=>rfl,fun _=>rfl,fun _=>rfl,fun _=>rfl,fun _=>rfl,fun _=>rfl,
  Nat.zero_add,Nat.add_zero,Int.toNat_natCast,Int.toNat_zero,fun _ _ _=>rfl,fun _ _ _ _=>rfl,fun _ _ _=>rfl,fun _ _ _ _=>rfl⟩
theorem sx:(∀(p:Prop) [Decidable p],(decide p=true)=p)∧(∀(p:Prop) [Decidable p],(decide p=false)= ¬p)∧(∀a b:Int,(¬a<b)=(b≤a))∧(∀a b:Int,(¬a≤b)=(b<a))∧(∀n:Nat,((n:Nat):Int).toNat=n)∧(∀a:Int,(a<a)=False)∧
 (∀a b:Int,(a>b)=(b<a))∧(∀a b:Nat,(a>b)=(b<a))∧((¬True)=False)∧((¬False)=True)∧((!true)=false)∧((!false)=true)∧(decide False=false)∧(decide True=true)∧((false=true)=False)∧((true=false)=False)∧((1:Nat)=0)=False∧
 (∀p:Prop,(p∧p)=p)∧(∀p:Prop,(p∧True)=p)∧(∀p:Prop,(True∧p)=p)∧(((0:Nat):Int)=0)∧(∀α:Type,([]:List α).length=0)∧(∀(α:Type) (a b:α),(a≠b)= ¬(a=b))∧(∀(p:Prop) [Decidable p],(¬¬p)=p)∧
 (∀b:Bool,((!b)=true)=(b=false))∧(∀b:Bool,((!b)=false)=(b=true))∧(∀(α β:Type) (f:α→β) (l:List α),(l.map f).length=l.length):=by
 refine⟨fun p _=>decide_eq_true_eq,fun p _=>propext decide_eq_false_iff_not,fun a b=>propext Int.not_lt,fun a b=>propext Int.not_le,Int.toNat_natCast,fun a=>eq_false (Int.lt_irrefl a),fun a b=>rfl,fun a b=>rfl,not_true_eq_false,not_false_eq_true,rfl,rfl,rfl,rfl,by simp,by simp,by simp,and_self,and_true,true_and,rfl,fun _=>rfl,fun _ _ _=>rfl,fun p _=>propext Decidable.not_not,fun b=>by cases b<;>simp,fun b=>by cases b<;>simp,fun _ _ f l=>List.length_map ..⟩
theorem cz{P:Prop}(h:P:=by first|((with_reducible refine PlanIs.mk ?_);kernel_rfl)|((with_reducible refine NoSel.mk ?_);kernel_rfl)|((with_reducible refine Apart.mk ?_);kernel_rfl)|((with_reducible first|show(_:Nat)≤_|show(_:Nat)<_);first|omega|(simp only[sg,List.length_map];omega)|exact Nat.le_of_ble_eq_true rfl)|((with_reducible first|show(_:Int)≤_|show(_:Int)<_);first|omega|(simp only[sg,List.length_map];omega))|((with_reducible show _=_);exact rfl)):P:=h
theorem nz{p q:Prop}(h:p)(k:¬p:=by omega):q:=absurd h k
theorem dz{q:Prop}(e:q:=by(try first|replace h:=of_decide_eq_true h|replace h:=of_decide_eq_false h);(try simp only[sg]at h);(try simp only[sx,↓reduceIte,Nat.reduceAdd,reduceCtorEq,Int.reduceLT,Int.reduceLE,Int.reduceSub,Nat.reduceEqDiff,Nat.reduceLT]at h);first|done|exact nz h):q:=e
theorem cv{q:Prop}(e:q:=by(try first|replace h:=of_decide_eq_true h|replace h:=of_decide_eq_false h);(try simp only[sg]at h);(try simp only[sx,↓reduceIte,Nat.reduceAdd,reduceCtorEq,Int.reduceLT,Int.reduceLE,Int.reduceSub,Nat.reduceEqDiff,Nat.reduceLT]at h);exact h):q:=e
theorem dzh{q:Prop}(e:q:=by(try first|replace h:=of_decide_eq_true h|replace h:=of_decide_eq_false h);(try simp only[sg,hx1]at h);(try simp only[sx,↓reduceIte,Nat.reduceAdd,reduceCtorEq,Int.reduceLT,Int.reduceLE,Int.reduceSub,Nat.reduceEqDiff,Nat.reduceLT]at h);first|done|exact nz h):q:=e
theorem cvh{q:Prop}(e:q:=by(try first|replace h:=of_decide_eq_true h|replace h:=of_decide_eq_false h);(try simp only[sg,hx1]at h);(try simp only[sx,↓reduceIte,Nat.reduceAdd,reduceCtorEq,Int.reduceLT,Int.reduceLE,Int.reduceSub,Nat.reduceEqDiff,Nat.reduceLT]at h);exact h):q:=e
theorem dzi{q:Prop}(e:q:=by(try first|replace h:=of_decide_eq_true h|replace h:=of_decide_eq_false h);(try simp only[sg,hx1,hx2,hx3,hx4]at h);(try simp only[sx,↓reduceIte,Nat.reduceAdd,reduceCtorEq,Int.reduceLT,Int.reduceLE,Int.reduceSub,Nat.reduceEqDiff,Nat.reduceLT]at h);first|done|exact nz h):q:=e
theorem cvi{q:Prop}(e:q:=by(try first|replace h:=of_decide_eq_true h|replace h:=of_decide_eq_false h);(try simp only[sg,hx1,hx2,hx3,hx4]at h);(try simp only[sx,↓reduceIte,Nat.reduceAdd,reduceCtorEq,Int.reduceLT,Int.reduceLE,Int.reduceSub,Nat.reduceEqDiff,Nat.reduceLT]at h);exact h):q:=e
section
set_option maxRecDepth 100000
set_option maxHeartbeats 4000000
def XS(c:UInt8):List AVal:=[.int .u8 c.toNat]
abbrev vB(l:List UInt8):AVal:=vT 1 XS 0 l
theorem fB(l:List UInt8):Qj (l.map XS):=XR (fun a x hx=>by simp[XS]at hx;subst hx;rfl) l
theorem We{α:Type}{enc:α→List AVal}{z:Nat}(h:∀a,(enc a).length=z)(l:List α):V9 z (l.map enc)=true:=by
 have:=V8 h l 0 l.length
 rwa [List.drop_zero,List.take_of_length_le (by rw[List.length_map];exact Nat.le_refl _)]at this
theorem Bn[Syms](l:List UInt8)(hl:l.length≤1000000)(h0:0<l.length):
 fnT Q9 Q9 (QN fns) (Qz tys) (QV plt) 100 46 [vB l] [] 0 (fun v H _=>v=vB l∧H=[]):=by
 intro b hb
 have e:=Yz XS 0 l
 have el:(ZM l.length fun i=>XS (l.getD i 0)).length=l.length:=ZQ _ _
 have hb2:b=false:=hb (fun h=>by rw[h]at el;simp at el;omega)
 subst hb2
 refine And.intro (fun h=>by cases h) (fun h=>?_)
 refine And.intro (by rw[e];exact We (enc:=XS) (z:=1) (fun _=>rfl) l) ?_
 refine And.intro ⟨show(0+(ZM l.length fun i=>XS (l.getD i 0)).length)*1≤_ by omega,by omega⟩ ?_
 refine And.intro (fun h=>absurd h (by omega)) (fun h=>?_)
 refine And.intro (Nat.zero_le _) ?_
 refine And.intro (fun h=>?_) (fun h=>absurd (show 0<0+_ by omega) h)
 refine⟨_,YQ (enc:=XS) (k:=2) 0 (l:=l) rfl rfl ?_ ?_ ?_,_,rfl,rfl,rfl⟩
 ·show Qj (ZM l.length fun i=>XS (l.getD i 0))
  rw[e];exact fB l
 ·show List.take (0+(ZM l.length fun i=>XS (l.getD i 0)).length) (ZM l.length fun i=>XS (l.getD i 0))=_
  rw[e];exact List.take_of_length_le (by omega)
 ·show 0+(ZM l.length fun i=>XS (l.getD i 0)).length≤(ZM l.length fun i=>XS (l.getD i 0)).length
  omega
theorem Iq[Syms](l:List UInt8)(hl:l.length≤1000000):
 fnT Q9 Q9 (QN fns) (Qz tys) (QV plt) 100 46 [vB l] [] 0 (fun v H _=>v=vB l∧H=[]):=by
 cases l with
 |nil=>
  repeat' first|refine And.intro ?_ ?_|(intro h;try first|exact dz|replace h:=cv)
  all_goals try exact cz
  all_goals exact⟨_,V1 (k:=2) 1 XS 0 rfl,_,rfl,rfl,rfl⟩
 |cons a t=>exact Bn (a::t) hl (by simp)
end
noncomputable def WR(w:World):Inj:=⟨fun _=>none,fun g=>match w.heap[g]? with
 |some (.cells cs _ _)=>some cs
 |_=>none⟩
theorem KQ{w:World}{g:Nat}{cs:Array Value}{e:TypeId}{z:Nat×Nat}(h:w.heap[g]?=some (.cells cs e z)):(WR w).fz g=some cs:=by
 simp only[WR,h]
theorem II{w:World}{g:Nat}{cs:Array Value}(h:(WR w).fz g=some cs):∃e z,w.heap[g]?=some (.cells cs e z):=by
 simp only[WR]at h
 split at h
 ·rename_i cs' e z h1
  cases h
  exact⟨e,z,h1⟩
 ·cases h
theorem EE[Syms](w:World):RelH (WR w) [] w:=⟨fun n b hb=>(by rw[Heap.get_nil]at hb;cases hb),fun n m b c L M hb=>(by rw[Heap.get_nil]at hb;cases hb),fun g cs hg=>⟨II hg,fun⟨n,b,L,h1,_⟩=>by rw[Heap.get_nil]at h1;cases h1⟩⟩
theorem Kb[Syms]{ι:Inj}{H:Heap}{w:World}(hH:RelH ι H w):ι.bare.le (WR w):=⟨fun _ _ h=>(nomatch h),fun g cs hg=>by
 obtain⟨⟨e,z,h⟩,_⟩:=hH.fz g cs hg
 exact KQ h⟩
theorem Lg[Syms]{α:Type}{enc:α→List AVal}(d:α)(he:∀a,∃k z,enc a=[.int k z]){ι:Inj}{H:Heap}{w:World}{n:Nat}{l:List α}{ro:Bool}{c:Option Nat}{v:Value}(hn:H.get n=some (.cells (l.map enc) ro))(hH:RelH ι H w)(hv:RelV ι (.slice n 0 l.length 1 c) v):RelV (WR w) (vT 1 enc d l) v:=by
 obtain⟨L,hL,hB⟩:=hH.blk n _ hn
 cases hv with
 |slice _ _ _ _ _ L' a k h hs ha hl hp hm hc=>
  rw[hL]at h
  cases h
  refine .vt _ _ _ _ ?_
  rw[Yz]
  rcases ha with h0|h0
  ·have hl0:l=[]:=List.eq_nil_of_length_eq_zero (by omega)
   subst hl0
   exact .vz 1 _ _ hm (fun h=>nomatch h)
  ·subst h0
   obtain⟨cs,et,fz,c1,c2,c3,c4,c5⟩:=hB
   have hlen:(l.map enc).length=l.length:=List.length_map ..
   have hat:∀(k:Nat) (row:List AVal),(l.map enc)[k]?=some row→ ∃kd z,row=[.int kd z]:=fun k row hr=>by
    obtain⟨a,_,rfl⟩:=List.mem_map.1 (List.mem_of_getElem? hr)
    exact he a
   have key:RelV (WR w) (.vs 1 (l.map enc)) (.slice (some ⟨L.g,L.base+0*L.size,none⟩) (l.map enc).length k):=by
    refine .vs 1 (l.map enc) L.g (L.base+0*L.size) k cs (KQ c1) (by omega) hm (by rw[hs]at *;omega) (fun j row hr=>?_) (fun k j v hk hj hv=>?_) (fun k j row x v hr hj hv=>?_)
    ·obtain⟨kd,z,rfl⟩:=hat j row hr
     rfl
    ·have hj0:j=0:=by omega
     subst hj0
     have hr:(l.map enc)[k]?=some ((l.map enc)[k]):=List.getElem?_eq_getElem hk
     obtain⟨kd,z,hz⟩:=hat k _ hr
     rw[hz]at hr
     obtain⟨v',q1,q2,q3⟩:=(c4 k _ hr).2 0 (.int kd z) rfl
     rw[hs]at q1 hv
     have:L.base+0*1+k*1+0=L.base+k*1+0:=by omega
     rw[this,q1]at hv
     cases hv
     exact q2
    ·obtain⟨v',q1,q2,q3⟩:=(c4 k row hr).2 j x hj
     rw[hs]at q1 hv
     have:L.base+0*1+k*1+j=L.base+k*1+j:=by omega
     rw[this,q1]at hv
     cases hv
     obtain⟨kd,z,rfl⟩:=hat k row hr
     have hx:x= .int kd z:=by
      cases j with
      |zero=>simp at hj;exact hj.symm
      |succ j=>simp at hj
     subst hx
     cases q3
     exact .int _ _
   rwa [hlen]at key
inductive BArg(H:Heap):AVal→AVal→Prop
 |imm (v:AVal) (h:v.imm=true):BArg H v v
 |see (v v':AVal) (h:v.imm=true) (hw:WkV v v'):BArg H v v'
 |own (α:Type) (enc:α→List AVal) (d:α) (he:∀a,∃k z,enc a=[.int k z]) (n:Nat) (l:List α) (ro:Bool) (c:Option Nat) (h:H.get n=some (.cells (l.map enc) ro)):BArg H (.slice n 0 l.length 1 c) (vT 1 enc d l)
 |nil (α:Type) (enc:α→List AVal) (d:α):BArg H .nils (vT 1 enc d [])
def IM(H:Heap):List AVal→List AVal→Prop
 |[],[]=>True
 |a::l,b::m=>BArg H a b∧IM H l m
 |_,_=>False
theorem IM.rel[Syms]{ι:Inj}{H:Heap}{w:World}(hH:RelH ι H w):∀{xs ys:List AVal} {vs:List Value},IM H xs ys→QE ι xs vs→QE (WR w) ys vs
 |[],[],vs,_,h=>by rw[h.unnil];exact .nil _
 |[],_::_,vs,h,_=>h.elim
 |_::_,[],vs,h,_=>h.elim
 |a::xs,b::ys,vs,h,hr=>by
  obtain⟨v,vs',rfl,h1,h2⟩:=hr.uncons
  refine .cons ?_ (h.2.rel hH h2)
  cases h.1 with
  |imm _ hi=>exact(h1.imm (κ:=ι) (fun _ _ h=>h) hi).mono (Kb hH)
  |see _ _ hi hw=>exact(hw.rel (h1.imm (κ:=ι) (fun _ _ h=>h) hi)).mono (Kb hH)
  |own α enc d he n l ro c hn=>exact Lg d he hn hH h1
  |nil α enc d=>exact .vt _ _ _ _ (RelV.isZ (sz:=1) rfl h1)
section
set_option maxRecDepth 100000
set_option maxHeartbeats 4000000
end
section
set_option maxRecDepth 100000
set_option maxHeartbeats 4000000
theorem wrI{x:Int}(h:-9223372036854775808≤x∧x≤9223372036854775807):wr .i64 x=x:=if_pos h
end
section
set_option maxRecDepth 100000
set_option maxHeartbeats 4000000
theorem Le{i:Nat}(h:i≤9):2^(7*i)≤2^63:=Nat.pow_le_pow_right (by decide) (by omega)
theorem C4{y i:Nat}(hi:i≤9)(hy:y<128)(hx:i=9→y≤1):(y+1)*2^(7*i)≤2^64:=by
 by_cases h:i=9
 ·have:=hx h
  subst h
  have:(y+1)*2^(7*9)≤2*2^(7*9):=Nat.mul_le_mul_right _ (by omega)
  omega
 ·have h1:2^(7*i)≤2^56:=Nat.pow_le_pow_right (by decide) (by omega)
  have:(y+1)*2^(7*i)≤128*2^56:=Nat.mul_le_mul (by omega) h1
  omega
theorem CA{n:Nat}(h:n<2^64):wr .u64 (n:Int)=(n:Int):=if_pos ⟨by show(0:Int)≤_;omega,by show _≤(18446744073709551615:Int);omega⟩
theorem P8(x i:Nat)(hi:i≤9)(hx:i=9→x≤1):wr .u64 ((((x%128:Nat):Int))*2^min ((7*(i:Int)).toNat) 64)=((x%128*2^(7*i):Nat):Int):=by
 have h1:(7*(i:Int)).toNat=7*i:=by omega
 have h2:=C4 (y:=x%128) hi (by omega) (fun h=>by have:=hx h;omega)
 have hp:0<2^(7*i):=Nat.pow_pos (by decide)
 rw[Nat.add_mul,Nat.one_mul]at h2
 rw[h1,Nat.min_eq_left (by omega),←CA (n:=x%128*2^(7*i)) (by omega)]
 congr 1
theorem orV(v x i:Nat)(hv:v<2^(7*i))(hi:i≤9)(hx:i=9→x≤1):
 IntKind.u64.wrap (((BitVec.ofInt 64 (v:Int) ||| BitVec.ofInt 64 ((x%128*2^(7*i):Nat):Int)).toNat:Nat):Int)=((v+x%128*2^(7*i):Nat):Int):=by
 have h2:=C4 (y:=x%128) hi (by omega) (fun h=>by have:=hx h;omega)
 have hp:0<2^(7*i):=Nat.pow_pos (by decide)
 have h3:=Le hi
 rw[Nat.add_mul,Nat.one_mul]at h2
 have hm:∀n:Nat,n<2^64→(BitVec.ofInt 64 (n:Int)).toNat=n:=fun n hn=>by simp;omega
 have ho:(BitVec.ofInt 64 (v:Int) ||| BitVec.ofInt 64 ((x%128*2^(7*i):Nat):Int)).toNat=v+x%128*2^(7*i):=by
  rw[BitVec.toNat_or,hm v (by omega),hm _ (by omega),←Nat.shiftLeft_eq,Nat.or_comm,←Nat.shiftLeft_add_eq_or_of_lt hv,Nat.add_comm]
 rw[ho]
 generalize hn:v+x%128*2^(7*i)=n
 have hn64:n<2^64:=by omega
 simp[IntKind.wrap,IntKind.bits,IntKind.signed]
 try omega
theorem Nd(v x i:Nat)(hv:v<2^(7*i))(hi:i≤9)(hx:i=9→x≤1):
 IntKind.u64.wrap (((BitVec.ofInt 64 (v:Int) ||| BitVec.ofInt 64 (wr .u64 (wr .u64 ((x:Int).tmod 128)*2^min ((7*(i:Int)).toNat) 64))).toNat:Nat):Int)=((v+x%128*2^(7*i):Nat):Int):=by
 rw[show(x:Int).tmod 128=((x%128:Nat):Int) from rfl,CA (n:=x%128) (by omega),P8 x i hi hx,orV v x i hv hi hx]
theorem Ox{v x i:Nat}(hv:v<2^(7*i)):v+x%128*2^(7*i)<2^(7*(i+1)):=by
 have h:(x%128+1)*2^(7*i)≤128*2^(7*i):=Nat.mul_le_mul_right _ (by omega)
 have e:2^(7*(i+1))=128*2^(7*i):=by rw[Nat.mul_succ,Nat.pow_add];omega
 rw[Nat.add_mul,Nat.one_mul]at h
 omega
theorem O2(c:UInt8):(XS c).getD 0 .any= .int .u8 c.toNat:=rfl
def gvS(b:List UInt8)(i v:Nat):St:=⟨[(2,.int .u64 v),(3,.int .i64 0),(4,.int .i64 0),(7,vB b),(8,.int .i64 b.length),(9,.int .i64 i)],[],0⟩
def Ed(r:Nat×Nat×Int):AVal:=.tup [.int .u64 r.1,.int .i64 r.2.1,.int .i64 r.2.2]
theorem OO[Syms](b:List UInt8)(hl:b.length≤1000000):
 fnT Q9 Q9 (QN fns) (Qz tys) (QV plt) 100 79 [vB b] [] 0 (fun v H _=>v=Ed (YU b 0 0)∧H=[]):=by
 refine⟨fun m s=>∃i v:Nat,(i≤b.length∧i≤9∧m=b.length-i∧v<2^(7*i)∧YU (b.drop i) i v=YU b 0 0)∧s=gvS b i v,⟨_,gvS b 0 0,Q4 [2,3,4,7,8,9] rfl,0,0,⟨by omega,by omega,rfl,by decide,rfl⟩,rfl⟩,?_⟩
 rintro m s ⟨i,v,⟨hi,hi10,rfl,hv,hg⟩,rfl⟩
 by_cases h1:i<b.length
 ·have hd:b.drop i=b.getD i 0::b.drop (i+1):=by
   rw[List.drop_eq_getElem_cons h1,List.getD_eq_getElem?_getD,List.getElem?_eq_getElem h1];rfl
  rw[hd,YU]at hg
  have hx8:(b.getD i 0).toNat<256:=(b.getD i 0).toNat_lt
  generalize hx:(b.getD i 0).toNat=x at *
  have hx1:=O2
  have hx2:=hx
  have hx3:=hx
  have hx4:((i:Nat):Int).toNat=i:=Int.toNat_natCast i
  by_cases h2:i=9∧1<x
  ·rw[if_pos h2]at hg
   obtain⟨h29,h2⟩:=h2
   repeat' first|refine And.intro ?_ ?_|(intro h;try first|exact dzi|replace h:=cvi)
   all_goals try exact cz
   exact⟨_,Q4 [2,3,4] rfl,_,rfl,congrArg Ed hg,rfl⟩
  ·rw[if_neg h2]at hg
   by_cases h3:x<128
   ·rw[if_pos h3]at hg
    by_cases h4:x=0∧0<i
    ·rw[if_pos h4]at hg
     obtain⟨h4,h5⟩:=h4
     repeat' first|refine And.intro ?_ ?_|(intro h;try first|exact dzi|replace h:=cvi)
     all_goals try exact cz
     all_goals exact⟨_,Q4 [2,3,4] rfl,_,rfl,congrArg Ed hg,rfl⟩
    ·rw[if_neg h4]at hg
     repeat' first|refine And.intro ?_ ?_|(intro h;try first|exact dzi|replace h:=cvi)
     all_goals try exact cz
     all_goals refine⟨⟨[(2,.int .u64 ((v+x%128*2^(7*i):Nat):Int)),(3,.int .i64 ((i+1:Nat):Int)),(4,.int .i64 0)],[],0⟩,Q0 [] rfl ⟨Qg ?_,Qg (by omega),.refl _,trivial⟩ trivial,_,rfl,congrArg Ed hg,rfl⟩
     all_goals(subst hx;exact Nd v (b.getD i 0).toNat i hv hi10 (by omega))
   ·rw[if_neg h3]at hg
    repeat' first|refine And.intro ?_ ?_|(intro h;try first|exact dzi|replace h:=cvi)
    all_goals try exact cz
    refine⟨_,gvS b (i+1) (v+x%128*2^(7*i)),Q0 [] rfl ⟨Qg ?_,.refl _,.refl _,.refl _,.refl _,Qg (by omega),trivial⟩ trivial,⟨i+1,_,⟨by omega,by omega,rfl,?_,hg⟩,rfl⟩,by omega⟩
    ·subst hx;exact Nd v (b.getD i 0).toNat i hv hi10 (by omega)
    ·exact Ox hv
 ·obtain rfl:i=b.length:=by omega
  rw[List.drop_length,YU]at hg
  repeat' first|refine And.intro ?_ ?_|(intro h;try first|exact dz|replace h:=cv)
  all_goals try exact cz
  exact⟨_,Q4 [2,3,4] rfl,_,rfl,congrArg Ed hg,rfl⟩
def S_get:SpecI:=fun args K=>∃b,args=[vB b]∧b.length≤1000000∧K (Ed (YU b 0 0))
theorem HY[Syms]:Zi Try.prog 79 S_get:=by
 rintro args K ⟨b,rfl,h,hk⟩
 exact⟨rfl,_,rfl,hk,fnI Qp Qq Q5 Qb QJ (OO b h)⟩
end
structure Nam(fs:List Fd):Prop where
 pos:0<fs.length
 le:fs.length≤14
 root:(fs.getD 0 default).name=[109]
 at':∀j,1≤j→j<fs.length→(fs.getD j default).name=nmM (j-1)∧j≤12∨((fs.getD j default).name=[122]∧j+1=fs.length)
theorem VP(fs:List Fd)(a j:Nat):((Xq fs a).getD j default).name=(fs.getD j default).name:=by
 unfold Xq
 rw[List.getD_eq_getElem?_getD,List.getD_eq_getElem?_getD,List.getElem?_set]
 split
 ·rename_i h;subst h
  split
  ·rename_i h;simp[h]
  ·rename_i h;simp[Nat.le_of_not_lt h]
 ·rfl
theorem UL{fs:List Fd}{a:Nat}{m:Int}(h:∀j,(fs.getD j default).kids≤m)(j:Nat):((Xq fs a).getD j default).kids≤m+1:=by
 unfold Xq
 rw[List.getD_eq_getElem?_getD,List.getElem?_set]
 have hj:=h j
 rw[List.getD_eq_getElem?_getD]at hj
 split
 ·rename_i e;subst e
  split
  ·have:=h a;simp;omega
  ·rename_i hh;simp[Nat.le_of_not_lt hh]at hj ⊢;omega
 ·omega
theorem Xd{α:Type}{l:List α}{x d:α}{j:Nat}(h:j<l.length):(l++[x]).getD j d=l.getD j d:=by
 simp[List.getD_eq_getElem?_getD,List.getElem?_append_left h]
theorem Y6{α:Type}{l:List α}{x d:α}:(l++[x]).getD l.length d=x:=by
 simp[List.getD_eq_getElem?_getD]
structure MkI(i:Nat)(fs:List Fd)(op:List Int):Prop where
 len:fs.length=i+1
 root:(fs.getD 0 default).name=[109]
 nm:∀j,1≤j→j<fs.length→(fs.getD j default).name=nmM (j-1)
 kids:∀j,(fs.getD j default).kids≤i
 rep:∀f∈fs,0≤f.rep∧f.rep≤2∧0≤f.kind∧f.kind≤4
theorem HT{fs:List Fd}{a:Nat}{f:Fd}(h:∀f∈fs,0≤f.rep∧f.rep≤2∧0≤f.kind∧f.kind≤4)(hf:f∈Xq fs a):0≤f.rep∧f.rep≤2∧0≤f.kind∧f.kind≤4:=by
 rcases List.mem_or_eq_of_mem_set hf with hf|rfl
 ·exact h f hf
 ·by_cases ha:a<fs.length
  ·exact h (fs.getD a default) (by simp[List.getD_eq_getElem?_getD,ha])
  ·simp[List.getD_eq_getElem?_getD,Nat.le_of_not_lt ha]
   decide
theorem De(op:List Int)(x:Int):0≤XP op x∧XP op x≤4:=by
 obtain⟨h1,h2⟩:=WD (a:=x) (n:=8) (by decide)
 have h3:(wi x 8).tmod 5=wi x 8%5:=Int.tmod_eq_emod_of_nonneg h1
 unfold XP
 split<;>omega
theorem HC{ns:List Int}{i:Nat}{fs:List Fd}{op:List Int}(h:MkI i fs op)(x:Int):MkI (i+1) (XM fs op i x).1 (XM fs op i x).2:=by
 have hl:=h.len
 obtain⟨w1,w2⟩:=WD (a:=wr .i64 (x.tdiv 8)) (n:=3) (by decide)
 refine⟨by simp[XM,Qa,hl],?_,?_,?_,?_⟩
 ·simp only[XM]
  rw[Xd (by rw[Qa];omega),VP];exact h.root
 ·intro j h1 h2
  simp only[XM]at h2 ⊢
  simp[Qa]at h2
  by_cases hj:j<fs.length
  ·rw[Xd (by rw[Qa];exact hj),VP];exact h.nm j h1 hj
  ·obtain rfl:j=fs.length:=by omega
   rw[←Qa fs (ZW (Vk fs (wi (wr .i64 (x.tdiv 64)) 3).toNat op)).toNat,Y6]
   simp only[Bh,Qa,hl];rfl
 ·intro j
  simp only[XM]
  by_cases hj:j<fs.length
  ·rw[Xd (by rw[Qa];exact hj)]
   have:=UL (a:=(ZW (Vk fs (wi (wr .i64 (x.tdiv 64)) 3).toNat op)).toNat) h.kids j
   omega
  ·by_cases hj':j=fs.length
   ·subst hj'
    rw[←Qa fs (ZW (Vk fs (wi (wr .i64 (x.tdiv 64)) 3).toNat op)).toNat,Y6]
    simp only[Bh];omega
   ·rw[List.getD_eq_getElem?_getD,List.getElem?_eq_none (by simp[Qa];omega)]
    show(0:Int)≤_;omega
 ·intro f hf
  simp only[XM]at hf
  rcases List.mem_append.1 hf with hf|hf
  ·exact HT h.rep hf
  ·simp only[List.mem_singleton]at hf;subst hf
   have:=De (Vk fs (wi (wr .i64 (x.tdiv 64)) 3).toNat op) x
   simp only[Bh];omega
theorem Cb{ns:List Int}:∀(n i:Nat) (fs:List Fd) (op:List Int),MkI i fs op→n+i=12→ ∃m,m≤12∧MkI m (XN ns n i fs op).1 (XN ns n i fs op).2
 |0,i,fs,op,h,hn=>⟨i,by omega,h⟩
 |n+1,i,fs,op,h,hn=>by
  rw[XN]
  split
  ·exact Cb n (i+1) _ _ (HC (ns:=ns) h _) (by omega)
  ·exact⟨i,by omega,h⟩
theorem Cc(ns:List Int):∃m,m≤12∧MkI m (XN ns 12 0 fs0 [0]).1 (XN ns 12 0 fs0 [0]).2:=by
 refine Cb 12 0 _ _ ⟨rfl,rfl,fun j h1 h2=>?_,fun j=>?_,?_⟩ rfl
 ·simp at h2;omega
 ·match j with
  |0=>exact Int.le_refl _
  |j+1=>exact Int.le_refl _
 ·intro f hf;simp only[List.mem_singleton]at hf;subst hf;decide
theorem HH(ns:List Int):Nam (QD ns):=by
 obtain⟨m,hm,h⟩:=Cc ns
 have hl:=h.len
 simp only[QD]
 generalize(XN ns 12 0 fs0 [0]).1=fs at *
 generalize(XN ns 12 0 fs0 [0]).2=op at *
 unfold Ym
 split
 ·refine⟨by simp,by simp[Qa];omega,by rw[Xd (by rw[Qa];omega),VP];exact h.root,fun j h1 h2=>?_⟩
  simp[Qa]at h2
  by_cases hj:j<fs.length
  ·left
   rw[Xd (by rw[Qa];exact hj),VP];exact⟨h.nm j h1 hj,by omega⟩
  ·right
   obtain rfl:j=fs.length:=by omega
   refine⟨?_,by simp[Qa]⟩
   rw[←Qa fs (ZW op).toNat,Y6]
 ·exact⟨by omega,by omega,h.root,fun j h1 h2=>.inl ⟨h.nm j h1 h2,by omega⟩⟩
theorem Mo(ns:List Int)(j:Nat):((QD ns).getD j default).kids≤13:=by
 obtain⟨m,hm,h⟩:=Cc ns
 simp only[QD]
 generalize(XN ns 12 0 fs0 [0]).1=fs at *
 generalize(XN ns 12 0 fs0 [0]).2=op at *
 unfold Ym
 split
 ·by_cases hj:j<fs.length
  ·rw[Xd (by rw[Qa];exact hj)]
   have:=UL (a:=(ZW op).toNat) h.kids j
   omega
  ·by_cases hj':j=fs.length
   ·subst hj'
    rw[←Qa fs (ZW op).toNat,Y6]
    decide
   ·rw[List.getD_eq_getElem?_getD,List.getElem?_eq_none (by simp[Qa];omega)]
    decide
 ·have:=h.kids j;omega
theorem Nam.len1{fs:List Fd}(h:Nam fs)(j:Nat):(fs.getD j default).name.length≤1:=by
 by_cases hj:j<fs.length
 ·by_cases h0:j=0
  ·subst h0;rw[h.root];decide
  ·rcases h.at' j (by omega) hj with⟨e,_⟩|⟨e,_⟩<;>rw[e]<;>simp[nmM]
 ·rw[List.getD_eq_getElem?_getD,List.getElem?_eq_none (by omega)]
  decide
theorem F7(ns:List Int):FsOk (QD ns):=by
 have h:=HH ns
 exact⟨by have:=h.le;omega,fun i=>by have:=Mo ns i;omega,fun i=>by have:=h.len1 i;omega⟩
theorem Li:∀i,i<12→ ∀k,k<12→nmM i=nmM k→i=k:=by decide
theorem Nh:∀i,i<12→nmM i≠[122]:=by decide
theorem Nam.inj{fs:List Fd}(h:Nam fs){i k:Nat}(h1:1≤i)(h2:i<fs.length)(h3:1≤k)(h4:k<fs.length)(e:(fs.getD i default).name=(fs.getD k default).name):i=k:=by
 rcases h.at' i h1 h2 with⟨a,a'⟩|⟨a,a'⟩<;>rcases h.at' k h3 h4 with⟨b,b'⟩|⟨b,b'⟩
 ·rw[a,b]at e
  have:=Li _ (by omega) _ (by omega) e
  omega
 ·rw[a,b]at e;exact absurd e (Nh _ (by omega))
 ·rw[a,b]at e;exact absurd e.symm (Nh _ (by omega))
 ·omega
theorem Nam.one{fs:List Fd}(h:Nam fs){i:Nat}(h1:1≤i)(h2:i<fs.length):∃b,(fs.getD i default).name=[b]:=by
 rcases h.at' i h1 h2 with⟨a,_⟩|⟨a,_⟩
 ·exact⟨_,a⟩
 ·exact⟨_,a⟩
def lf0:Lf:=⟨0,0,0,0⟩
def YM(L:List Lf)(p:Int):Lf:=if 0≤p then L.getD p.toNat default else lf0
def mkL(fs:List Fd)(ps:List Int)(L:List Lf)(i:Nat):Lf:=
 let f:=fs.getD i default
 let b:=YM L (ps.getD i 0)
 ⟨i,if f.rep=2 then b.r+1 else b.r,if f.rep≠0 then b.d+1 else b.d,f.kind⟩
def Qh(fs:List Fd)(ps:List Int):Nat→List Lf
 |0=>[]
 |i+1=>Qh fs ps i++[mkL fs ps (Qh fs ps i) i]
def F9(l:Lf):Bool:=decide (l.kind≠0)
def Z7(fs:List Fd)(ps:List Int)(i:Nat):List Lf:=(Qh fs ps i).filter F9
def QP(fs:List Fd):List Lf:=Z7 fs (Qu fs) fs.length
theorem Za(fs:List Fd)(ps:List Int):∀i,(Qh fs ps i).length=i
 |0=>rfl
 |i+1=>by simp[Qh,Za fs ps i]
theorem YD(fs:List Fd)(ps:List Int){j:Nat}:∀{i:Nat},j<i→(Qh fs ps i).getD j default=mkL fs ps (Qh fs ps j) j
 |0,h=>by omega
 |i+1,h=>by
  by_cases hj:j<i
  ·rw[Qh,Xd (by rw[Za];exact hj)];exact YD fs ps hj
  ·obtain rfl:j=i:=by omega
   have:=Y6 (l:=Qh fs ps j) (x:=mkL fs ps (Qh fs ps j) j) (d:=default)
   rw[Za]at this
   exact this
theorem Ui(fs:List Fd)(ps:List Int){j i k:Nat}(h1:j<i)(h2:j<k):(Qh fs ps i).getD j default=(Qh fs ps k).getD j default:=by rw[YD fs ps h1,YD fs ps h2]
theorem Q7(fs:List Fd)(ps:List Int)(i:Nat):Z7 fs ps (i+1)=if(fs.getD i default).kind≠0 then Z7 fs ps i++[mkL fs ps (Qh fs ps i) i]else Z7 fs ps i:=by
 unfold Z7
 rw[Qh,List.filter_append]
 by_cases h:(fs.getD i default).kind≠0
 ·have hl:F9 (mkL fs ps (Qh fs ps i) i)=true:=decide_eq_true h
  rw[if_pos h,List.filter_cons,if_pos hl];rfl
 ·have hl:F9 (mkL fs ps (Qh fs ps i) i)=false:=decide_eq_false h
  rw[if_neg h,List.filter_cons,if_neg (by rw[hl];decide)];simp
theorem Zs(fs:List Fd)(ps:List Int)(i:Nat):(Z7 fs ps i).length≤i:=by
 have:=List.length_filter_le F9 (Qh fs ps i)
 rw[Za]at this
 exact this
def Cz(ps:List Int)(n:Nat):Prop:=∀j,j<n→ -1≤ps.getD j 0∧ps.getD j 0<j
theorem U0(fs:List Fd):Cz (Qu fs) fs.length:=fun j h=>B5 fs j h
theorem WL{fs:List Fd}{ps:List Int}{n:Nat}(ha:Cz ps n):∀i,i≤n→ ∀j,j<i→0≤((Qh fs ps i).getD j default).r∧((Qh fs ps i).getD j default).r≤((Qh fs ps i).getD j default).d∧((Qh fs ps i).getD j default).d≤j+1
 |0,_,j,h=>by omega
 |i+1,hi,j,h=>by
  by_cases hj:j<i
  ·rw[Ui fs ps h hj];exact WL ha i (by omega) j hj
  ·obtain rfl:j=i:=by omega
   rw[YD fs ps h]
   have hp:=ha j (by omega)
   have hb:0≤(YM (Qh fs ps j) (ps.getD j 0)).r∧(YM (Qh fs ps j) (ps.getD j 0)).r≤(YM (Qh fs ps j) (ps.getD j 0)).d∧(YM (Qh fs ps j) (ps.getD j 0)).d≤j:=by
    unfold YM
    split
    ·have:=WL (fs:=fs) ha j (by omega) (ps.getD j 0).toNat (by omega)
     omega
    ·simp[lf0]
   simp only[mkL]
   split<;>split<;>omega
def upR(fs:List Fd)(ps:List Int)(n:Nat)(k:Int):Int:=if 0≤k then((Qh fs ps n).getD k.toNat default).r else 0
def upD(fs:List Fd)(ps:List Int)(n:Nat)(k:Int):Int:=if 0≤k then((Qh fs ps n).getD k.toNat default).d else 0
theorem FK{fs:List Fd}{ps:List Int}{n k:Nat}(ha:Cz ps n)(hk:k<n):upR fs ps n k=upR fs ps n (ps.getD k 0)+(if(fs.getD k default).rep=2 then 1 else 0):=by
 have hp:=ha k hk
 unfold upR
 rw[if_pos (by omega),Int.toNat_natCast,YD fs ps hk]
 simp only[mkL,YM]
 by_cases h:0≤ps.getD k 0
 ·rw[if_pos h,if_pos h,Ui fs ps (i:=k) (k:=n) (by omega) (by omega)]
  split<;>omega
 ·rw[if_neg h,if_neg h]
  simp only[lf0];split<;>rfl
theorem FL{fs:List Fd}{ps:List Int}{n k:Nat}(ha:Cz ps n)(hk:k<n):upD fs ps n k=upD fs ps n (ps.getD k 0)+(if(fs.getD k default).rep≠0 then 1 else 0):=by
 have hp:=ha k hk
 unfold upD
 rw[if_pos (by omega),Int.toNat_natCast,YD fs ps hk]
 simp only[mkL,YM]
 by_cases h:0≤ps.getD k 0
 ·rw[if_pos h,if_pos h,Ui fs ps (i:=k) (k:=n) (by omega) (by omega)]
  split<;>omega
 ·rw[if_neg h,if_neg h]
  simp only[lf0];split<;>rfl
theorem D8{fs:List Fd}{ps:List Int}{i:Nat}:∀{n:Nat},i<n→(fs.getD i default).kind≠0→(Z7 fs ps n).getD (Z7 fs ps i).length default=mkL fs ps (Qh fs ps i) i∧(Z7 fs ps i).length<(Z7 fs ps n).length
 |0,h,_=>by omega
 |n+1,h,hk=>by
  by_cases hi:i<n
  ·obtain⟨h1,h2⟩:=D8 (ps:=ps) hi hk
   rw[Q7]
   split
   ·refine⟨?_,by simp;omega⟩
    rw[Xd h2];exact h1
   ·exact⟨h1,h2⟩
  ·obtain rfl:i=n:=by omega
   rw[Q7,if_pos hk]
   exact⟨Y6,by simp⟩
structure LastI(fs:List Fd)(op:List Int):Prop where
 pos:0<fs.length
 last:(fs.getD (fs.length-1) default).kind=0→ZW op=((fs.length-1:Nat):Int)∧(fs.getD (fs.length-1) default).kids=0
def Xb:Stk→Stk
 |[]=>[]
 |(a,k)::t=>if k=0 then Xb t else(a,k)::t
def YL(i:Nat)(f:Fd)(st:Stk):Stk:=if f.kind=0∧0<f.kids then((i:Int),f.kids)::st else st
def M1:List Fd→Nat→Stk→List (Int×Int)
 |[],_,_=>[]
 |f::fs,i,st=>(U1 (Xb st),((Xb st).length:Int))::M1 fs (i+1) (YL i f (Yf (Xb st)))
def Us(st:Stk):Prop:=∀p∈st,0≤p.2
theorem Mg:∀{st:Stk},Us st→Xb st=Zr st
 |[],_=>rfl
 |(a,k)::t,h=>by
  have hk:0≤k:=h (a,k) (List.mem_cons_self ..)
  rw[Xb,Zr]
  by_cases h0:k=0
  ·rw[if_pos h0,if_pos (by omega)];exact Mg fun p hp=>h p (List.mem_cons_of_mem _ hp)
  ·rw[if_neg h0,if_neg (by omega)]
theorem FZ{st:Stk}{p:Int×Int}(h:p∈Xb st):p∈st:=by
 induction st with
 |nil=>simp[Xb]at h
 |cons q t ih=>
  obtain⟨a,k⟩:=q
  rw[Xb]at h
  split at h
  ·exact List.mem_cons_of_mem _ (ih h)
  ·exact h
theorem CT{st:Stk}{a k:Int}{t:Stk}(hn:Us st)(h:Xb st=(a,k)::t):0<k:=by
 induction st with
 |nil=>simp[Xb]at h
 |cons q s ih=>
  obtain⟨b,l⟩:=q
  rw[Xb]at h
  split at h
  ·exact ih (fun p hp=>hn p (List.mem_cons_of_mem _ hp)) h
  ·cases h
   have:=hn (a,k) (List.mem_cons_self ..)
   simp only at this;omega
theorem G2{st:Stk}(h:Us st)(i:Nat)(f:Fd):Us (YL i f (Yf (Xb st))):=by
 have hd:Us (Yf (Xb st)):=by
  intro p hp
  cases hq:Xb st with
  |nil=>rw[hq]at hp;simp[Yf]at hp
  |cons q t=>
   obtain⟨a,k⟩:=q
   rw[hq]at hp
   have hk:=CT h hq
   simp only[Yf,List.mem_cons]at hp
   rcases hp with rfl|hp
   ·simp only;omega
   ·exact h p (FZ (by rw[hq];exact List.mem_cons_of_mem _ hp))
 unfold YL
 split
 ·rename_i hc
  intro p hp
  rcases List.mem_cons.1 hp with rfl|hp
  ·simp only;omega
  ·exact hd p hp
 ·exact hd
theorem Mb:∀(fs:List Fd) (i:Nat) (st rt:Stk),Us rt→Xb rt=Zr st→M1 fs i rt=Xo fs i st
 |[],_,_,_,_,_=>rfl
 |f::fs,i,st,rt,hn,he=>by
  rw[M1,Xo,he]
  congr 1
  refine Mb fs (i+1) _ _ ?_ ?_
  ·rw[←he];exact G2 hn i f
  ·rw[Mg (by rw[←he];exact G2 hn i f)]
   unfold YL Zo
   by_cases h0:f.kind=0
   ·by_cases h1:0<f.kids
    ·rw[if_pos ⟨h0,h1⟩,if_pos h0]
    ·rw[if_neg (fun h=>h1 h.2),if_pos h0]
     show _=Zr (((i:Int),f.kids)::Yf (Zr st))
     rw[Zr,if_pos (by omega)]
   ·rw[if_neg (fun h=>h0 h.1),if_neg h0]
def XW(fs:List Fd):List Int:=(Xo fs 0 []).map (·.2)
theorem BQ(fs:List Fd):M1 fs 0 []=Xo fs 0 []:=Mb fs 0 [] [] (fun p hp=>by cases hp) rfl
def Yd(c:UInt8):Bool:=decide (97≤c.toNat)&&decide (c.toNat≤122)
def JM(c:UInt8):Bool:=Yd c||(decide (48≤c.toNat)&&decide (c.toNat≤57))||decide (c.toNat=95)
def WJ(s:List UInt8):Bool:=decide (1≤s.length)&&decide (s.length≤12)&&Yd (s.headD 0)&&s.all JM
def Iw(f:Fd)(i:Nat)(par dep:Int)(nm tw:Bool):Int:=
 if 0<i∧par<0 then 1 else if 8<dep then 11 else if nm=false∨tw=true then 7
 else if f.rep<0∨2<f.rep∨f.kind<0∨4<f.kind then 3 else if i=0∧(f.rep≠0∨f.kind≠0)then 3
 else if(f.kind=0∧f.kids<1)∨(f.kind≠0∧f.kids≠0)then 1 else 0
def Wa(fs:List Fd)(ps:List Int)(i:Nat)(dep:Int):Int:=
 Iw (fs.getD i default) i (ps.getD i 0) dep (WJ (fs.getD i default).name) (JJ fs ps i)
def ZJ(fs:List Fd):Nat→Nat→Int
 |_,0=>0
 |i,n+1=>if Wa fs (Qu fs) i ((XW fs).getD i 0)≠0 then Wa fs (Qu fs) i ((XW fs).getD i 0)else ZJ fs (i+1) n
def WT:List Fd→Nat→Stk→Stk
 |[],_,st=>st
 |f::fs,i,st=>WT fs (i+1) (Zo i f (Yf (Zr st)))
def YB(st:Stk):Bool:=st.any fun p=>decide (0<p.2)
def Z8(fs:List Fd):Int:=
 if fs.length<1∨40<fs.length then 4 else if ZJ fs 0 fs.length≠0 then ZJ fs 0 fs.length else if YB (WT fs 0 [])=true then 1 else 0
theorem K2{fs:List Fd}{i:Nat}(h:i<fs.length):ZJ fs i (fs.length-i)=if Wa fs (Qu fs) i ((XW fs).getD i 0)≠0 then Wa fs (Qu fs) i ((XW fs).getD i 0)else ZJ fs (i+1) (fs.length-(i+1)):=by
 rw[show fs.length-i=(fs.length-(i+1))+1 by omega,ZJ]
structure BR where
 b:List UInt8
 e:Int
def QT(r:BR)(x:Int):BR:=if r.e=0 then⟨r.b,x⟩else r
def Z4(n:Nat)(r:BR):List UInt8×BR:=
 if(if r.b.length<n then QT r 8 else r).e≠0 then([],if r.b.length<n then QT r 8 else r)else(r.b.take n,⟨r.b.drop n,r.e⟩)
def Zc(n:Nat)(r:BR):Nat×BR:=(leV (Z4 n r).1,(Z4 n r).2)
def Vo(most:Nat)(wrong:Int)(r:BR):BR:=if(YU r.b 0 0).2.2=0∧most<(YU r.b 0 0).1 then QT (QT r (YU r.b 0 0).2.2) wrong else QT r (YU r.b 0 0).2.2
def QX(most:Nat)(wrong:Int)(r:BR):Nat×BR:=
 if r.e≠0 then(0,r)else
 if(Z4 (YU r.b 0 0).2.1 (Vo most wrong r)).2.e≠0 then(0,(Z4 (YU r.b 0 0).2.1 (Vo most wrong r)).2)else((YU r.b 0 0).1,(Z4 (YU r.b 0 0).2.1 (Vo most wrong r)).2)
def ND(f:Fd):List UInt8:=leB 1 f.rep.toNat++(leB 1 f.kind.toNat++(Q04 f.kids.toNat++(Q04 f.name.length++f.name)))
def sbL:List Fd→List UInt8
 |[]=>[]
 |f::l=>ND f++sbL l
def sbF(s:List Fd):List UInt8:=Q04 s.length++sbL s
def Zz(r:BR):Fd×BR:=
 let a:=Zc 1 r
 let b:=Zc 1 a.2
 let c:=QX 40 14 b.2
 let d:=QX 12 5 c.2
 let t:=Z4 d.1 d.2
 (⟨t.1,a.1,b.1,c.1⟩,t.2)
def ZB:Nat→BR→List Fd→List Fd×BR
 |0,r,s=>(s,r)
 |k+1,r,s=>if r.e≠0 then(s,r)else ZB k (Zz r).2 (s++[(Zz r).1])
def Fj(p:List Fd×BR):BR:=if p.2.b≠[]then QT p.2 9 else p.2
def Xn(b:List UInt8):List Fd×Int:=
 let n:=QX 40 4 ⟨b,0⟩
 let p:=ZB n.1 n.2 []
 let r:=if(Fj p).e=0 then QT (Fj p) (Z8 p.1)else Fj p
 if r.e≠0 then([],r.e)else(p.1,0)
structure SbOk(f:Fd):Prop where
 rep:0≤f.rep∧f.rep≤255
 kind:0≤f.kind∧f.kind≤255
 kids:0≤f.kids∧f.kids≤40
 name:f.name.length≤12
section
set_option maxRecDepth 100000
set_option maxHeartbeats 4000000
abbrev rdB(r:BR):Option Blk:=some (.cells [[vB r.b,.int .i64 r.e]] false)
theorem L6[Syms]{Post:AVal→Heap→Nat→Prop}(r:BR)(x:Int)(hP:Post (.tup []) [(0,rdB (QT r x))] 1):
 fnT Q9 Q9 (QN fns) (Qz tys) (QV plt) 100 82 [.ptr 0 0 0,.int .i64 x] [(0,rdB r)] 1 Post:=by
 obtain⟨b,e⟩:=r
 by_cases h0:e=0
 ·subst h0
  rw[QT,if_pos rfl]at hP
  repeat' first|refine And.intro ?_ ?_|(intro h;try first|exact dz|replace h:=cv)
  all_goals try exact cz
  exact⟨⟨[],[(0,rdB ⟨b,x⟩)],1⟩,Q0 [0] (by first|rfl|kernel_rfl) trivial ⟨⟨by decide,_,rfl,.refl _⟩,trivial⟩,_,rfl,hP⟩
 ·rw[QT,if_neg h0]at hP
  repeat' first|refine And.intro ?_ ?_|(intro h;try first|exact dz|replace h:=cv)
  all_goals try exact cz
  exact⟨⟨[],[(0,rdB ⟨b,e⟩)],1⟩,Q0 [0] (by first|rfl|kernel_rfl) trivial ⟨⟨by decide,_,rfl,.refl _⟩,trivial⟩,_,rfl,hP⟩
def JC:SpecT:=fun args H nx Post=>∃(r:BR) (x:Int),args=[.ptr 0 0 0,.int .i64 x]∧H=[(0,rdB r)]∧nx=1∧Post (.tup []) [(0,rdB (QT r x))] 1
theorem JT[Syms]:JC.ok Try.prog 82:=by
 rintro args H nx Post ⟨r,x,rfl,rfl,rfl,h⟩
 exact QC Qp Qq Q5 Qb QJ (L6 r x h)
abbrev cTk:CallT:=Qe 82 (Z6 JC) Q9
theorem Ob[Syms]:cTk.ok Try.prog:=Qc JT Qb
theorem BX(b:List UInt8)(e:Int):asI (((List.map (AVal.renL (rho [0] 1)) [[vB b,AVal.int IntKind.i64 e]]).getD 0 []).getD 1 AVal.any)=e:=rfl
theorem Ec(b:List UInt8)(n i:Nat):(b.drop n).getD i 0=b.getD (n+i) 0:=by
 rw[List.getD_eq_getElem?_getD,List.getD_eq_getElem?_getD,List.getElem?_drop]
theorem IU(b:List UInt8)(n:Nat):AVal.vt 1 (b.length-n) (fun i=>XS (b.getD (n+i) 0))=vB (b.drop n):=by
 show AVal.vt 1 (b.length-n) _=AVal.vt 1 (b.drop n).length (fun i=>XS ((b.drop n).getD i 0))
 rw[List.length_drop]
 congr 1
 funext i
 rw[Ec]
theorem EN{b:List UInt8}{n:Nat}(h:n≤b.length):ZM n (fun i=>XS (b.getD (0+i) 0))=ZM (b.take n).length (fun i=>XS ((b.take n).getD i 0)):=by
 rw[Yz XS 0 (b.take n)]
 apply List.ext_getElem?
 intro i
 unfold ZM
 by_cases hi:i<n
 ·have:i<b.length:=by omega
  simp[hi,this,List.getElem?_take]
 ·simp[hi,List.getElem?_take]
theorem CM[Syms]{ι:Inj}{sz n m:Nat}{f g:Nat→List AVal}{v:Value}(h:ZM n f=ZM m g)(hv:RelV ι (.vt sz n f) v):RelV ι (.vt sz m g) v:=by
 cases hv with
 |vt _ _ _ _ hv=>exact .vt _ _ _ _ (h▸hv)
theorem JX[Syms]{N:Nat}{b:List UInt8}{n k nx:Nat}{e:Env}{H:Heap}(h:n≤b.length)(hn:Zm 1 nx [0]=true)(hk:e.get k= .vt 1 n (fun i=>XS (b.getD (0+i) 0)))
 (hb:H.get 0=some (.cells [[.vt 1 (b.length-n) (fun i=>XS (b.getD (n+i) 0)),.int .i64 0]] false)):Reb 1 N ⟨e,H,nx⟩ ⟨[(k,vB (b.take n))],[(0,rdB ⟨b.drop n,0⟩)],1⟩:=by
 rw[IU]at hb
 refine(Xs (k:=k) (y:=vB (b.take n)) fun ι v hv=>?_).trans (Q0 [0] hn ⟨?_,trivial⟩ ⟨⟨Nat.zero_lt_one,_,hb,.refl _⟩,trivial⟩)
 ·rw[hk]at hv;exact CM (EN h) hv
 ·rw[Env.get_cons,Nat.beq_refl];exact .refl _
theorem WG[Syms]{N:Nat}{r:BR}{k nx:Nat}{e:Env}{H:Heap}(hn:Zm 1 nx [0]=true)(hk:e.get k= .nils)(hb:H.get 0=rdB r):Reb 1 N ⟨e,H,nx⟩ ⟨[(k,vB [])],[(0,rdB r)],1⟩:=by
 refine(Xs (k:=k) (y:=vB []) fun ι v hv=>?_).trans (Q0 [0] hn ⟨?_,trivial⟩ ⟨⟨Nat.zero_lt_one,_,hb,.refl _⟩,trivial⟩)
 ·rw[hk]at hv;exact .vt _ _ _ _ (RelV.isZ (sz:=1) rfl hv)
 ·rw[Env.get_cons,Nat.beq_refl];exact .refl _
theorem L3[Syms]{Post:AVal→Heap→Nat→Prop}(r:BR)(n:Nat)(hl:r.b.length≤1000000)(hn:n≤1000000000)(hP:Post (vB (Z4 n r).1) [(0,rdB (Z4 n r).2)] 1):
 fnT Q9 cTk (QN fns) (Qz tys) (QV plt) 100 98 [.ptr 0 0 0,.int .i64 n] [(0,rdB r)] 1 Post:=by
 obtain⟨b,e⟩:=r
 have hl:b.length≤1000000:=hl
 unfold Z4 at hP
 by_cases h1:b.length<n
 ·simp only[if_pos h1]at hP
  by_cases h0:e=0
  ·subst h0
   have hP:Post (vB []) [(0,rdB ⟨b,8⟩)] 1:=hP
   have hx1:QT ⟨b,0⟩ 8=⟨b,8⟩:=rfl
   have hx2:¬(8:Int)=0:=by decide
   have hx3:=BX b 8
   have hx4:=hx2
   repeat' first|refine And.intro ?_ ?_|(intro h;try first|exact dz|replace h:=cv)
   all_goals try exact cz
   refine⟨[0],[.ptr 0 0 0,.int .i64 8],[(0,rdB ⟨b,0⟩)],rfl,⟨.refl _,.refl _,trivial⟩,⟨⟨by decide,_,rfl,.refl _⟩,trivial⟩,⟨b,0⟩,8,rfl,rfl,rfl,?_⟩
   rw[hx1,show rdB ⟨b,8⟩=some (.cells [[vB b,.int .i64 8]] false) from rfl]
   repeat' first|refine And.intro ?_ ?_|(intro h;try first|exact dzi|replace h:=cvi)
   all_goals try exact cz
   exact⟨_,WG (k:=4) (by first|rfl|kernel_rfl) rfl rfl,_,rfl,hP⟩
  ·have hf:QT ⟨b,e⟩ 8=⟨b,e⟩:=if_neg h0
   rw[hf,if_pos h0]at hP
   repeat' first|refine And.intro ?_ ?_|(intro h;try first|exact dz|replace h:=cv)
   all_goals try exact cz
   refine⟨[0],[.ptr 0 0 0,.int .i64 8],[(0,rdB ⟨b,e⟩)],rfl,⟨.refl _,.refl _,trivial⟩,⟨⟨by decide,_,rfl,.refl _⟩,trivial⟩,⟨b,e⟩,8,rfl,rfl,rfl,?_⟩
   rw[hf,show rdB ⟨b,e⟩=some (.cells [[vB b,.int .i64 e]] false) from rfl]
   have hx1:=BX b e
   have hx2:=hx1
   have hx3:=hx1
   have hx4:=hx1
   repeat' first|refine And.intro ?_ ?_|(intro h;try first|exact dzi|replace h:=cvi)
   all_goals try exact cz
   exact⟨_,WG (k:=4) (by first|rfl|kernel_rfl) rfl rfl,_,rfl,hP⟩
 ·simp only[if_neg h1]at hP
  by_cases h0:e=0
  ·subst h0
   have hP:Post (vB (b.take n)) [(0,rdB ⟨b.drop n,0⟩)] 1:=hP
   repeat' first|refine And.intro ?_ ?_|(intro h;try first|exact dz|replace h:=cv)
   all_goals try exact cz
   exact⟨_,JX (k:=4) (b:=b) (n:=n) (by omega) (by first|rfl|kernel_rfl) rfl rfl,_,rfl,hP⟩
  ·rw[if_pos h0]at hP
   repeat' first|refine And.intro ?_ ?_|(intro h;try first|exact dz|replace h:=cv)
   all_goals try exact cz
   exact⟨_,WG (k:=4) (by first|rfl|kernel_rfl) rfl rfl,_,rfl,hP⟩
def JB:SpecT:=fun args H nx Post=>∃(r:BR) (n:Nat),args=[.ptr 0 0 0,.int .i64 n]∧H=[(0,rdB r)]∧nx=1∧(r.b.length≤1000000∧n≤1000000000)∧Post (vB (Z4 n r).1) [(0,rdB (Z4 n r).2)] 1
theorem JR[Syms]:JB.ok Try.prog 98:=by
 rintro args H nx Post ⟨r,n,rfl,rfl,rfl,⟨h1,h2⟩,h⟩
 exact QC Qp Qq Q5 Ob QJ (L3 r n h1 h2 h)
end
end Go.Proofs.Ytajieadpaeggcaa
