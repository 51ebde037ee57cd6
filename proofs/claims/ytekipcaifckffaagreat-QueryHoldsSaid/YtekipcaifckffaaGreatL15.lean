/-
  Two values compared. The document's. May it be asked? The document's. May all of it be asked? The document's. May it be so;is a record as asked? The document's. Is a record as asked? The document's (Holds). The document's 'Check'. Plain. The program's 'Check' and the document's answer the same. Plain. Shapes as text:words,and what they say. Plain.
-/
import Derived.Test.YtekipcaifckffaaGreatL11
import Derived.Test.YtekipcaifckffaaGreatL5
import Derived.Test.YtekipcaifckffaaGreatSxOne
import Derived.Test.YtekipcaifckffaaGreatL12
import Derived.Test.YtekipcaifckffaaGreatL13
import Derived.Test.YtekipcaifckffaaGreatL14
import Derived.Test.YtekipcaifckffaaGreatL9
set_option linter.unusedVariables false
set_option linter.unusedSimpArgs false
namespace Go.Proofs.YtekipcaifckffaaGreat
open Go Go.Av
section
set_option maxRecDepth 100000
set_option maxHeartbeats 4000000
theorem OY[Syms]{N k2 k3 n0 n1 nx:Nat}{es:Env}{e:Env}{H:Heap}{ra rb ra' rb':List AVal}(hk:k3≠k2)(h2:e.get k2= .ptr n0 0 0)(h3:e.get k3= .ptr n1 0 0)(hne:n1≠n0)(H0:H.get n0=some (.cells [ra'] false))(H1:H.get n1=some (.cells [rb'] false))(ha:Mw ra' ra)(hb:Mw rb' rb)(fa:∀x∈ra',x.flat=true)(fb:∀x∈rb',x.flat=true)(e1:FzE n0 [ra'] e es)(e2:FzE n1 [rb'] ((k2,.vp ra 0)::(k3,.ptr n1 0 0)::es) es):Reb 0 N ⟨e,H,nx⟩ ⟨(k2,.vp ra 0)::(k3,.vp rb 0)::es,[],nx⟩:=by
 have r1:Reb 0 N ⟨e,H,nx⟩ ⟨(k2,.vp ra 0)::(k3,.ptr n1 0 0)::es,[(n1,some (.cells [rb'] false))],nx⟩:=by
  refine QV (n:=n0) (rows:=[ra']) H0 (Yg fa QY) ⟨?_,?_,e1⟩ ⟨⟨hne,_,H1,.same _⟩,trivial⟩
  ·rw[h2];exact .pt 0 0 ra' ra rfl ha
  ·rw[h3];exact .same _
 refine r1.trans (QV (n:=n1) (rows:=[rb']) ?_ (Yg fb QY) ⟨?_,?_,e2⟩ trivial)
 ·rw[Heap.get_cons,Nat.beq_refl];rfl
 ·rw[Env.get_cons,Nat.beq_refl];exact .same _
 ·rw[Env.get_cons,QE hk,Env.get_cons,Nat.beq_refl];exact .pt 0 0 rb' rb rfl hb
theorem RD{n:Nat}(h:n≤9223372036854775807):wr .i64 (n:Int)=n:=wrI ⟨by omega,by omega⟩
theorem hv0:∀v,(ZT v).getD 0 .any= .int .i64 v.n:=fun _=>rfl
theorem hv1:∀v,(ZT v).getD 1 .any= .str v.s:=fun _=>rfl
theorem CG:∀v,(ZT v).getD (0+1) .any= .str v.s:=fun _=>rfl
theorem CH:∀v,(ZT v).getD (0+0) .any= .int .i64 v.n:=fun _=>rfl
theorem I0(x:UInt8)(a b:List UInt8):VS (x::a) (x::b)=VS a b:=by
 have h1:Op.bytesLess (x::a) (x::b)=Op.bytesLess a b:=by
  rw[Op.bytesLess]
  simp
 have h2:eqb (x::a) (x::b)=eqb a b:=by rw[eqb,Nat.beq_refl,Bool.true_and]
 unfold VS
 rw[h1,h2]
theorem O6{x y:UInt8}(a b:List UInt8)(h:x≠y):VS (x::a) (y::b)=VR (x.toNat:Nat) (y.toNat:Nat):=by
 have hn:x.toNat≠y.toNat:=fun k=>h (UInt8.toNat_inj.1 k)
 have h2:eqb (x::a) (y::b)=false:=by
  rw[eqb]
  cases hb:Nat.beq x.toNat y.toNat
  ·rfl
  ·exact absurd (Nat.eq_of_beq_eq_true hb) hn
 have h1:Op.bytesLess (x::a) (y::b)=decide (x.toNat<y.toNat):=by
  rw[Op.bytesLess]
  have:(x == y)=false:=by simp[h]
  rw[this,Bool.false_and,Bool.or_false]
  exact decide_eq_decide.2 UInt8.lt_iff_toNat_lt
 unfold VS VR
 rw[h1,h2]
 by_cases hl:x.toNat<y.toNat
 ·rw[if_pos (decide_eq_true hl),if_pos (by omega)]
 ·rw[if_neg (by simp[hl]),if_neg (by simp[hl]),if_neg (by omega),if_pos (by omega)]
theorem LL(a b:List UInt8)(h:a=[]∨b=[]):VS a b=VR (a.length:Nat) (b.length:Nat):=by
 cases a with
 |nil=>
  cases b with
  |nil=>rfl
  |cons y b=>
   unfold VS VR
   rw[show Op.bytesLess [] (y::b)=true from rfl,if_pos rfl,if_pos (by simp<;>omega)]
 |cons x a=>
  cases b with
  |nil=>
   unfold VS VR
   rw[show Op.bytesLess (x::a) []=false from by simp[Op.bytesLess],show eqb (x::a) []=false from rfl,if_neg (by simp),if_neg (by simp),if_neg (by simp<;>omega),if_pos (by simp<;>omega)]
  |cons y b=>rcases h with h|h<;>cases h
theorem LK(a b c:Int):VR (a+c) (b+c)=VR a b:=by
 unfold VR
 by_cases h1:a<b
 ·rw[if_pos h1,if_pos (by omega)]
 ·rw[if_neg h1,if_neg (by omega)]
  by_cases h2:b<a
  ·rw[if_pos h2,if_pos (by omega)]
  ·rw[if_neg h2,if_neg (by omega)]
theorem HZ{a b:List UInt8}{i:Nat}(h:i<a.length)(k:i<b.length):VS (a.drop i) (b.drop i)=if a.getD i 0=b.getD i 0 then VS (a.drop (i+1)) (b.drop (i+1))else VR ((a.getD i 0).toNat:Nat) ((b.getD i 0).toNat:Nat):=by
 have e1:a.drop i=a.getD i 0::a.drop (i+1):=by rw[List.drop_eq_getElem_cons h];simp[h]
 have e2:b.drop i=b.getD i 0::b.drop (i+1):=by rw[List.drop_eq_getElem_cons k];simp[k]
 rw[e1,e2]
 by_cases hc:a.getD i 0=b.getD i 0
 ·rw[if_pos hc,hc,I0]
 ·rw[if_neg hc,O6 _ _ hc]
theorem Fu{a b:List UInt8}{i:Nat}(hi:i≤a.length)(hk:i≤b.length)(h:¬(i<a.length∧i<b.length)):VS (a.drop i) (b.drop i)=VR (a.length:Nat) (b.length:Nat):=by
 rw[LL _ _ (by
  by_cases h1:i<a.length
  ·right;exact List.drop_eq_nil_of_le (by omega)
  ·left;exact List.drop_eq_nil_of_le (by omega)),List.length_drop,List.length_drop]
 have:=LK ((a.length-i:Nat):Int) ((b.length-i:Nat):Int) (i:Nat)
 rw[←this]
 congr 1<;>omega
theorem P7[Syms](a b:Int):fnT Qi Qi (QK fns) (QH tys) (QW plt) 100 136 [.int .i64 a,.int .i64 b] [] 0 (fun v H _=>v= .int .i64 (VR a b)∧H=[]):=by
 unfold VR
 by_cases h1:a<b
 ·rw[if_pos h1]
  repeat' first|refine And.intro ?_ ?_|(intro h;try first|exact dz|replace h:=cv)
  all_goals try exact cz
  all_goals exact⟨_,Q5 [4] rfl,_,rfl,rfl,rfl⟩
 ·rw[if_neg h1]
  by_cases h2:b<a
  ·rw[if_pos h2]
   repeat' first|refine And.intro ?_ ?_|(intro h;try first|exact dz|replace h:=cv)
   all_goals try exact cz
   all_goals exact⟨_,Q5 [4] rfl,_,rfl,rfl,rfl⟩
  ·rw[if_neg h2]
   repeat' first|refine And.intro ?_ ?_|(intro h;try first|exact dz|replace h:=cv)
   all_goals try exact cz
   all_goals exact⟨_,Q5 [4] rfl,_,rfl,rfl,rfl⟩
def S_rord:SpecI:=fun args K=>∃a b,args=[.int .i64 a,.int .i64 b]∧K (.int .i64 (VR a b))
theorem Eu[Syms]:Z5 Tryz.prog 136 S_rord:=by
 rintro args K ⟨a,b,rfl,hk⟩
 exact⟨rfl,_,rfl,hk,fnI Qu Qs Qd Qh QJ (P7 a b)⟩
abbrev Og:CallT:=Qm 136 (Zd S_rord) Qi
theorem Oe[Syms]:Og.ok Tryz.prog:=Q6 Eu Qh
theorem Oh[Syms]:Og.det Tryz.prog:=Zk Eu Qd
noncomputable def SI:Nat→Nat→Pl:=Xx [(91,0)] (QW plt)
def rcC(k:Int)(a b:Vl):St:=⟨[(4,.vp (ZT a) 0),(5,.vp (ZT b) 0),(0,.int .i64 k)],[],2⟩
def rcI(k:Int)(a b:Vl)(i:Nat):St:=⟨[(4,.vp (ZT a) 0),(5,.vp (ZT b) 0),(0,.int .i64 k),(7,.int .i64 i)],[],0⟩
theorem P8[Syms](k:Int)(a b:Vl)(ha:a.s.length≤1000000)(hb:b.s.length≤1000000):fnT Og Og (QK fns) (QH tys) SI 100 91 [.int .i64 k,.agg (ZT a),.agg (ZT b)] [] 0 (fun v H _=>v= .int .i64 (Mf k a b)∧H=[]):=by
 have hx1:=hv0
 have hx2:=hv1
 have hx3:=CG
 have hx4:=CH
 repeat' first|refine And.intro ?_ ?_|(intro h;try first|exact dzi|replace h:=cvi)
 all_goals try exact cz
 refine⟨rcC k a b,OY (ra':=ZT a) (rb':=ZT b) (n0:=0) (n1:=1) (by decide) rfl rfl (by decide) rfl rfl ⟨.same _,.same _,trivial⟩ ⟨.same _,.same _,trivial⟩ (fV a) (fV b) ⟨.same _,trivial⟩ ⟨.same _,trivial⟩,?_⟩
 unfold Mf
 by_cases hk:k=4
 ·rw[if_pos hk]
  repeat' first|refine And.intro ?_ ?_|(intro h;try first|exact dzi|replace h:=cvi)
  all_goals try exact cz
  refine⟨fun m s=>∃i:Nat,(i≤a.s.length∧i≤b.s.length∧m=a.s.length-i∧VS a.s b.s=VS (a.s.drop i) (b.s.drop i))∧s=rcI k a b i,⟨_,rcI k a b 0,Q1 [] (by exact rfl) ⟨.refl _,.refl _,.refl _,.refl _,trivial⟩ trivial,0,⟨by omega,by omega,rfl,rfl⟩,rfl⟩,?_⟩
  rintro m s ⟨i,⟨hi,hj,rfl,hc⟩,rfl⟩
  by_cases h1:i<a.s.length
  ·by_cases h2:i<b.s.length
   ·have hd:=HZ h1 h2
    have ba:((i:Nat):Int).toNat<a.s.length:=by omega
    have bb:((i:Nat):Int).toNat<b.s.length:=by omega
    by_cases he:a.s.getD i 0=b.s.getD i 0
    ·rw[if_pos he]at hd
     have hen:((a.s.getD i 0).toNat:Int)=(b.s.getD i 0).toNat:=by rw[he]
     repeat' first|refine And.intro ?_ ?_|(intro h;try first|exact dzi|replace h:=cvi)
     all_goals try exact cz
     all_goals(try((with_reducible first|show(_:Int)≤_|show(_:Int)<_);(try simp only[sg,hv0,hv1,CG,CH]);omega))
     all_goals(try((with_reducible show(_:Nat)<_);first|exact ba|exact bb))
     all_goals exact⟨_,rcI k a b (i+1),Q1 [] (by exact rfl) ⟨.refl _,.refl _,.refl _,Q8 (by omega),trivial⟩ trivial,⟨i+1,⟨by omega,by omega,rfl,by rw[hc,hd]⟩,rfl⟩,by omega⟩
    ·rw[if_neg he]at hd
     have hen:¬((a.s.getD i 0).toNat:Int)=(b.s.getD i 0).toNat:=fun h=>he (UInt8.toNat_inj.1 (by omega))
     have w1:wr .i64 (((a.s.getD i 0).toNat:Nat):Int)=((a.s.getD i 0).toNat:Nat):=RD (by have:=(a.s.getD i 0).toNat_lt;omega)
     have w2:wr .i64 (((b.s.getD i 0).toNat:Nat):Int)=((b.s.getD i 0).toNat:Nat):=RD (by have:=(b.s.getD i 0).toNat_lt;omega)
     repeat' first|refine And.intro ?_ ?_|(intro h;try first|exact dzi|replace h:=cvi)
     all_goals try exact cz
     all_goals(try((with_reducible first|show(_:Int)≤_|show(_:Int)<_);(try simp only[sg,hv0,hv1,CG,CH]);omega))
     all_goals(try((with_reducible show(_:Nat)<_);first|exact ba|exact bb))
     all_goals refine⟨_,_,rfl,?_⟩
     repeat' first|refine And.intro ?_ ?_|(intro h;try first|exact dzi|replace h:=cvi)
     all_goals try exact cz
     all_goals(try((with_reducible first|show(_:Int)≤_|show(_:Int)<_);(try simp only[sg,hv0,hv1,CG,CH]);omega))
     all_goals exact⟨_,Q5 [6] rfl,_,rfl,by rw[hc,hd,←w1,←w2];rfl,rfl⟩
   ·rw[hc,Fu hi hj (fun h=>h2 h.2)]
    repeat' first|refine And.intro ?_ ?_|(intro h;try first|exact dzi|replace h:=cvi)
    all_goals try exact cz
    all_goals(try((with_reducible first|show(_:Int)≤_|show(_:Int)<_);(try simp only[sg,hv0,hv1,CG,CH]);omega))
    all_goals exact⟨_,_,rfl,_,Q5 [6] rfl,_,rfl,rfl,rfl⟩
  ·rw[hc,Fu hi hj (fun h=>h1 h.1)]
   repeat' first|refine And.intro ?_ ?_|(intro h;try first|exact dzi|replace h:=cvi)
   all_goals try exact cz
   all_goals(try((with_reducible first|show(_:Int)≤_|show(_:Int)<_);(try simp only[sg,hv0,hv1,CG,CH]);omega))
   all_goals exact⟨_,_,rfl,_,Q5 [6] rfl,_,rfl,rfl,rfl⟩
 ·rw[if_neg hk]
  repeat' first|refine And.intro ?_ ?_|(intro h;try first|exact dzi|replace h:=cvi)
  all_goals try exact cz
  all_goals(try((with_reducible first|show(_:Int)≤_|show(_:Int)<_);(try simp only[sg,hv0,hv1,CG,CH]);omega))
  all_goals exact⟨_,_,rfl,_,Q5 [6] rfl,_,rfl,rfl,rfl⟩
def S_rcmp:SpecI:=fun args K=>∃k a b,args=[.int .i64 k,.agg (ZT a),.agg (ZT b)]∧(a.s.length≤1000000∧b.s.length≤1000000)∧K (.int .i64 (Mf k a b))
theorem EA[Syms]:Z5 Tryz.prog 91 S_rcmp:=by
 rintro args K ⟨k,a,b,rfl,⟨h1,h2⟩,hk⟩
 exact⟨rfl,_,rfl,hk,fnI Qu Qs Oh Oe QJ (P8 k a b h1 h2)⟩
end
section
set_option maxRecDepth 100000
set_option maxHeartbeats 4000000
theorem Ih(x:Int):-2147483648≤wr .i32 x∧wr .i32 x≤2147483647:=by
 unfold wr
 split
 ·rename_i h
  exact⟨h.1,h.2⟩
 ·show(-2147483648:Int)≤(if(true&&decide (x%(2^32:Int)≥(2^31:Int)))=true then x%(2^32:Int)-(2^32:Int)else x%(2^32:Int))∧(if(true&&decide (x%(2^32:Int)≥(2^31:Int)))=true then x%(2^32:Int)-(2^32:Int)else x%(2^32:Int))≤(2147483647:Int)
  split
  ·rename_i h;simp at h;omega
  ·rename_i h;simp at h;omega
noncomputable def SF:Nat→Nat→Pl:=Xx [(53,0)] (QW plt)
theorem P4[Syms](k n:Int)(s:List UInt8)(h1:1≤k)(h4:k≤4)(hs:s.length≤9223372036854775807):
 fnT Qi Qi (QK fns) (QH tys) SF 100 53 [.int .i64 k,.agg [.int .i64 n,.str s]] [] 0 (fun v H _=>v= .bool (ZX k n s)∧H=[]):=by
 refine⟨⟨[(0,.int .i64 k),(3,.ptr 0 0 0),(4,.bool false)],[(0,some (.cells [[.int .i64 n,.str s]] false))],1⟩,Q1 [0] (by exact rfl) ⟨.refl _,.refl _,.refl _,trivial⟩ ⟨⟨by decide,_,rfl,.refl _⟩,trivial⟩,?_⟩
 have hE:ZX k n s=decide (ZM k n s=0):=rfl
 unfold ZM at hE
 have hx2:(0:Int)=0:=rfl
 have hx3:(0:Int)=0:=rfl
 have hx4:(0:Int)=0:=rfl
 by_cases k4:k=4
 ·subst k4
  have hx1:(0:Int)=0:=rfl
  by_cases n0:n=0
  ·subst n0
   rw[if_neg (by simp),if_neg (by decide),if_neg (by decide)]at hE
   by_cases hl:s.length≤100
   ·rw[if_pos hl,if_neg (by decide)]at hE
    rw[hE]
    repeat' first|refine And.intro ?_ ?_|(intro h;try first|exact dzi|replace h:=cvi)
    all_goals try exact cz
    refine⟨_,Q5 [4] rfl,_,rfl,congrArg AVal.bool ?_,rfl⟩
    exact decide_eq_true (show(s.length:Int)≤100 by omega)
   ·rw[if_neg hl]at hE
    rw[hE]
    repeat' first|refine And.intro ?_ ?_|(intro h;try first|exact dzi|replace h:=cvi)
    all_goals try exact cz
    refine⟨_,Q5 [4] rfl,_,rfl,congrArg AVal.bool ?_,rfl⟩
    exact decide_eq_false (show ¬(s.length:Int)≤100 by omega)
  ·rw[if_pos (.inl ⟨rfl,n0⟩)]at hE
   rw[hE]
   repeat' first|refine And.intro ?_ ?_|(intro h;try first|exact dzi|replace h:=cvi)
   all_goals try exact cz
   refine⟨_,Q5 [4] rfl,_,rfl,congrArg AVal.bool ?_,rfl⟩
   rfl
 ·by_cases s0:s=[]
  ·subst s0
   have hx1:eqb [] []=true:=rfl
   rw[if_neg (by simp[k4])]at hE
   by_cases k3:k=3
   ·rw[if_pos k3]at hE
    rw[hE]
    repeat' first|refine And.intro ?_ ?_|(intro h;try first|exact dzi|replace h:=cvi)
    all_goals try exact cz
    refine⟨_,Q5 [4] rfl,_,rfl,congrArg AVal.bool ?_,rfl⟩
    rfl
   ·rw[if_neg k3]at hE
    by_cases k2:k=2
    ·rw[if_pos k2]at hE
     obtain⟨w1,w2⟩:=Ih n
     by_cases hn:n< -2147483648∨2147483647<n
     ·rw[if_pos hn]at hE
      have hw:¬n=wr .i32 n:=by omega
      rw[hE]
      repeat' first|refine And.intro ?_ ?_|(intro h;try first|exact dzi|replace h:=cvi)
      all_goals try exact cz
      refine⟨_,Q5 [4] rfl,_,rfl,congrArg AVal.bool ?_,rfl⟩
      show decide (n=wr .i64 (wr .i32 n))=false
      rw[OU];exact decide_eq_false hw
     ·rw[if_neg hn]at hE
      have hw:n=wr .i32 n:=(if_pos ⟨show(-2147483648:Int)≤n by omega,show n≤(2147483647:Int) by omega⟩:wr .i32 n=n).symm
      rw[hE]
      repeat' first|refine And.intro ?_ ?_|(intro h;try first|exact dzi|replace h:=cvi)
      all_goals try exact cz
      refine⟨_,Q5 [4] rfl,_,rfl,congrArg AVal.bool ?_,rfl⟩
      show decide (n=wr .i64 (wr .i32 n))=true
      rw[OU];exact decide_eq_true hw
    ·obtain rfl:k=1:=by omega
     rw[if_neg k2,if_pos (show([]:List UInt8).length≤100 by decide),if_pos rfl]at hE
     by_cases hn:n<0∨1<n
     ·rw[if_pos hn]at hE
      rw[hE]
      repeat' first|refine And.intro ?_ ?_|(intro h;try first|exact dzi|replace h:=cvi)
      all_goals try exact cz
      all_goals exact⟨_,Q5 [4] rfl,_,rfl,rfl,rfl⟩
     ·rw[if_neg hn]at hE
      rw[hE]
      repeat' first|refine And.intro ?_ ?_|(intro h;try first|exact dzi|replace h:=cvi)
      all_goals try exact cz
      refine⟨_,Q5 [4] rfl,_,rfl,congrArg AVal.bool ?_,rfl⟩
      rfl
  ·rw[if_pos (.inr ⟨k4,s0⟩)]at hE
   have hx1:=ET s0
   rw[hE]
   repeat' first|refine And.intro ?_ ?_|(intro h;try first|exact dzi|replace h:=cvi)
   all_goals try exact cz
   refine⟨_,Q5 [4] rfl,_,rfl,congrArg AVal.bool ?_,rfl⟩
   rfl
def S_rval:SpecI:=fun args K=>∃(k n:Int) (s:List UInt8),args=[.int .i64 k,.agg [.int .i64 n,.str s]]∧(1≤k∧k≤4∧s.length≤9223372036854775807)∧K (.bool (ZX k n s))
theorem Eq[Syms]:Z5 Tryz.prog 53 S_rval:=by
 rintro args K ⟨k,n,s,rfl,⟨h1,h2,h3⟩,hk⟩
 exact⟨rfl,_,rfl,hk,fnI Qu Qs Qd Qh QJ (P4 k n s h1 h2 h3)⟩
abbrev cRf:CallT:=Qm 19 (Zd S_path) Qi
theorem R4[Syms]:cRf.ok Tryz.prog:=Q6 Gx Qh
def rfS(fs:List Fd)(p:List UInt8)(k:Nat):St:=⟨[(0,vF fs),(1,vL (Q3 fs)),(2,.str p),(7,.int .i64 k)],[],0⟩
theorem Ny[Syms](fs:List Fd)(p:List UInt8)(hF:FsOk fs):
 fnT Qi cRf (QK fns) (QH tys) (QW plt) 100 52 [vF fs,vL (Q3 fs),.str p] [] 0 (fun v H _=>v= .int .i64 (Xp fs p)∧H=[]):=by
 have hl:=hF.len
 have hle:(Q3 fs).length≤fs.length:=Zb _ _ _
 repeat' first|refine And.intro ?_ ?_|(intro h;try first|exact dz|replace h:=cv)
 all_goals try exact cz
 refine⟨fun m s=>∃k:Nat,(k≤(Q3 fs).length∧m=(Q3 fs).length-k∧ixP fs p ((Q3 fs).length-k)=Xp fs p)∧s=rfS fs p k,⟨_,rfS fs p 0,Q5 [0,1,2,7] rfl,0,⟨by omega,rfl,rfl⟩,rfl⟩,?_⟩
 rintro m s ⟨k,⟨hk,rfl,hf⟩,rfl⟩
 unfold rfS
 by_cases hin:k<(Q3 fs).length
 ·rw[EN hin]at hf
  by_cases hp:X7 fs k=p
  ·rw[if_pos hp]at hf
   have hx1:eqb (X7 fs k) p=true:=(Yi _ _).trans (decide_eq_true hp)
   rw[←hf]
   repeat' first|refine And.intro ?_ ?_|(intro h;try first|exact dzh|replace h:=cvh)
   all_goals try exact cz
   refine⟨fs,((Q3 fs).getD k default).field,rfl,hF,?_⟩
   repeat' first|refine And.intro ?_ ?_|(intro h;try first|exact dzh|replace h:=cvh)
   all_goals try exact cz
   exact⟨_,Q5 [6] rfl,_,rfl,rfl,rfl⟩
  ·rw[if_neg hp]at hf
   have hx1:eqb (X7 fs k) p=false:=(Yi _ _).trans (decide_eq_false hp)
   repeat' first|refine And.intro ?_ ?_|(intro h;try first|exact dzh|replace h:=cvh)
   all_goals try exact cz
   refine⟨fs,((Q3 fs).getD k default).field,rfl,hF,?_⟩
   repeat' first|refine And.intro ?_ ?_|(intro h;try first|exact dzh|replace h:=cvh)
   all_goals try exact cz
   exact⟨_,rfS fs p (k+1),Q5 [0,1,2,7] rfl,⟨k+1,⟨by omega,rfl,hf⟩,rfl⟩,by omega⟩
 ·rw[show(Q3 fs).length-k=0 by omega]at hf
  rw[←hf]
  repeat' first|refine And.intro ?_ ?_|(intro h;try first|exact dz|replace h:=cv)
  all_goals try exact cz
  exact⟨_,Q5 [6] rfl,_,rfl,rfl,rfl⟩
def S_rfind:SpecI:=fun args K=>∃(fs:List Fd) (p:List UInt8),args=[vF fs,vL (Q3 fs),.str p]∧FsOk fs∧K (.int .i64 (Xp fs p))
theorem B0[Syms]:Z5 Tryz.prog 52 S_rfind:=by
 rintro args K ⟨fs,p,rfl,h1,hk⟩
 exact⟨rfl,_,rfl,hk,fnI Qu Qs Qd R4 QJ (Ny fs p h1)⟩
end
section
set_option maxRecDepth 100000
set_option maxHeartbeats 4000000
def Na(fs:List Fd):Prop:=∀k,k<(Q3 fs).length→1≤((Q3 fs).getD k default).kind∧((Q3 fs).getD k default).kind≤4
abbrev Ob:CallT:=Qm 53 (Zd S_rval) Qi
theorem LQ[Syms]:Ob.det Tryz.prog:=Zk Eq Qd
theorem Oa[Syms]:Ob.ok Tryz.prog:=Q6 Eq Qh
abbrev cRk:CallT:=Qm 18 (Zd S_leaves) (Qm 52 (Zd S_rfind) Ob)
theorem R2[Syms]:cRk.ok Tryz.prog:=Q6 UD (Q6 B0 Oa)
def rkS(fs:List Fd)(cs:List Cd)(i:Nat):St:=⟨[(0,vF fs),(1,vC cs),(5,vL (Q3 fs)),(6,.int .i64 i)],[],0⟩
theorem IJ[Syms](fs:List Fd)(cs:List Cd)(hF:FsOk fs)(hK:Na fs)(hc:cs.length≤1000)(hs:∀i,(cs.getD i default).v.s.length≤9223372036854775807):
 fnT Ob cRk (QK fns) (QH tys) (QW plt) 100 23 [vF fs,vC cs] [] 0 (fun v H _=>v= .int .i64 (Z0 fs cs)∧H=[]):=by
 have hl:=hF.len
 have hle:(Q3 fs).length≤fs.length:=Zb _ _ _
 by_cases h8:8<cs.length
 ·have hE:Z0 fs cs=4:=if_pos h8
  rw[hE]
  repeat' first|refine And.intro ?_ ?_|(intro h;try first|exact dz|replace h:=cv)
  all_goals try exact cz
  exact⟨_,Q5 [4] rfl,_,rfl,rfl,rfl⟩
 ·have hE:Z0 fs cs=Xc fs cs:=if_neg h8
  repeat' first|refine And.intro ?_ ?_|(intro h;try first|exact dz|replace h:=cv)
  all_goals try exact cz
  refine⟨fs,rfl,hF,?_⟩
  repeat' first|refine And.intro ?_ ?_|(intro h;try first|exact dz|replace h:=cv)
  all_goals try exact cz
  refine⟨fun m s=>∃i:Nat,(i≤cs.length∧m=cs.length-i∧Xc fs (cs.drop i)=Xc fs cs)∧s=rkS fs cs i,⟨_,rkS fs cs 0,Q5 [0,1,5,6] rfl,0,⟨by omega,rfl,rfl⟩,rfl⟩,?_⟩
  rintro m s ⟨i,⟨hi,rfl,hv⟩,rfl⟩
  unfold rkS
  by_cases h1:i<cs.length
  ·have hd:cs.drop i=cs.getD i default::cs.drop (i+1):=by
    rw[List.drop_eq_getElem_cons h1,List.getD_eq_getElem?_getD,List.getElem?_eq_getElem h1];rfl
   rw[hd,Xc]at hv
   have hs1:=hs i
   have hx1:∀c,(encC c).getD 1 .any= .int .i64 c.op:=fun _=>rfl
   have hx2:∀c,(encC c).getD (0+1) .any= .int .i64 c.op:=fun _=>rfl
   have hx3:(0:Int)=0:=rfl
   have hx4:(0:Int)=0:=rfl
   obtain⟨c,hcd⟩:∃c,cs.getD i default=c:=⟨_,rfl⟩
   by_cases hn:Xp fs (cs.getD i default).path<0
   ·have hw:Zj fs (cs.getD i default)=2:=if_pos hn
    rw[if_neg (by rw[hw];decide)]at hv
    have hE2:Z0 fs cs=2:=by rw[hE,←hv,hw]
    rw[hE2]
    repeat' first|refine And.intro ?_ ?_|(intro h;try first|exact dzi|replace h:=cvi)
    all_goals try exact cz
    refine⟨fs,(cs.getD i default).path,rfl,hF,?_⟩
    repeat' first|refine And.intro ?_ ?_|(intro h;try first|exact dzi|replace h:=cvi)
    all_goals try exact cz
    exact⟨_,Q5 [4] rfl,_,rfl,rfl,rfl⟩
   ·obtain⟨k,hk,hkf,hp⟩:=Wg (Int.not_lt.1 hn)
    obtain⟨kd1,kd2⟩:=hK k hk
    have hlf:Xk fs (cs.getD i default)=(Q3 fs).getD k default:=by unfold Xk;rw[hkf];rfl
    by_cases hbad:0<((Q3 fs).getD k default).r∨(cs.getD i default).op<0∨5<(cs.getD i default).op∨((cs.getD i default).op≠5∧ZX ((Q3 fs).getD k default).kind (cs.getD i default).v.n (cs.getD i default).v.s=false)
    ·have hw:Zj fs (cs.getD i default)=3:=by unfold Zj;rw[if_neg hn,hlf,if_pos hbad]
     rw[if_neg (by rw[hw];decide)]at hv
     have hE2:Z0 fs cs=3:=by rw[hE,←hv,hw]
     rw[hE2]
     by_cases b1:0<((Q3 fs).getD k default).r
     · repeat' first|refine And.intro ?_ ?_|(intro h;try first|exact dzi|replace h:=cvi)
       all_goals try exact cz
       refine⟨fs,(cs.getD i default).path,rfl,hF,?_⟩
       rw[hkf]
       repeat' first|refine And.intro ?_ ?_|(intro h;try first|exact dzi|replace h:=cvi)
       all_goals try exact cz
       exact⟨_,Q5 [4] rfl,_,rfl,rfl,rfl⟩
     ·by_cases b2:(cs.getD i default).op<0
      · repeat' first|refine And.intro ?_ ?_|(intro h;try first|exact dzi|replace h:=cvi)
        all_goals try exact cz
        refine⟨fs,(cs.getD i default).path,rfl,hF,?_⟩
        rw[hkf]
        repeat' first|refine And.intro ?_ ?_|(intro h;try first|exact dzi|replace h:=cvi)
        all_goals try exact cz
        exact⟨_,Q5 [4] rfl,_,rfl,rfl,rfl⟩
      ·by_cases b3:5<(cs.getD i default).op
       · repeat' first|refine And.intro ?_ ?_|(intro h;try first|exact dzi|replace h:=cvi)
         all_goals try exact cz
         refine⟨fs,(cs.getD i default).path,rfl,hF,?_⟩
         rw[hkf]
         repeat' first|refine And.intro ?_ ?_|(intro h;try first|exact dzi|replace h:=cvi)
         all_goals try exact cz
         exact⟨_,Q5 [4] rfl,_,rfl,rfl,rfl⟩
       ·obtain⟨b4,b5⟩:=hbad.resolve_left b1 |>.resolve_left b2 |>.resolve_left b3
        repeat' first|refine And.intro ?_ ?_|(intro h;try first|exact dzi|replace h:=cvi)
        all_goals try exact cz
        refine⟨fs,(cs.getD i default).path,rfl,hF,?_⟩
        rw[hkf]
        repeat' first|refine And.intro ?_ ?_|(intro h;try first|exact dzi|replace h:=cvi)
        all_goals try exact cz
        refine⟨((Q3 fs).getD k default).kind,(cs.getD i default).v.n,(cs.getD i default).v.s,rfl,⟨kd1,kd2,hs1⟩,?_⟩
        rw[b5]
        repeat' first|refine And.intro ?_ ?_|(intro h;try first|exact dzi|replace h:=cvi)
        all_goals try exact cz
        exact⟨_,Q5 [4] rfl,_,rfl,rfl,rfl⟩
    ·have hw:Zj fs (cs.getD i default)=0:=by unfold Zj;rw[if_neg hn,hlf,if_neg hbad]
     rw[if_pos hw]at hv
     have b1:¬0<((Q3 fs).getD k default).r:=fun h=>hbad (.inl h)
     have b2:¬(cs.getD i default).op<0:=fun h=>hbad (.inr (.inl h))
     have b3:¬5<(cs.getD i default).op:=fun h=>hbad (.inr (.inr (.inl h)))
     by_cases b4:(cs.getD i default).op=5
     · repeat' first|refine And.intro ?_ ?_|(intro h;try first|exact dzi|replace h:=cvi)
       all_goals try exact cz
       refine⟨fs,(cs.getD i default).path,rfl,hF,?_⟩
       rw[hkf]
       repeat' first|refine And.intro ?_ ?_|(intro h;try first|exact dzi|replace h:=cvi)
       all_goals try exact cz
       exact⟨_,rkS fs cs (i+1),Q5 [0,1,5,6] rfl,⟨i+1,⟨by omega,rfl,hv⟩,rfl⟩,by omega⟩
     ·have b5:ZX ((Q3 fs).getD k default).kind (cs.getD i default).v.n (cs.getD i default).v.s=true:=by
       cases h:ZX ((Q3 fs).getD k default).kind (cs.getD i default).v.n (cs.getD i default).v.s with
       |true=>rfl
       |false=>exact absurd (.inr (.inr (.inr ⟨b4,h⟩))) hbad
      repeat' first|refine And.intro ?_ ?_|(intro h;try first|exact dzi|replace h:=cvi)
      all_goals try exact cz
      refine⟨fs,(cs.getD i default).path,rfl,hF,?_⟩
      rw[hkf]
      repeat' first|refine And.intro ?_ ?_|(intro h;try first|exact dzi|replace h:=cvi)
      all_goals try exact cz
      refine⟨((Q3 fs).getD k default).kind,(cs.getD i default).v.n,(cs.getD i default).v.s,rfl,⟨kd1,kd2,hs1⟩,?_⟩
      rw[b5]
      repeat' first|refine And.intro ?_ ?_|(intro h;try first|exact dzi|replace h:=cvi)
      all_goals try exact cz
      exact⟨_,rkS fs cs (i+1),Q5 [0,1,5,6] rfl,⟨i+1,⟨by omega,rfl,hv⟩,rfl⟩,by omega⟩
  ·obtain rfl:i=cs.length:=by omega
   rw[List.drop_length,Xc]at hv
   rw[hE,←hv]
   repeat' first|refine And.intro ?_ ?_|(intro h;try first|exact dz|replace h:=cv)
   all_goals try exact cz
   exact⟨_,Q5 [4] rfl,_,rfl,rfl,rfl⟩
def S_rcheck:SpecI:=fun args K=>∃(fs:List Fd) (cs:List Cd),args=[vF fs,vC cs]∧(FsOk fs∧Na fs∧cs.length≤1000∧ ∀i,(cs.getD i default).v.s.length≤9223372036854775807)∧K (.int .i64 (Z0 fs cs))
theorem Hp[Syms]:Z5 Tryz.prog 23 S_rcheck:=by
 rintro args K ⟨fs,cs,rfl,⟨h1,h2,h3,h4⟩,hk⟩
 exact⟨rfl,_,rfl,hk,fnI Qu Qs LQ R2 QJ (IJ fs cs h1 h2 h3 h4)⟩
end
section
set_option maxRecDepth 100000
set_option maxHeartbeats 4000000
def J4(ha:Bool)(nu kind op:Int)(v w:Vl):Bool:=if op=5 then decide (0<nu)else if ha=false then false else opB op (Mf kind v w)
abbrev IC(nu:Int)(ha:Bool)(v:Vl):List AVal:=[.int .i64 nu,.bool ha,.int .i64 v.n,.str v.s,.int .i64 v.n,.str v.s]
abbrev cMy:CallT:=Qm 91 (Zd S_rcmp) Qi
theorem Oj[Syms]:cMy.det Tryz.prog:=Zk EA Qd
theorem R7[Syms]:cMy.ok Tryz.prog:=Q6 EA Qh
noncomputable def SK:Nat→Nat→Pl:=Xx [(55,0)] (QW plt)
theorem S2[Syms](ha:Bool)(nu kind op:Int)(v w:Vl)(h0:0≤op)(h5:op≤5)(hv:v.s.length≤1000000)(hw:op≠5→w.s.length≤1000000):
 fnT cMy cMy (QK fns) (QH tys) SK 100 55 [.int .i64 kind,.agg (IC nu ha v),.int .i64 op,.agg (ZT w)] [] 0 (fun u H _=>u= .bool (J4 ha nu kind op v w)∧H=[]):=by
 refine⟨⟨[(0,.int .i64 kind),(2,.int .i64 op),(5,.ptr 0 0 0),(7,.ptr 2 0 0),(8,.bool false)],[(0,some (.cells [IC nu ha v] false)),(2,some (.cells [[.int .i64 w.n,.str w.s]] false))],3⟩,?_,?_⟩
 ·exact(ZB (nx':=5) (by omega)).trans (Q1 [0,3,1] (by exact rfl) ⟨.refl _,.refl _,.refl _,.refl _,.refl _,trivial⟩ ⟨⟨by decide,_,rfl,.refl _⟩,⟨by decide,_,rfl,.refl _⟩,trivial⟩)
 have hM:J4 ha nu kind op v w=J4 ha nu kind op v w:=rfl
 conv at hM=>rhs;unfold J4
 by_cases h:op=5
 ·rw[if_pos h]at hM
  rw[hM]
  repeat' first|refine And.intro ?_ ?_|(intro h;try first|exact dz|replace h:=cv)
  all_goals try exact cz
  exact⟨_,Q5 [8] rfl,_,rfl,rfl,rfl⟩
 ·rw[if_neg h]at hM
  cases ha with
  |false=>
   rw[if_pos rfl]at hM
   rw[hM]
   repeat' first|refine And.intro ?_ ?_|(intro h;try first|exact dz|replace h:=cv)
   all_goals try exact cz
   refine⟨kind,v,w,rfl,⟨hv,hw h⟩,?_⟩
   repeat' first|refine And.intro ?_ ?_|(intro h;try first|exact dz|replace h:=cv)
   all_goals try exact cz
   refine⟨kind,v,w,rfl,⟨hv,hw h⟩,?_⟩
   repeat' first|refine And.intro ?_ ?_|(intro h;try first|exact dz|replace h:=cv)
   all_goals try exact cz
   exact⟨_,Q5 [8] rfl,_,rfl,rfl,rfl⟩
  |true=>
   rw[if_neg (by simp)]at hM
   rw[hM]
   repeat' first|refine And.intro ?_ ?_|(intro h;try first|exact dz|replace h:=cv)
   all_goals try exact cz
   refine⟨kind,v,w,rfl,⟨hv,hw h⟩,?_⟩
   repeat' first|refine And.intro ?_ ?_|(intro h;try first|exact dz|replace h:=cv)
   all_goals try exact cz
   refine⟨kind,v,w,rfl,⟨hv,hw h⟩,?_⟩
   unfold opB
   generalize Mf kind v w=k
   repeat' first|refine And.intro ?_ ?_|(intro h;try first|exact dz|replace h:=cv)
   all_goals try exact cz
   ·exact⟨_,Q5 [8] rfl,_,rfl,congrArg AVal.bool (by rw[if_pos ‹op=0›]),rfl⟩
   ·exact⟨_,Q5 [8] rfl,_,rfl,congrArg AVal.bool (by rw[if_neg ‹¬op=0›,if_pos ‹op=1›]),rfl⟩
   ·exact⟨_,Q5 [8] rfl,_,rfl,congrArg AVal.bool (a₁:=decide (k≥0)) (by rw[if_neg ‹¬op=0›,if_neg ‹¬op=1›,if_pos ‹op=2›];simp only[decide_eq_decide];omega),rfl⟩
   ·exact⟨_,Q5 [8] rfl,_,rfl,congrArg AVal.bool (a₁:=false) (by rw[if_neg ‹¬op=0›,if_neg ‹¬op=1›,if_pos ‹op=2›];exact(decide_eq_false (by omega)).symm),rfl⟩
   ·exact⟨_,Q5 [8] rfl,_,rfl,congrArg AVal.bool (by rw[if_neg ‹¬op=0›,if_neg ‹¬op=1›,if_neg ‹¬op=2›,if_pos ‹op=3›]),rfl⟩
   ·exact⟨_,Q5 [8] rfl,_,rfl,congrArg AVal.bool (by rw[if_neg ‹¬op=0›,if_neg ‹¬op=1›,if_neg ‹¬op=2›,if_neg ‹¬op=3›]),rfl⟩
def S_may:SpecI:=fun args K=>∃(ha:Bool) (nu kind op:Int) (v w:Vl),args=[.int .i64 kind,.agg (IC nu ha v),.int .i64 op,.agg (ZT w)]∧(0≤op∧op≤5∧v.s.length≤1000000∧(op≠5→w.s.length≤1000000))∧K (.bool (J4 ha nu kind op v w))
theorem L5[Syms]:Z5 Tryz.prog 55 S_may:=by
 rintro args K ⟨ha,nu,kind,op,v,w,rfl,⟨h1,h2,h3,h4⟩,hk⟩
 exact⟨rfl,_,rfl,hk,fnI Qu Qs Oj R7 QJ (S2 ha nu kind op v w h1 h2 h3 h4)⟩
def KV(fs:List Fd)(t:Tr)(c:Cd):Bool:=J4 (Zh (Q0 fs) t (Xk fs c).field.toNat).2 (if(Zh (Q0 fs) t (Xk fs c).field.toNat).2=false then 1 else 0) (Xk fs c).kind c.op ⟨(Zh (Q0 fs) t (Xk fs c).field.toNat).1.num,(Zh (Q0 fs) t (Xk fs c).field.toNat).1.txt⟩ c.v
def Vs(fs:List Fd)(t:Tr):List Cd→Bool
 |[]=>true
 |c::l=>if KV fs t c=true then Vs fs t l else false
structure AkOk(fs:List Fd)(c:Cd):Prop where
 lo:0≤c.op
 hi:c.op≤5
 find:0≤Xp fs c.path
 text:c.op≠5→c.v.s.length≤1000000
 flo:0≤(Xk fs c).field
 fhi:(Xk fs c).field<fs.length
abbrev Od:CallT:=Qm 55 (Zd S_may) Qi
theorem LR[Syms]:Od.det Tryz.prog:=Zk L5 Qd
theorem Oc[Syms]:Od.ok Tryz.prog:=Q6 L5 Qh
abbrev cRh:CallT:=Qm 18 (Zd S_leaves) (Qm 16 (Zd S_par) (Qm 52 (Zd S_rfind) (Qm 54 (Zd (DG 1000)) Od)))
theorem R3[Syms]:cRh.ok Tryz.prog:=Q6 UD (Q6 FO (Q6 B0 (Un (Gy 1000) Oc)))
noncomputable def SH:Nat→Nat→Pl:=Xx [(24,0),(24,6),(24,7),(24,8)] (QW plt)
def rhS(fs:List Fd)(t:Tr)(cs:List Cd)(i:Nat):St:=⟨[(0,vF fs),(2,vC cs),(4,.ptr 0 0 0),(7,vL (Q3 fs)),(8,vI (Q0 fs)),(9,.int .i64 i)],[(0,some (.cells [Qw t] false))],1⟩
theorem Nx[Syms](fs:List Fd)(t:Tr)(cs:List Cd)(hF:FsOk fs)(hT:LfOk fs t)(hc:cs.length≤1000)(ha:∀i,i<cs.length→AkOk fs (cs.getD i default)):
 fnT Od cRh (QK fns) (QH tys) SH 100 24 [vF fs,.agg (Qw t),vC cs] [] 0 (fun v H _=>v= .bool (Vs fs t cs)∧H=[]):=by
 have hl:=hF.len
 have hpl:(Q0 fs).length=fs.length:=by rw[Q0,List.length_map,Z7]
 refine⟨⟨[(0,vF fs),(2,vC cs),(4,.ptr 0 0 0),(6,.bool false)],[(0,some (.cells [Qw t] false))],1⟩,Q1 [0] (by exact rfl) ⟨.refl _,.refl _,.refl _,.refl _,trivial⟩ ⟨⟨by decide,_,rfl,.refl _⟩,trivial⟩,?_⟩
 repeat' first|refine And.intro ?_ ?_|(intro h;try first|exact dz|replace h:=cv)
 all_goals try exact cz
 refine⟨fs,rfl,hF,?_⟩
 repeat' first|refine And.intro ?_ ?_|(intro h;try first|exact dz|replace h:=cv)
 all_goals try exact cz
 refine⟨fs,rfl,hF,?_⟩
 repeat' first|refine And.intro ?_ ?_|(intro h;try first|exact dz|replace h:=cv)
 all_goals try exact cz
 refine⟨fun m s=>∃i:Nat,(i≤cs.length∧m=cs.length-i∧Vs fs t (cs.drop i)=Vs fs t cs)∧s=rhS fs t cs i,⟨_,rhS fs t cs 0,Q1 [0] (by exact rfl) ⟨.refl _,.refl _,.refl _,.refl _,.refl _,.refl _,trivial⟩ ⟨⟨by decide,_,rfl,.refl _⟩,trivial⟩,0,⟨by omega,rfl,rfl⟩,rfl⟩,?_⟩
 rintro m s ⟨i,⟨hi,rfl,hv⟩,rfl⟩
 unfold rhS
 by_cases h1:i<cs.length
 ·have hd:cs.drop i=cs.getD i default::cs.drop (i+1):=by
   rw[List.drop_eq_getElem_cons h1,List.getD_eq_getElem?_getD,List.getElem?_eq_getElem h1];rfl
  rw[hd,Vs]at hv
  have hak:=ha i h1
  obtain⟨k,hk,hkf,_⟩:=Wg hak.find
  repeat' first|refine And.intro ?_ ?_|(intro h;try first|exact dz|replace h:=cv)
  all_goals try exact cz
  refine⟨fs,(cs.getD i default).path,rfl,hF,?_⟩
  repeat' first|refine And.intro ?_ ?_|(intro h;try first|exact dz|replace h:=cv)
  all_goals try exact cz
  refine⟨⟨[(0,vF fs),(2,vC cs),(4,.ptr 0 0 0),(7,vL (Q3 fs)),(8,vI (Q0 fs)),(9,.int .i64 i),(10,.ptr 2 0 0)],[(0,some (.cells [Qw t] false)),(2,some (.cells [QT (Xk fs (cs.getD i default))] false))],3⟩,?_,?_⟩
  ·exact(ZB (nx':=5) (by omega)).trans (Q1 [0,3,1] (by exact rfl) ⟨.refl _,.refl _,.refl _,.refl _,.refl _,.refl _,.refl _,trivial⟩ ⟨⟨by decide,_,rfl,.refl _⟩,⟨by decide,_,rfl,.refl _⟩,trivial⟩)
  repeat' first|refine And.intro ?_ ?_|(intro h;try first|exact dz|replace h:=cv)
  all_goals try exact cz
  refine⟨fs,t,(Xk fs (cs.getD i default)).field,rfl,⟨hT,hak.flo,hak.fhi,by have:=hak.fhi;omega⟩,?_⟩
  have hr:KV fs t (cs.getD i default)=J4 (Zh (Q0 fs) t (Xk fs (cs.getD i default)).field.toNat).2 (if(Zh (Q0 fs) t (Xk fs (cs.getD i default)).field.toNat).2=false then 1 else 0) (Xk fs (cs.getD i default)).kind (cs.getD i default).op ⟨(Zh (Q0 fs) t (Xk fs (cs.getD i default)).field.toNat).1.num,(Zh (Q0 fs) t (Xk fs (cs.getD i default)).field.toNat).1.txt⟩ (cs.getD i default).v:=rfl
  have htx:=hT.txt (Xk fs (cs.getD i default)).field.toNat (by have:=hak.fhi;have:=hak.flo;omega)
  generalize Zh (Q0 fs) t (Xk fs (cs.getD i default)).field.toNat=q at *
  generalize hlf:Xk fs (cs.getD i default)=lf at *
  obtain⟨u,is⟩:=q
  dsimp only at hr htx ⊢
  repeat' first|refine And.intro ?_ ?_|(intro h;try first|exact dz|replace h:=cv)
  all_goals try exact cz
  all_goals(try exact Nat.le_of_ble_eq_true rfl)
  refine⟨⟨[(0,vF fs),(2,vC cs),(4,.ptr 0 0 0),(7,vL (Q3 fs)),(8,vI (Q0 fs)),(9,.int .i64 i),(10,.ptr 2 0 0),(11,.ptr 4 0 0),(12,.bool is)],[(0,some (.cells [Qw t] false)),(2,some (.cells [QT lf] false)),(4,some (.cells [Qw u] false))],5⟩,?_,?_⟩
  ·exact(ZB (nx':=9) (by omega)).trans (Q1 [0,1,2,5,3] (by exact rfl) ⟨.refl _,.refl _,.refl _,.refl _,.refl _,.refl _,.refl _,.refl _,.refl _,trivial⟩ ⟨⟨by decide,_,rfl,.refl _⟩,⟨by decide,_,rfl,.refl _⟩,⟨by decide,_,rfl,.refl _⟩,trivial⟩)
  repeat' first|refine And.intro ?_ ?_|(intro h;try first|exact dz|replace h:=cv)
  all_goals try exact cz
  all_goals(try exact Nat.le_of_ble_eq_true rfl)
  refine⟨⟨[(0,vF fs),(2,vC cs),(4,.ptr 0 0 0),(7,vL (Q3 fs)),(8,vI (Q0 fs)),(9,.int .i64 i),(10,.ptr 2 0 0),(12,.bool is),(13,.ptr 4 0 0)],[(0,some (.cells [Qw t] false)),(2,some (.cells [QT lf] false)),(4,some (.cells [IC 0 is ⟨u.num,u.txt⟩] false))],5⟩,?_,?_⟩
  ·exact Q1 [0,1,2,3,5] (by exact rfl) ⟨.refl _,.refl _,.refl _,.refl _,.refl _,.refl _,.refl _,.refl _,.refl _,trivial⟩ ⟨⟨by decide,_,rfl,.refl _⟩,⟨by decide,_,rfl,.refl _⟩,⟨by decide,.cells [IC 0 is ⟨u.num,u.txt⟩] false,rfl,.refl _⟩,trivial⟩
  cases is with
  |false=>
   have hr2:KV fs t (cs.getD i default)=J4 false 1 lf.kind (cs.getD i default).op ⟨u.num,u.txt⟩ (cs.getD i default).v:=hr
   clear hr
   repeat' first|refine And.intro ?_ ?_|(intro h;try first|exact dz|replace h:=cv)
   all_goals try exact cz
   all_goals(try exact Nat.le_of_ble_eq_true rfl)
   cases hm:J4 false 1 lf.kind (cs.getD i default).op ⟨u.num,u.txt⟩ (cs.getD i default).v with
   |false=>
    rw[hm]at hr2
    rw[if_neg (by rw[hr2];simp)]at hv
    rw[←hv]
    refine⟨false,1,lf.kind,(cs.getD i default).op,⟨u.num,u.txt⟩,(cs.getD i default).v,rfl,⟨hak.lo,hak.hi,htx,hak.text⟩,?_⟩
    rw[hm]
    repeat' first|refine And.intro ?_ ?_|(intro h;try first|exact dz|replace h:=cv)
    all_goals try exact cz
    exact⟨_,Q5 [6] rfl,_,rfl,rfl,rfl⟩
   |true=>
    rw[hm]at hr2
    rw[if_pos hr2]at hv
    refine⟨false,1,lf.kind,(cs.getD i default).op,⟨u.num,u.txt⟩,(cs.getD i default).v,rfl,⟨hak.lo,hak.hi,htx,hak.text⟩,?_⟩
    rw[hm]
    repeat' first|refine And.intro ?_ ?_|(intro h;try first|exact dz|replace h:=cv)
    all_goals try exact cz
    refine⟨_,rhS fs t cs (i+1),?_,⟨i+1,⟨by omega,rfl,hv⟩,rfl⟩,by omega⟩
    unfold rhS
    exact Q1 [0] (by exact rfl) ⟨.refl _,.refl _,.refl _,.refl _,.refl _,Q8 (by first|rfl|omega),trivial⟩ ⟨⟨by decide,_,rfl,.refl _⟩,trivial⟩
  |true=>
   have hr2:KV fs t (cs.getD i default)=J4 true 0 lf.kind (cs.getD i default).op ⟨u.num,u.txt⟩ (cs.getD i default).v:=hr
   clear hr
   repeat' first|refine And.intro ?_ ?_|(intro h;try first|exact dz|replace h:=cv)
   all_goals try exact cz
   all_goals(try exact Nat.le_of_ble_eq_true rfl)
   cases hm:J4 true 0 lf.kind (cs.getD i default).op ⟨u.num,u.txt⟩ (cs.getD i default).v with
   |false=>
    rw[hm]at hr2
    rw[if_neg (by rw[hr2];simp)]at hv
    rw[←hv]
    refine⟨true,0,lf.kind,(cs.getD i default).op,⟨u.num,u.txt⟩,(cs.getD i default).v,rfl,⟨hak.lo,hak.hi,htx,hak.text⟩,?_⟩
    rw[hm]
    repeat' first|refine And.intro ?_ ?_|(intro h;try first|exact dz|replace h:=cv)
    all_goals try exact cz
    exact⟨_,Q5 [6] rfl,_,rfl,rfl,rfl⟩
   |true=>
    rw[hm]at hr2
    rw[if_pos hr2]at hv
    refine⟨true,0,lf.kind,(cs.getD i default).op,⟨u.num,u.txt⟩,(cs.getD i default).v,rfl,⟨hak.lo,hak.hi,htx,hak.text⟩,?_⟩
    rw[hm]
    repeat' first|refine And.intro ?_ ?_|(intro h;try first|exact dz|replace h:=cv)
    all_goals try exact cz
    refine⟨_,rhS fs t cs (i+1),?_,⟨i+1,⟨by omega,rfl,hv⟩,rfl⟩,by omega⟩
    unfold rhS
    exact Q1 [0] (by exact rfl) ⟨.refl _,.refl _,.refl _,.refl _,.refl _,Q8 (by first|rfl|omega),trivial⟩ ⟨⟨by decide,_,rfl,.refl _⟩,trivial⟩
 ·obtain rfl:i=cs.length:=by omega
  rw[List.drop_length,Vs]at hv
  rw[←hv]
  repeat' first|refine And.intro ?_ ?_|(intro h;try first|exact dz|replace h:=cv)
  all_goals try exact cz
  exact⟨_,Q5 [6] rfl,_,rfl,rfl,rfl⟩
end
section
set_option maxRecDepth 100000
set_option maxHeartbeats 4000000
theorem ID[Syms]:Z5 Tryz.prog 24 fun args K=>∃(fs:List Fd) (t:Tr) (cs:List Cd),args=[vF fs,.agg (Qw t),vC cs]∧(FsOk fs∧LfOk fs t∧cs.length≤1000∧ ∀i,i<cs.length→AkOk fs (cs.getD i default))∧K (.bool (Vs fs t cs)):=by
 rintro args K ⟨fs,t,cs,rfl,⟨h1,h2,h3,h4⟩,hk⟩
 exact⟨by rfl,_,rfl,hk,fnI Qu Qs LR R3 QJ (Nx fs t cs h1 h2 h3 h4)⟩
def U4(fs:List Fd)(t:Tr)(cs:List Cd):Bool:=if Z0 fs cs=0 then Vs fs t cs else false
abbrev cRo:CallT:=Qm 23 (Zd S_rcheck) (Qm 24 (Zd fun args K=>∃(fs:List Fd) (t:Tr) (cs:List Cd),args=[vF fs,.agg (Qw t),vC cs]∧(FsOk fs∧LfOk fs t∧cs.length≤1000∧ ∀i,i<cs.length→AkOk fs (cs.getD i default))∧K (.bool (Vs fs t cs))) Qi)
theorem R1[Syms]:cRo.ok Tryz.prog:=Q6 Hp (Q6 ID Qh)
noncomputable def SG:Nat→Nat→Pl:=Xx [(10,0)] (QW plt)
theorem IL[Syms](fs:List Fd)(t:Tr)(cs:List Cd)(hF:FsOk fs)(hK:Na fs)(hT:LfOk fs t)(hc:cs.length≤1000)(hs:∀i,(cs.getD i default).v.s.length≤9223372036854775807)(ha:Z0 fs cs=0→ ∀i,i<cs.length→AkOk fs (cs.getD i default)):
 fnT Qi cRo (QK fns) (QH tys) SG 100 10 [vF fs,.agg (Qw t),vC cs] [] 0 (fun v H _=>v= .tup [.bool (U4 fs t cs),.int .i64 (Z0 fs cs)]∧H=[]):=by
 refine⟨⟨[(0,vF fs),(2,vC cs),(4,.ptr 0 0 0),(6,.bool false),(7,.int .i64 0)],[(0,some (.cells [Qw t] false))],1⟩,Q1 [0] (by exact rfl) ⟨.refl _,.refl _,.refl _,.refl _,.refl _,trivial⟩ ⟨⟨by decide,_,rfl,.refl _⟩,trivial⟩,?_⟩
 repeat' first|refine And.intro ?_ ?_|(intro h;try first|exact dz|replace h:=cv)
 all_goals try exact cz
 refine⟨fs,cs,rfl,⟨hF,hK,hc,hs⟩,?_⟩
 by_cases he:Z0 fs cs=0
 ·have hR:U4 fs t cs=Vs fs t cs:=if_pos he
  rw[hR,he]
  repeat' first|refine And.intro ?_ ?_|(intro h;try first|exact dz|replace h:=cv)
  all_goals try exact cz
  refine⟨fs,t,cs,rfl,⟨hF,hT,hc,ha he⟩,?_⟩
  repeat' first|refine And.intro ?_ ?_|(intro h;try first|exact dz|replace h:=cv)
  all_goals try exact cz
  exact⟨_,Q5 [6,7] rfl,_,rfl,rfl,rfl⟩
 ·have hR:U4 fs t cs=false:=if_neg he
  rw[hR]
  repeat' first|refine And.intro ?_ ?_|(intro h;try first|exact dz|replace h:=cv)
  all_goals try exact cz
  exact⟨_,Q5 [6,7] rfl,_,rfl,rfl,rfl⟩
def S_rholds:SpecI:=fun args K=>∃(fs:List Fd) (t:Tr) (cs:List Cd),args=[vF fs,.agg (Qw t),vC cs]∧(FsOk fs∧Na fs∧LfOk fs t∧cs.length≤1000∧(∀i,(cs.getD i default).v.s.length≤9223372036854775807)∧(Z0 fs cs=0→ ∀i,i<cs.length→AkOk fs (cs.getD i default)))∧K (.tup [.bool (U4 fs t cs),.int .i64 (Z0 fs cs)])
theorem MT[Syms]:Z5 Tryz.prog 10 S_rholds:=by
 rintro args K ⟨fs,t,cs,rfl,⟨h1,h2,h3,h4,h5,h6⟩,hk⟩
 exact⟨by rfl,_,rfl,hk,fnI Qu Qs Qd R1 QJ (IL fs t cs h1 h2 h3 h4 h5 h6)⟩
end
def Sh(fs:List Fd)(i:Nat):Int:=BN fs (Q0 fs) i ((Ww fs).getD i 0)
theorem I2{f:Fd}{i:Nat}{par dep:Int}{nm tw:Bool}(h:O7 f i par dep nm tw=0):(0<i→0≤par)∧dep≤8∧nm=true∧tw=false∧0≤f.rep∧f.rep≤2∧0≤f.kind∧f.kind≤4∧(i=0→f.rep=0∧f.kind=0)∧(f.kind=0→1≤f.kids)∧(f.kind≠0→f.kids=0):=by
 unfold O7 at h
 repeat' split at h
 all_goals first
  |omega
  |(cases nm<;>cases tw<;>simp at * <;>omega)
theorem Ky{fs:List Fd}:∀(n i:Nat),Yt fs i n=0→ ∀j,i≤j→j<i+n→Sh fs j=0
 |0,i,_,j,h1,h2=>by omega
 |n+1,i,h,j,h1,h2=>by
  rw[Yt]at h
  split at h
  ·rename_i hne;exact absurd h hne
  ·rename_i hne
   by_cases hj:j=i
   ·subst hj;exact Decidable.not_not.1 hne
   ·exact Ky n (i+1) h j (by omega) (by omega)
theorem I1{fs:List Fd}{i:Nat}(h:Sh fs i=0):(0<i→0≤(Q0 fs).getD i 0)∧(i=0→(fs.getD i default).rep=0∧(fs.getD i default).kind=0)∧((fs.getD i default).kind=0→1≤(fs.getD i default).kids)∧((fs.getD i default).kind≠0→(fs.getD i default).kids=0):=by
 obtain⟨z1,_,_,_,_,_,_,_,z2,z3,z4⟩:=I2 h
 exact⟨z1,z2,z3,z4⟩
abbrev Wd:=List UInt8
def OK(c:UInt8):Bool:=decide (c.toNat=123)||decide (c.toNat=125)||decide (c.toNat=59)
def OV(w:Wd):Prop:=w≠[]∧((∀c∈w,DX c=true)∨ ∃c,w=[c]∧OK c=true)
def Pq:List Wd:=[[114,101,113,117,105,114,101,100],[111,112,116,105,111,110,97,108],[114,101,112,101,97,116,101,100]]
def NP:List Wd:=[[103,114,111,117,112],[98,111,111,108],[105,110,116,51,50],[105,110,116,54,52],[98,121,116,101,115]]
def S4:Wd:=[109,101,115,115,97,103,101]
def L2(w:Wd):Bool:=match w with
 |[]=>false
 |c::_=>YU c&&decide (w.length≤12)
theorem L1{w:Wd}(h:OV w):L2 w=L3 w:=by
 cases w with
 |nil=>exact absurd rfl h.1
 |cons c t=>
  show(YU c&&decide ((c::t).length≤12))=(decide (1≤(c::t).length)&&decide ((c::t).length≤12)&&YU c&&(c::t).all DX)
  rw[decide_eq_true (show 1≤(c::t).length by simp)]
  rcases h.2 with h|⟨d,hd,hm⟩
  ·rw[List.all_eq_true.2 h]
   cases YU c<;>cases decide ((c::t).length≤12)<;>rfl
  ·cases hd
   have:YU c=false:=by
    cases hl:YU c with
    |false=>rfl
    |true=>
     simp only[YU,OK,Bool.and_eq_true,Bool.or_eq_true,decide_eq_true_eq]at hl hm
     omega
   rw[this];simp
structure PS where
 ws:List Wd
 fs:List Fd
 e:Int
 deriving Inhabited
end Go.Proofs.YtekipcaifckffaaGreat
