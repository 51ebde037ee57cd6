/-
  Is a value one of a kind? The program's (tree.Fits,query.sound). The order of values. The program's. A record's leaf,by its way. The program's.
-/
import Derived.Test.YtekipcaifckffaaGreatL9
import Derived.Test.YtekipcaifckffaaGreatL5
import Derived.Test.YtekipcaifckffaaGreatSxOne
import Derived.Test.YtekipcaifckffaaGreatL8
set_option linter.unusedVariables false
set_option linter.unusedSimpArgs false
namespace Go.Proofs.YtekipcaifckffaaGreat
open Go Go.Av
section
set_option maxRecDepth 100000
set_option maxHeartbeats 4000000
abbrev Db(k:Int):AVal:=.vp [vSq k,.vs 1 [[.vs 1 [[.int .i64 1]]],[.nils]]] 0
abbrev lfA(n:Int)(s:List UInt8):List AVal:=[.int .i64 n,.str s,.vs 1 []]
abbrev cV1:CallT:=Qm 171 (Zd S_leaf8) Qi
theorem O9[Syms]:cV1.det Tryz.prog:=Zk Bp Qd
theorem PX[Syms]:cV1.ok Tryz.prog:=Q6 Bp Qh
theorem Im[Syms](k n:Int)(s:List UInt8)(hk:k≠0)(hs:s.length≤9223372036854775807):
 fnT cV1 cV1 (QK fns) (QH tys) (QW plt) 100 133 [Db k,.int .i64 1,.agg (lfA n s)] [] 0 (fun v H _=>v= .int .i64 (ZM k n s)∧H=[]):=by
 have hx1:asI (((asR (vSq k)).getD (Int.toNat 1) []).getD 2 .any)=k:=rfl
 repeat' first|refine And.intro ?_ ?_|(intro h;try first|exact dzh|replace h:=cvh)
 all_goals try exact cz
 all_goals(try(show(1:Int)<2;decide))
 refine⟨k,n,s,rfl,hs,?_⟩
 repeat' first|refine And.intro ?_ ?_|(intro h;try first|exact dzh|replace h:=cvh)
 all_goals try exact cz
 exact⟨_,Q5 [6] rfl,_,rfl,rfl,rfl⟩
def S_v1:SpecI:=fun args K=>∃(k n:Int) (s:List UInt8),args=[Db k,.int .i64 1,.agg (lfA n s)]∧(k≠0∧s.length≤9223372036854775807)∧K (.int .i64 (ZM k n s))
theorem RH[Syms]:Z5 Tryz.prog 133 S_v1:=by
 rintro args K ⟨k,n,s,rfl,⟨h1,h2⟩,hk⟩
 exact⟨rfl,_,rfl,hk,fnI Qu Qs O9 PX QJ (Im k n s h1 h2)⟩
abbrev cA1:CallT:=Qm 133 (Zd S_v1) Qi
theorem Rm[Syms]:cA1.ok Tryz.prog:=Q6 RH Qh
def alS(k n:Int)(s:List UInt8)(i:Int):St:=⟨[(0,Db k),(1,.int .i64 1),(40,.vs 3 [lfA n s]),(41,.int .i64 1),(42,.int .i64 i)],[],0⟩
theorem Rw[Syms](k n:Int)(s:List UInt8)(hk:k≠0)(hs:s.length≤9223372036854775807):
 fnT Qi cA1 (QK fns) (QH tys) (QW plt) 100 172 [Db k,.int .i64 1,.vs 3 [lfA n s]] [] 0 (fun v H _=>v= .int .i64 (ZM k n s)∧H=[]):=by
 have hx1:asI (((asR (vSq k)).getD (Int.toNat 1) []).getD 1 .any)=0:=rfl
 have hx2:((([lfA n s]).length:Nat):Int)=1:=rfl
 have hx3:(0:Int)=0:=rfl
 have hx4:(0:Int)=0:=rfl
 repeat' first|refine And.intro ?_ ?_|(intro h;try first|exact dzi|replace h:=cvi)
 all_goals try exact cz
 all_goals(try(show(1:Int)<2;decide))
 refine .inl ?_
 repeat' first|refine And.intro ?_ ?_|(intro h;try first|exact dzi|replace h:=cvi)
 all_goals try exact cz
 all_goals(try(show(1:Int)<2;decide))
 refine⟨fun m st=>(m=1∧st=alS k n s 0)∨(m=0∧ZM k n s=0∧st=alS k n s 1),⟨_,alS k n s 0,Q5 [0,1,40,41,42] rfl,.inl ⟨rfl,rfl⟩⟩,?_⟩
 rintro m st (⟨rfl,rfl⟩|⟨rfl,he,rfl⟩)
 ·unfold alS
  by_cases he:ZM k n s=0
  · repeat' first|refine And.intro ?_ ?_|(intro h;try first|exact dzi|replace h:=cvi)
    all_goals try exact cz
    all_goals(try((with_reducible show _=_);exact rfl))
    refine⟨k,n,s,rfl,⟨hk,hs⟩,?_⟩
    rw[he]
    repeat' first|refine And.intro ?_ ?_|(intro h;try first|exact dzi|replace h:=cvi)
    all_goals try exact cz
    refine⟨_,alS k n s 1,Q5 [0,1,40,41,42] rfl,.inr ⟨rfl,rfl,rfl⟩,by omega⟩
  · repeat' first|refine And.intro ?_ ?_|(intro h;try first|exact dzi|replace h:=cvi)
    all_goals try exact cz
    all_goals(try((with_reducible show _=_);exact rfl))
    refine⟨k,n,s,rfl,⟨hk,hs⟩,?_⟩
    repeat' first|refine And.intro ?_ ?_|(intro h;try first|exact dzi|replace h:=cvi)
    all_goals try exact cz
    exact⟨_,Q5 [6] rfl,_,rfl,rfl,rfl⟩
 ·unfold alS
  rw[he]
  repeat' first|refine And.intro ?_ ?_|(intro h;try first|exact dzi|replace h:=cvi)
  all_goals try exact cz
  exact⟨_,Q5 [6] rfl,_,rfl,rfl,rfl⟩
def S_a1:SpecI:=fun args K=>∃(k n:Int) (s:List UInt8),args=[Db k,.int .i64 1,.vs 3 [lfA n s]]∧(k≠0∧s.length≤9223372036854775807)∧K (.int .i64 (ZM k n s))
theorem Sz[Syms]:Z5 Tryz.prog 172 S_a1:=by
 rintro args K ⟨k,n,s,rfl,⟨h1,h2⟩,hk⟩
 exact⟨rfl,_,rfl,hk,fnI Qu Qs Qd Rm QJ (Rw k n s h1 h2)⟩
abbrev cV0:CallT:=Qm 172 (Zd S_a1) Qi
theorem PY[Syms]:cV0.ok Tryz.prog:=Q6 Sz Qh
def v0S(k n:Int)(s:List UInt8)(i:Int):St:=⟨[(0,Db k),(7,.vs 1 [[.int .i64 1]]),(54,.vs 1 [[.vs 3 [lfA n s]]]),(55,.int .i64 1),(56,.int .i64 i)],[],0⟩
noncomputable def SD:Nat→Nat→Pl:=Xx [(133,0)] (QW plt)
theorem In[Syms](k n:Int)(s:List UInt8)(hk:k≠0)(hs:s.length≤9223372036854775807):
 fnT Qi cV0 (QK fns) (QH tys) SD 100 133 [Db k,.int .i64 0,.agg [.int .i64 0,.str [],.vs 1 [[.vs 3 [lfA n s]]]]] [] 0 (fun v H _=>v= .int .i64 (ZM k n s)∧H=[]):=by
 refine⟨⟨[(0,Db k),(1,.int .i64 0),(5,.ptr 0 0 0),(6,.int .i64 0)],[(0,some (.cells [[.int .i64 0,.str [],.vs 1 [[.vs 3 [lfA n s]]]]] false))],1⟩,Q1 [0] (by exact rfl) ⟨.refl _,.refl _,.refl _,.refl _,trivial⟩ ⟨⟨by decide,_,rfl,.refl _⟩,trivial⟩,?_⟩
 have hx1:asI (((asR (vSq k)).getD 0 []).getD 2 .any)=0:=rfl
 have hx2:eqb [] []=true:=rfl
 have hx3:(((asR (((asR (AVal.vs 1 [[AVal.vs 1 [[AVal.int .i64 1]]],[AVal.nils]])).getD 0 []).getD 0 .any)).length:Nat):Int)=1:=rfl
 have hx4:(([[AVal.vs 3 [lfA n s]]].length:Nat):Int)=1:=rfl
 repeat' first|refine And.intro ?_ ?_|(intro h;try first|exact dzi|replace h:=cvi)
 all_goals try exact cz
 all_goals(try(show(0:Int)<2;decide))
 refine⟨fun m st=>(m=1∧st=v0S k n s 0)∨(m=0∧ZM k n s=0∧st=v0S k n s 1),⟨_,v0S k n s 0,Q5 [0,7,54,55,56] rfl,.inl ⟨rfl,rfl⟩⟩,?_⟩
 rintro m st (⟨rfl,rfl⟩|⟨rfl,he,rfl⟩)
 ·unfold v0S
  by_cases he:ZM k n s=0
  · repeat' first|refine And.intro ?_ ?_|(intro h;try first|exact dzi|replace h:=cvi)
    all_goals try exact cz
    all_goals(try(show(0:Int)<1;decide))
    all_goals(try((with_reducible show _=_);exact rfl))
    refine⟨k,n,s,rfl,⟨hk,hs⟩,?_⟩
    rw[he]
    repeat' first|refine And.intro ?_ ?_|(intro h;try first|exact dzi|replace h:=cvi)
    all_goals try exact cz
    refine⟨_,v0S k n s 1,Q5 [0,7,54,55,56] rfl,.inr ⟨rfl,rfl,rfl⟩,by omega⟩
  · repeat' first|refine And.intro ?_ ?_|(intro h;try first|exact dzi|replace h:=cvi)
    all_goals try exact cz
    all_goals(try(show(0:Int)<1;decide))
    all_goals(try((with_reducible show _=_);exact rfl))
    refine⟨k,n,s,rfl,⟨hk,hs⟩,?_⟩
    repeat' first|refine And.intro ?_ ?_|(intro h;try first|exact dzi|replace h:=cvi)
    all_goals try exact cz
    exact⟨_,Q5 [6] rfl,_,rfl,rfl,rfl⟩
 ·unfold v0S
  rw[he]
  repeat' first|refine And.intro ?_ ?_|(intro h;try first|exact dzi|replace h:=cvi)
  all_goals try exact cz
  exact⟨_,Q5 [6] rfl,_,rfl,rfl,rfl⟩
def S_v0:SpecI:=fun args K=>∃(k n:Int) (s:List UInt8),args=[Db k,.int .i64 0,.agg [.int .i64 0,.str [],.vs 1 [[.vs 3 [lfA n s]]]]]∧(k≠0∧s.length≤9223372036854775807)∧K (.int .i64 (ZM k n s))
theorem OG[Syms]:Z5 Tryz.prog 133 S_v0:=by
 rintro args K ⟨k,n,s,rfl,⟨h1,h2⟩,hk⟩
 exact⟨rfl,_,rfl,hk,fnI Qu Qs Qd PY QJ (In k n s h1 h2)⟩
abbrev cFs:CallT:=Qm 132 (Zd S_fits1) (Qm 133 (Zd S_v0) Qi)
theorem On[Syms]:cFs.det Tryz.prog:=Zk Bz (Zk OG Qd)
theorem Rg[Syms]:cFs.ok Tryz.prog:=Q6 Bz (Q6 OG Qh)
noncomputable def SR:Nat→Nat→Pl:=Xx [(87,0)] (QW plt)
abbrev fsH(n:Int)(s:List UInt8):Heap:=[(0,some (.cells [[.slice 1 0 1 3 none]] false)),(1,some (.cells [lfA n s] false))]
theorem flf(n:Int)(s:List UInt8):∀r∈[lfA n s],∀x∈r,x.flat=true:=fun q hq y hy=>by
 simp at hq;subst hq;simp[lfA]at hy;rcases hy with rfl|rfl|rfl<;>rfl
theorem RA[Syms]{Post:AVal→Heap→Nat→Prop}(k n:Int)(s:List UInt8)(hk:k≠0)(hs:s.length≤9223372036854775807)(hP:Post (.int .i64 (ZM k n s)) [] 2):
 fnT cFs cFs (QK fns) (QH tys) SR 100 87 [vSq k,.agg [.int .i64 0,.str [],.slice 0 0 1 1 none]] (fsH n s) 2 Post:=by
 refine⟨⟨[(0,vSq k),(3,.ptr 2 0 0),(4,.int .i64 0)],[(2,some (.cells [[.int .i64 0,.str [],.vs 1 [[.vs 3 [lfA n s]]]]] false))],3⟩,?_,?_⟩
 ·refine Reb.trans (s':=⟨[(0,vSq k),(3,.ptr 2 0 0),(4,.int .i64 0)],[(0,some (.cells [[.slice 1 0 1 3 none]] false)),(1,some (.cells [lfA n s] false)),(2,some (.cells [[.int .i64 0,.str [],.slice 0 0 1 1 none]] false))],3⟩) (Q1 [0,1,2] (by exact rfl) ⟨.refl _,.refl _,.refl _,trivial⟩ ⟨⟨by decide,_,rfl,.refl _⟩,⟨by decide,_,rfl,.refl _⟩,⟨by decide,_,rfl,.refl _⟩,trivial⟩) ?_
  refine Reb.trans (s':=⟨[(0,vSq k),(3,.ptr 2 0 0),(4,.int .i64 0)],[(0,some (.cells [[.vs 3 [lfA n s]]] false)),(2,some (.cells [[.int .i64 0,.str [],.slice 0 0 1 1 none]] false))],3⟩) (QV (n:=1) (rows:=[lfA n s]) rfl (flf n s) ⟨.same _,.same _,.same _,trivial⟩ ⟨⟨by decide,_,rfl,.cells _ _ _ rfl fun k r r' h1 h2=>?_⟩,⟨by decide,_,rfl,.same _⟩,trivial⟩) ?_
  ·rcases k with _|k
   ·cases h1;cases h2
    exact⟨.sl (n:=1) (rows:=[lfA n s]) 0 1 3 none (by decide) (Nat.le_refl 1),trivial⟩
   ·cases h1
  refine QV (n:=0) (rows:=[[.vs 3 [lfA n s]]]) rfl (fun q hq y hy=>by simp at hq;subst hq;simp at hy;subst hy;rfl) ⟨.same _,.same _,.same _,trivial⟩ ⟨⟨by decide,_,rfl,.cells _ _ _ rfl fun k r r' h1 h2=>?_⟩,trivial⟩
  rcases k with _|k
  ·cases h1;cases h2
   exact⟨.same _,.same _,.sl (n:=0) (rows:=[[.vs 3 [lfA n s]]]) 0 1 1 none (by decide) (Nat.le_refl 1),trivial⟩
  ·cases h1
 ·have hx1:(((sqR k).length:Nat):Int)=2:=rfl
  repeat' first|refine And.intro ?_ ?_|(intro h;try first|exact dzh|replace h:=cvh)
  all_goals try exact cz
  refine⟨k,rfl,?_⟩
  repeat' first|refine And.intro ?_ ?_|(intro h;try first|exact dzh|replace h:=cvh)
  all_goals try exact cz
  refine⟨k,n,s,rfl,⟨hk,hs⟩,?_⟩
  repeat' first|refine And.intro ?_ ?_|(intro h;try first|exact dzh|replace h:=cvh)
  all_goals try exact cz
  exact⟨_,Q5 [4] rfl,_,rfl,hP⟩
def N9:SpecT:=fun args H nx Post=>∃(k n:Int) (s:List UInt8),args=[vSq k,.agg [.int .i64 0,.str [],.slice 0 0 1 1 none]]∧H=fsH n s∧nx=2∧(k≠0∧s.length≤9223372036854775807)∧Post (.int .i64 (ZM k n s)) [] 2
theorem Q07[Syms]:N9.ok Tryz.prog 87:=by
 rintro args H nx Post ⟨k,n,s,rfl,rfl,rfl,⟨h1,h2⟩,h⟩
 exact Zw Qu Qs On Rg QJ (RA k n s h1 h2 h)
def ZX(k n:Int)(s:List UInt8):Bool:=decide (ZM k n s=0)
abbrev cSd:CallT:=Qm 87 (Gp N9) Qi
theorem PZ[Syms]:cSd.ok Tryz.prog:=Ye Q07 Qh
noncomputable def SE:Nat→Nat→Pl:=Xx [(49,1)] (QW plt)
theorem Nq[Syms](k n:Int)(s:List UInt8)(hk:k≠0)(hs:s.length≤9223372036854775807):
 fnT Qi cSd (QK fns) (QH tys) SE 100 49 [.int .i64 k,.agg [.int .i64 n,.str s]] [] 0 (fun v H _=>v= .bool (ZX k n s)∧H=[]):=by
 repeat' first|refine And.intro ?_ ?_|(intro h;try first|exact dz|replace h:=cv)
 all_goals try exact cz
 refine⟨⟨[(3,.ptr 0 0 0),(5,vSq k)],[(0,some (.cells [[.int .i64 n,.str s]] false))],2⟩,?_,?_⟩
 ·refine Reb.trans (s':=⟨[(3,.ptr 0 0 0),(5,.slice 1 0 2 4 none)],[(0,some (.cells [[.int .i64 n,.str s]] false)),(1,some (.cells (sqR k) false))],2⟩) (Q1 [0,1] (by exact rfl) ⟨.refl _,.cap _ _ _ _ _,trivial⟩ ⟨⟨by decide,_,rfl,.refl _⟩,⟨by decide,_,rfl,.refl _⟩,trivial⟩) ?_
  exact QV (n:=1) (rows:=sqR k) rfl (fF (sq k)) ⟨.same _,.sl (n:=1) (rows:=sqR k) 0 2 4 none (by decide) (Nat.le_refl 2),trivial⟩ ⟨⟨by decide,_,rfl,.same _⟩,trivial⟩
 ·have hx1:(((sqR k).length:Nat):Int)=2:=rfl
  repeat' first|refine And.intro ?_ ?_|(intro h;try first|exact dzh|replace h:=cvh)
  all_goals try exact cz
  refine⟨[3,2],[vSq k,.agg [.int .i64 0,.str [],.slice 0 0 1 1 none]],fsH n s,rfl,⟨.refl _,?_,trivial⟩,⟨⟨by decide,_,rfl,ZU (row:=[.slice 1 0 1 3 none]) ⟨.cap _ _ _ _ _,trivial⟩⟩,⟨by decide,_,rfl,ZU (row:=lfA n s) ⟨.refl _,.refl _,.zero _ _ rfl,trivial⟩⟩,trivial⟩,k,n,s,rfl,rfl,rfl,⟨hk,hs⟩,?_⟩
  ·exact WkV.aggs ⟨.refl _,.refl _,.cap _ _ _ _ _,trivial⟩
  · repeat' first|refine And.intro ?_ ?_|(intro h;try first|exact dzh|replace h:=cvh)
    all_goals try exact cz
    exact⟨_,Q5 [4] rfl,_,rfl,rfl,rfl⟩
def S_sound:SpecI:=fun args K=>∃(k n:Int) (s:List UInt8),args=[.int .i64 k,.agg [.int .i64 n,.str s]]∧(k≠0∧s.length≤9223372036854775807)∧K (.bool (ZX k n s))
theorem DW[Syms]:Z5 Tryz.prog 49 S_sound:=by
 rintro args K ⟨k,n,s,rfl,⟨h1,h2⟩,hk⟩
 exact⟨rfl,_,rfl,hk,fnI Qu Qs Qd PZ QJ (Nq k n s h1 h2)⟩
end
section
set_option maxRecDepth 100000
set_option maxHeartbeats 4000000
structure Vl where
 n:Int
 s:List UInt8
 deriving Inhabited
def ZT(v:Vl):List AVal:=[.int .i64 v.n,.str v.s]
def VS(a b:List UInt8):Int:=if Op.bytesLess a b=true then -1 else if(Op.bytesLess a b||eqb a b)=true then 0 else 1
def VR(a b:Int):Int:=if a<b then -1 else if b<a then 1 else 0
def Mf(kind:Int)(a b:Vl):Int:=if kind=4 then VS a.s b.s else VR a.n b.n
abbrev bN[Syms]:CallT:=LW Qi Qi (QK fns) (QH tys) (QW plt) 100
abbrev R6[Syms]:CallT:=Qm 173 bN (Qm 174 bN Qi)
theorem OQ[Syms]:bN.ok Tryz.prog:=VX Qu Qs Qd Qh QJ
theorem H8[Syms]:R6.ok Tryz.prog:=WQ OQ (WQ OQ Qh)
theorem M9:∀s:List UInt8,eqb s s=true
 |[]=>rfl
 |a::s=>by rw[eqb,Nat.beq_refl,M9 s];rfl
theorem PT[Syms](a b:List UInt8):fnT Qi R6 (QK fns) (QH tys) (QW plt) 100 134 [.str a,.str b] [] 0 (fun v H _=>v= .int .i64 (VS a b)∧H=[]):=by
 have hx1:=M9 a
 have hx2:=M9 b
 refine⟨_,.refl _ _ _,_,rfl,?_⟩
 refine⟨_,.refl _ _ _,_,rfl,?_⟩
 rw[hx1,hx2]
 unfold VS
 cases hl:Op.bytesLess a b
 ·cases he:eqb a b
  all_goals
   have hx3:=hl
   have hx4:=he
   repeat' first|refine And.intro ?_ ?_|(intro h;try first|exact dzi|replace h:=cvi)
   all_goals try exact cz
  all_goals first|exact⟨_,Q5 [4] rfl,_,rfl,rfl,rfl⟩|(exfalso;simp_all)
 ·have hx3:=hl
  have hx4:=hl
  repeat' first|refine And.intro ?_ ?_|(intro h;try first|exact dzi|replace h:=cvi)
  all_goals try exact cz
  all_goals first|exact⟨_,Q5 [4] rfl,_,rfl,rfl,rfl⟩|(exfalso;simp_all)
def S_cmpS:SpecI:=fun args K=>∃a b,args=[.str a,.str b]∧K (.int .i64 (VS a b))
theorem O4[Syms]:Z5 Tryz.prog 134 S_cmpS:=by
 rintro args K ⟨a,b,rfl,hk⟩
 exact⟨rfl,_,rfl,hk,fnI Qu Qs Qd H8 QJ (PT a b)⟩
theorem PU[Syms](a b:Int):fnT Qi R6 (QK fns) (QH tys) (QW plt) 100 135 [.int .i64 a,.int .i64 b] [] 0 (fun v H _=>v= .int .i64 (VR a b)∧H=[]):=by
 refine⟨_,.refl _ _ _,_,rfl,?_⟩
 refine⟨_,.refl _ _ _,_,rfl,?_⟩
 unfold VR
 by_cases h1:a<b
 ·rw[if_pos h1]
  repeat' first|refine And.intro ?_ ?_|(intro h;try first|exact dz|replace h:=cv)
  all_goals try exact cz
  all_goals exact⟨_,Q5 [4] rfl,_,rfl,rfl,rfl⟩
 ·rw[if_neg h1]
  by_cases h2:b<a
  ·rw[if_pos h2]
   repeat' first|refine And.intro ?_ ?_|(intro h;try first|exact dz|replace h:=cv)
   all_goals try exact cz
   all_goals exact⟨_,Q5 [4] rfl,_,rfl,rfl,rfl⟩
  ·rw[if_neg h2]
   repeat' first|refine And.intro ?_ ?_|(intro h;try first|exact dz|replace h:=cv)
   all_goals try exact cz
   all_goals exact⟨_,Q5 [4] rfl,_,rfl,rfl,rfl⟩
def S_cmpI:SpecI:=fun args K=>∃a b,args=[.int .i64 a,.int .i64 b]∧K (.int .i64 (VR a b))
theorem O5[Syms]:Z5 Tryz.prog 135 S_cmpI:=by
 rintro args K ⟨a,b,rfl,hk⟩
 exact⟨rfl,_,rfl,hk,fnI Qu Qs Qd H8 QJ (PU a b)⟩
abbrev Sm:CallT:=Qm 134 (Zd S_cmpS) (Qm 135 (Zd S_cmpI) Qi)
theorem Q06[Syms]:Sm.ok Tryz.prog:=Q6 O4 (Q6 O5 Qh)
theorem Sg[Syms](k:Int)(a b:Vl):fnT Qi Sm (QK fns) (QH tys) (QW plt) 100 90 [.int .i64 k,.agg (ZT a),.agg (ZT b)] [] 0 (fun v H _=>v= .int .i64 (Mf k a b)∧H=[]):=by
 unfold Mf
 by_cases h4:k=4
 ·rw[if_pos h4]
  repeat' first|refine And.intro ?_ ?_|(intro h;try first|exact dz|replace h:=cv)
  all_goals try exact cz
  refine⟨a.s,b.s,rfl,?_⟩
  exact⟨_,Q5 [6] rfl,_,rfl,rfl,rfl⟩
 ·rw[if_neg h4]
  repeat' first|refine And.intro ?_ ?_|(intro h;try first|exact dz|replace h:=cv)
  all_goals try exact cz
  refine⟨a.n,b.n,rfl,?_⟩
  exact⟨_,Q5 [6] rfl,_,rfl,rfl,rfl⟩
def S_cmp:SpecI:=fun args K=>∃k a b,args=[.int .i64 k,.agg (ZT a),.agg (ZT b)]∧K (.int .i64 (Mf k a b))
theorem PR[Syms]:Z5 Tryz.prog 90 S_cmp:=by
 rintro args K ⟨k,a,b,rfl,hk⟩
 exact⟨rfl,_,rfl,hk,fnI Qu Qs Qd Q06 QJ (Sg k a b)⟩
end
section
set_option maxRecDepth 100000
set_option maxHeartbeats 4000000
def Tr.kids:Tr→List (List Tr)
 | .mk ks _ _=>ks
def Tr.num:Tr→Int
 | .mk _ n _=>n
def Tr.txt:Tr→List UInt8
 | .mk _ _ s=>s
structure Ask where
 at':Int
 leaf:Lf
 way:List Int
 path:List UInt8
 op:Int
 v:Vl
 deriving Inhabited
def encA(x:Ask):List AVal:=.int .i64 x.at'::QT x.leaf++[.vs 1 (x.way.map encI),.str x.path,.int .i64 x.op]++ZT x.v
def Yx:List Int→Tr→Option Tr
 |[],t=>some t
 |k::w,t=>if(t.kids.length:Int)≤k∨t.kids.getD k.toNat []=[]then none else Yx w ((t.kids.getD k.toNat []).getD 0 default)
def Vu(x:Ask)(t:Tr):Vl×Bool:=match Yx x.way t with
 |some u=>(⟨u.num,u.txt⟩,true)
 |none=>(⟨0,[]⟩,false)
def vaS(x:Ask)(i:Nat)(t:Tr):St:=⟨[(2,.ptr 0 0 0),(3,.ptr 1 0 0),(4,.ptr 2 0 0),(5,.bool false),(9,.vs 1 (x.way.map encI)),(10,.int .i64 x.way.length),(11,.int .i64 i)],[(0,some (.cells [encA x] false)),(1,some (.cells [encT t] false)),(2,some (.cells [ZT ⟨0,[]⟩] false))],3⟩
theorem V1(H:Heap):Heap.sub [] H:=fun n b h=>by rw[Heap.get_nil]at h;cases h
theorem Nj[Syms]{Post:AVal→Heap→Nat→Prop}(x:Ask)(t:Tr)(hl:x.way.length≤1000)(hw:∀k,0≤x.way.getD k 0)(hP:Post (.tup [.agg (ZT (Vu x t).1),.bool (Vu x t).2]) [] 1):
 fnT Qi Qi (QK fns) (QH tys) (QW plt) 100 89 [.agg (encA x),.agg (encT t)] [] 0 (FI Post):=by
 have e0:encT t=[.int .i64 t.num,.str t.txt,.vs 1 (t.kids.map fun x=>[.vs 3 (x.map encT)])]:=by cases t;exact QO _ _ _
 rw[e0]
 repeat' first|refine And.intro ?_ ?_|(intro h;try first|exact dz|replace h:=cv)
 all_goals try exact cz
 refine⟨fun m s=>∃(i:Nat) (u:Tr),(i≤x.way.length∧m=x.way.length-i∧Yx (x.way.drop i) u=Yx x.way t)∧s=vaS x i u,⟨_,vaS x 0 t,?_,0,t,⟨by omega,rfl,rfl⟩,rfl⟩,?_⟩
 ·unfold vaS
  rw[e0]
  exact Q1 [0,1,2] (by exact rfl) ⟨.refl _,.refl _,.refl _,.refl _,.refl _,Q8 (by simp),.refl _,trivial⟩ ⟨⟨by decide,_,rfl,.refl _⟩,⟨by decide,_,rfl,.refl _⟩,⟨by decide,_,rfl,.refl _⟩,trivial⟩
 clear e0
 rintro m s ⟨i,u,⟨hi,rfl,hv⟩,rfl⟩
 rcases u with⟨ks,n,s⟩
 unfold vaS
 rw[QO]
 by_cases h1:i<x.way.length
 ·have hd:x.way.drop i=x.way.getD i 0::x.way.drop (i+1):=by
   rw[List.drop_eq_getElem_cons h1,List.getD_eq_getElem?_getD,List.getElem?_eq_getElem h1];rfl
  rw[hd,Yx]at hv
  have hx1:(x.way.map encI).getD i []=encI (x.way.getD i 0):=VB encI 0 h1
  have hk0:=hw i
  generalize x.way.getD i 0=k at *
  have hx2:∀rows,asR (.vs 1 rows)=rows:=fun _=>rfl
  have hx4:∀rows,asR (.vs 3 rows)=rows:=fun _=>rfl
  have hlen:(ks.map fun x=>[AVal.vs 3 (x.map encT)]).length=ks.length:=List.length_map ..
  by_cases hk:(ks.length:Int)≤k
  ·rw[if_pos (.inl hk)]at hv
   have hx3:=hlen
   repeat' first|refine And.intro ?_ ?_|(intro h;try first|exact dzi|replace h:=cvi)
   all_goals try exact cz
   ·rw[show((i:Nat):Int).toNat=i from rfl,hx1];rfl
   ·have hvf:Vu x t=(⟨0,[]⟩,false):=by unfold Vu;rw[←hv]
    exact⟨⟨[(4,.ptr 0 0 0),(5,.bool false)],[(0,some (.cells [ZT ⟨0,[]⟩] false))],1⟩,Q1 [2] (by exact rfl) ⟨.refl _,.refl _,trivial⟩ ⟨⟨by decide,_,rfl,.refl _⟩,trivial⟩,_,rfl,[],V1 _,by rw[hvf]at hP;exact hP⟩
  ·obtain⟨q,rfl⟩:∃q:Nat,k=q:=⟨k.toNat,by omega⟩
   have hq:q<ks.length:=by omega
   rw[Int.toNat_natCast]at hv
   have hrow:(ks.map fun x=>[AVal.vs 3 (x.map encT)]).getD q []=[.vs 3 ((ks.getD q []).map encT)]:=VB (fun x=>[AVal.vs 3 (List.map encT x)]) [] hq
   by_cases hz:ks.getD q []=[]
   ·rw[if_pos (.inr hz)]at hv
    rw[hz]at hrow
    have hx3:=hrow
    repeat' first|refine And.intro ?_ ?_|(intro h;try first|exact dzi|replace h:=cvi)
    all_goals try exact cz
    ·show isC _ _ (((x.way.map encI).getD i []).getD 0 .any)=true
     rw[hx1];rfl
    ·show 0≤asI (((x.way.map encI).getD i []).getD 0 .any)
     rw[hx1];exact hk0
    ·show asI (((x.way.map encI).getD i []).getD 0 .any)<((ks.map fun x=>[AVal.vs 3 (x.map encT)]).length:Int)
     rw[hx1,hlen];show(q:Int)<_;omega
    ·show isC _ _ (((ks.map fun x=>[AVal.vs 3 (x.map encT)]).getD (asI (((x.way.map encI).getD i []).getD 0 .any)).toNat []).getD 0 .any)=true
     rw[hx1]
     show isC _ _ (((ks.map fun x=>[AVal.vs 3 (x.map encT)]).getD q []).getD 0 .any)=true
     rw[hrow];rfl
    ·have hvf:Vu x t=(⟨0,[]⟩,false):=by unfold Vu;rw[←hv]
     exact⟨⟨[(4,.ptr 0 0 0),(5,.bool false)],[(0,some (.cells [ZT ⟨0,[]⟩] false))],1⟩,Q1 [2] (by exact rfl) ⟨.refl _,.refl _,trivial⟩ ⟨⟨by decide,_,rfl,.refl _⟩,trivial⟩,_,rfl,[],V1 _,by rw[hvf]at hP;exact hP⟩
   ·rw[if_neg (by rintro(h|h);exact hk h;exact hz h)]at hv
    obtain⟨l0,lt,hl0⟩:∃l0 lt,ks.getD q []=l0::lt:=by
     cases h:ks.getD q []with
     |nil=>exact absurd h hz
     |cons a b=>exact⟨a,b,rfl⟩
    rw[hl0]at hrow
    rw[show(Tr.mk ks n s).kids=ks from rfl,hl0]at hv
    rcases l0 with⟨k2,n2,s2⟩
    rw[List.map_cons,QO]at hrow
    have hv2:Yx (x.way.drop (i+1)) (.mk k2 n2 s2)=Yx x.way t:=hv
    have hx3:=hrow
    have g1:asI (((x.way.map encI).getD i []).getD 0 .any)=q:=by rw[hx1];rfl
    repeat' first|refine And.intro ?_ ?_|(intro h;try first|exact dzi|replace h:=cvi)
    all_goals try exact cz
    ·show isC _ _ (((x.way.map encI).getD i []).getD 0 .any)=true
     rw[hx1];rfl
    ·show asI (((x.way.map encI).getD i []).getD 0 .any)<((ks.map fun x=>[AVal.vs 3 (x.map encT)]).length:Int)
     rw[g1,hlen];omega
    ·show isC _ _ (((ks.map fun x=>[AVal.vs 3 (x.map encT)]).getD (asI (((x.way.map encI).getD i []).getD 0 .any)).toNat []).getD 0 .any)=true
     rw[g1]
     show isC _ _ (((ks.map fun x=>[AVal.vs 3 (x.map encT)]).getD q []).getD 0 .any)=true
     rw[hrow];rfl
    ·exfalso
     rw[List.length_cons]at h
     omega
    ·show asI (((x.way.map encI).getD i []).getD 0 .any)<((ks.map fun x=>[AVal.vs 3 (x.map encT)]).length:Int)
     rw[g1,hlen];omega
    ·show isC _ _ (((ks.map fun x=>[AVal.vs 3 (x.map encT)]).getD (asI (((x.way.map encI).getD i []).getD 0 .any)).toNat []).getD 0 .any)=true
     rw[g1]
     show isC _ _ (((ks.map fun x=>[AVal.vs 3 (x.map encT)]).getD q []).getD 0 .any)=true
     rw[hrow];rfl
    ·have e5:((asR (([[AVal.int .i64 n,.str s,.vs 1 (ks.map fun x=>[AVal.vs 3 (x.map encT)])]].getD 0 []).getD (0+2) .any)).getD (asI (((x.way.map encI).getD ((i:Nat):Int).toNat []).getD 0 .any)).toNat [])=[.vs 3 ([.int .i64 n2,.str s2,.vs 1 (k2.map fun x=>[AVal.vs 3 (x.map encT)])]::lt.map encT)]:=by
      show(ks.map fun x=>[AVal.vs 3 (x.map encT)]).getD (asI (((x.way.map encI).getD i []).getD 0 .any)).toNat []=_
      rw[g1];exact hrow
     conv=>whnf
     rw[e5]
     repeat' first|refine And.intro ?_ ?_|(intro h;try first|exact dzi|replace h:=cvi)
     all_goals try exact cz
     ·show(0:Int)<((([AVal.int .i64 n2,.str s2,.vs 1 (k2.map fun x=>[AVal.vs 3 (x.map encT)])]::lt.map encT).length:Nat):Int)
      rw[List.length_cons];omega
     · repeat' first|refine And.intro ?_ ?_|(intro h;try first|exact dzi|replace h:=cvi)
       all_goals try exact cz
       refine⟨_,vaS x (i+1) (.mk k2 n2 s2),?_,⟨i+1,.mk k2 n2 s2,⟨by omega,rfl,hv2⟩,rfl⟩,by omega⟩
       unfold vaS
       rw[QO]
       exact Q1 [0,1,2] (by exact rfl) ⟨.refl _,.refl _,.refl _,.refl _,.refl _,.refl _,Q8 (by first|rfl|omega),trivial⟩ ⟨⟨by decide,_,rfl,.refl _⟩,⟨by decide,_,rfl,.refl _⟩,⟨by decide,_,rfl,.refl _⟩,trivial⟩
 ·obtain rfl:i=x.way.length:=by omega
  rw[List.drop_length,Yx]at hv
  have hvf:Vu x t=(⟨n,s⟩,true):=by unfold Vu;rw[←hv];rfl
  repeat' first|refine And.intro ?_ ?_|(intro h;try first|exact dz|replace h:=cv)
  all_goals try exact cz
  exact⟨⟨[(4,.ptr 0 0 0),(5,.bool true)],[(0,some (.cells [ZT ⟨n,s⟩] false))],1⟩,Q1 [2] (by exact rfl) ⟨.refl _,.refl _,trivial⟩ ⟨⟨by decide,_,rfl,.refl _⟩,trivial⟩,_,rfl,[],V1 _,by rw[hvf]at hP;exact hP⟩
def He:SpecT:=fun args H nx Post=>∃(x:Ask) (t:Tr),args=[.agg (encA x),.agg (encT t)]∧H=[]∧nx=0∧(x.way.length≤1000∧ ∀k,0≤x.way.getD k 0)∧Post (.tup [.agg (ZT (Vu x t).1),.bool (Vu x t).2]) [] 1
theorem Il[Syms]:He.ok Tryz.prog 89:=by
 rintro args H nx Post ⟨x,t,rfl,rfl,rfl,⟨h1,h2⟩,h⟩
 exact Xw.forget (Zw Qu Qs Qd Qh QJ (Nj x t h1 h2 h))
end
end Go.Proofs.YtekipcaifckffaaGreat
