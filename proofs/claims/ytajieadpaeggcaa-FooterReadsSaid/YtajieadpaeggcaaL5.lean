/-
  Files' descriptions made of raw numbers. The statements'. Whether two files say the same. The program's. Whether two files say the same,whole. The program's. Are two schemas,two files' descriptions the same? The document's. What a file says of itself,written and read,is the same. Plain. The document's 'Check'. Plain. The program's 'Check' and the document's answer the same. Plain. Shapes as text:words,and what they say. Plain. A shape's text. Plain. What 'Make' makes:trees,laid out. Plain. What 'Make' makes is printed. Plain. What 'Make' makes may be:nothing is wrong with it. Plain. Made descriptions may be written and read. Plain.
-/
import Derived.Test.YtajieadpaeggcaaL4
import Derived.Test.YtajieadpaeggcaaSxOne
import Derived.Test.YtajieadpaeggcaaL2
import Derived.Test.YtajieadpaeggcaaL1
set_option linter.unusedVariables false
set_option linter.unusedSimpArgs false
namespace Go.Proofs.Ytajieadpaeggcaa
open Go Go.Av
section
set_option maxRecDepth 100000
set_option maxHeartbeats 4000000
def ZW{α:Type}(n sz:Nat)(l:List α):AVal:=match l with
 |[]=>.nils
 |a::t=>.slice n 0 (a::t).length sz none
def Y6{α:Type}(enc:α→List AVal)(l:List α):Option Blk:=match l with
 |[]=>none
 |a::t=>some (.cells ((a::t).map enc) false)
theorem Lk{α:Type}(n sz:Nat){l:List α}(h:0<l.length):ZW n sz l= .slice n 0 l.length sz none:=by
 cases l with
 |nil=>cases h
 |cons a t=>rfl
theorem Ll{α:Type}(enc:α→List AVal){l:List α}(h:0<l.length):Y6 enc l=some (.cells (l.map enc) false):=by
 cases l with
 |nil=>cases h
 |cons a t=>rfl
theorem ZC{α:Type}{ρ:Nat→Nat}{n sz:Nat}{l:List α}(h:ρ n=n):WkV (ZW n sz l) ((ZW n sz l).ren ρ):=by
 cases l with
 |nil=>exact .refl _
 |cons a t=>simp only[ZW,AVal.ren,h];exact .refl _
theorem Uc{α:Type}{ρ:Nat→Nat}{n K sz len:Nat}{cap:Option Nat}{l:List α}(h:ρ n=K)(hl:len=l.length)(h0:0<l.length):WkV (.slice K 0 len sz cap) ((ZW n sz l).ren ρ):=by
 rw[Lk n sz h0]
 subst hl h
 exact .cap _ _ _ _ _
theorem hokB{ρ:Nat→Nat}{n m:Nat}{H t:Heap}{ob:Option Blk}(hb:∀b,ob=some b→m<n∧ ∃b0,H.get (ρ m)=some b0∧WkB b0 (b.ren ρ))(ht:Y0 ρ n H t):Y0 ρ n H ((m,ob)::t):=by
 cases ob with
 |none=>exact ht
 |some b=>exact⟨hb b rfl,ht⟩
theorem Y7{α:Type}{ρ:Nat→Nat}{n m:Nat}{H t:Heap}{enc:α→List AVal}{l:List α}(hf:Qp (l.map enc))(hm:m<n)(h:H.get (ρ m)=Y6 enc l)(ht:Y0 ρ n H t):Y0 ρ n H ((m,Y6 enc l)::t):=by
 refine hokB (fun b hb=>⟨hm,b,h.trans hb,?_⟩) ht
 cases l with
 |nil=>cases hb
 |cons a q=>cases hb;exact Qa hf
theorem V3{α:Type}{ρ:Nat→Nat}{n m:Nat}{H t:Heap}{enc:α→List AVal}{l:List α}{rows:List (List AVal)}(hf:Qp (l.map enc))(hm:m<n)(h:H.get (ρ m)=some (.cells rows false))(hr:rows=l.map enc)(h0:0<l.length)(ht:Y0 ρ n H t):Y0 ρ n H ((m,Y6 enc l)::t):=by
 subst hr
 rw[Ll enc h0]
 exact⟨⟨hm,_,h,Qa hf⟩,ht⟩
theorem T3[Syms]{na N:Nat}{e:Env}{H:Heap}{nx nx':Nat}(h:nx≤nx'):Reb na N ⟨e,H,nx⟩ ⟨e,H,nx'⟩:=
 ⟨fun x=>Nat.le_trans x h,fun ι a w hS=>⟨ι,⟨hS.defers,hS.size,hS.env,hS.heap,fun n L hn=>⟨Nat.lt_of_lt_of_le (hS.bound n L hn).1 h,(hS.bound n L hn).2⟩⟩,.refl ..⟩⟩
theorem Q10{g:Int}(h:I64 g)(n:Int)(hn:2≤n):-4611686018427387904≤dv g n∧dv g n≤4611686018427387904:=by
 obtain⟨h1,h2⟩:=h
 have key:-4611686018427387904≤g.tdiv n∧g.tdiv n≤4611686018427387904:=by
  rcases Int.le_total 0 g with hg|hg
  ·rw[Int.tdiv_eq_ediv_of_nonneg hg]
   have e2:0≤g/n:=Int.ediv_nonneg hg (by omega)
   have e1:=Int.mul_le_mul_of_nonneg_left hn e2
   have e3:=Int.ediv_mul_le g (show n≠0 by omega)
   generalize g/n*n=z at *
   omega
  ·have hg':0≤ -g:=by omega
   have e0:g.tdiv n= -((-g).tdiv n):=by rw[Int.neg_tdiv];omega
   rw[e0,Int.tdiv_eq_ediv_of_nonneg hg']
   have e2:0≤ -g/n:=Int.ediv_nonneg hg' (by omega)
   have e1:=Int.mul_le_mul_of_nonneg_left hn e2
   have e3:=Int.ediv_mul_le (-g) (show n≠0 by omega)
   generalize -g/n*n=z at *
   omega
 unfold dv
 rw[wrI ⟨by omega,by omega⟩]
 exact key
abbrev cMk:CallT:=Q6 13 (B8 G_wi) (Q6 20 (X0 S_make) (Q6 21 (X0 S_leaves) (Q6 22 (X0 S_good) Q7)))
theorem IC[Syms]:cMk.det Try.prog:=VA GV (Zz O3 (Zz Ka (Zz Rs Q3)))
noncomputable def plMk:Nat→Nat→Pl:=XD [(11,1),(11,5),(11,7),(11,10),(11,12),(11,15),(11,23),(11,24)] (Qz plt)
def oS(s:List Fd)(gs:List Int)(l:List Vl)(ls:List Lf)(a i:Nat)(N:Int)(rs:List Rw):St:=⟨[(1,vI gs),(2,vV l),(6,.ptr 1 0 0),(7,.ptr 0 0 0),(8,vL ls),(9,.int .i64 a),(10,.int .i64 i)],[(0,some (.cells [QK (vF s) N (ZW 3 2 rs)] false)),(1,some (.cells [QK .nils 0 .nils] false)),(3,Y6 encR rs)],7⟩
def gS0(s:List Fd)(gs:List Int)(l:List Vl)(ls:List Lf)(a i:Nat)(g:Int)(rs:List Rw):St:=⟨[(1,vI gs),(2,vV l),(6,.ptr 1 0 0),(7,.ptr 0 0 0),(8,vL ls),(9,.int .i64 a),(10,.int .i64 i),(11,.ptr 2 0 0)],[(0,some (.cells [QK (vF s) (Zj rs) (ZW 3 2 rs)] false)),(1,some (.cells [QK .nils 0 .nils] false)),(3,Y6 encR rs),(2,some (.cells [Zw (nM g) .nils] false))],7⟩
def iS(s:List Fd)(gs:List Int)(l:List Vl)(ls:List Lf)(a i:Nat)(g:Int)(rs:List Rw)(k:Nat)(cs:List Ck):St:=⟨[(1,vI gs),(2,vV l),(6,.ptr 1 0 0),(7,.ptr 0 0 0),(8,vL ls),(9,.int .i64 a),(10,.int .i64 i),(11,.ptr 2 0 0),(12,.int .i64 k)],[(0,some (.cells [QK (vF s) (Zj rs+nM g) (ZW 3 2 rs)] false)),(1,some (.cells [QK .nils 0 .nils] false)),(3,Y6 encR rs),(2,some (.cells [Zw (nM g) (ZW 5 11 cs)] false)),(5,Y6 encC cs)],7⟩
def knM(g:Int)(k:Nat):Bool:=decide (0<wi (dv g 3+k) 3)
def gS1(s:List Fd)(gs:List Int)(l:List Vl)(ls:List Lf)(a i:Nat)(g:Int)(rs:List Rw)(k:Nat)(cs:List Ck):St:=⟨[(1,vI gs),(2,vV l),(6,.ptr 1 0 0),(7,.ptr 0 0 0),(8,vL ls),(9,.int .i64 a),(10,.int .i64 i),(11,.ptr 2 0 0),(12,.int .i64 k),(13,.ptr 4 0 0)],[(0,some (.cells [QK (vF s) (Zj rs+nM g) (ZW 3 2 rs)] false)),(1,some (.cells [QK .nils 0 .nils] false)),(3,Y6 encR rs),(2,some (.cells [Zw (nM g) (ZW 5 11 cs)] false)),(5,Y6 encC cs),(4,some (.cells [XP 0 0 0 .nils (knM g k) 0 false] false))],7⟩
def pS(s:List Fd)(gs:List Int)(l:List Vl)(ls:List Lf)(a i:Nat)(g:Int)(rs:List Rw)(k:Nat)(cs:List Ck)(left:Int)(ps:List Pg):St:=⟨[(1,vI gs),(2,vV l),(6,.ptr 1 0 0),(7,.ptr 0 0 0),(8,vL ls),(9,.int .i64 a),(10,.int .i64 i),(11,.ptr 2 0 0),(12,.int .i64 k),(13,.ptr 4 0 0),(14,.int .i64 left)],[(0,some (.cells [QK (vF s) (Zj rs+nM g) (ZW 3 2 rs)] false)),(1,some (.cells [QK .nils 0 .nils] false)),(3,Y6 encR rs),(2,some (.cells [Zw (nM g) (ZW 5 11 cs)] false)),(5,Y6 encC cs),(4,some (.cells [XP 0 0 0 (ZW 6 7 ps) (knM g k) 0 false] false)),(6,Y6 encP ps)],7⟩
def pR(s:List Fd)(gs:List Int)(l:List Vl)(ls:List Lf)(a i:Nat)(g:Int)(rs:List Rw)(k:Nat)(cs:List Ck)(left:Int)(ps:List Pg):St:=⟨[(1,vI gs),(2,vV l),(6,.ptr 1 0 0),(7,.ptr 0 0 0),(8,vL ls),(9,.int .i64 a),(10,.int .i64 i),(11,.ptr 2 0 0),(12,.int .i64 k),(13,.ptr 4 0 0),(14,.int .i64 left),(15,.int .i64 (YG g left))],[(0,some (.cells [QK (vF s) (Zj rs+nM g) (ZW 3 2 rs)] false)),(1,some (.cells [QK .nils 0 .nils] false)),(3,Y6 encR rs),(2,some (.cells [Zw (nM g) (ZW 5 11 cs)] false)),(5,Y6 encC cs),(4,some (.cells [XP 0 0 0 (ZW 6 7 ps) (knM g k) 0 false] false)),(6,Y6 encP ps)],7⟩
theorem Td{gs:List Int}{i:Nat}{g left:Int}(hge:gs.getD i 0=g):[[AVal.int .i64 (YG g left),.int .i64 (YG g left+wi g 9),.int .i64 (wi g 2),.int .i64 (wi (dv g 2) 300),.int .i64 (wi (dv g 5) 300),.int .i64 (wi (dv g 9) 3000),.int .u32 (wr .u32 (wr .u32 (gs.getD i 0)*77))]]=(([]:List Pg)++[pgM g (YG g left)]).map encP:=by rw[hge];rfl
theorem Tc{gs:List Int}{i:Nat}{g left:Int}{p0:Pg}{pt:List Pg}(hge:gs.getD i 0=g):List.take (p0::pt).length (List.drop 0 ((p0::pt).map encP))++[[AVal.int .i64 (YG g left),.int .i64 (YG g left+wi g 9),.int .i64 (wi g 2),.int .i64 (wi (dv g 2) 300),.int .i64 (wi (dv g 5) 300),.int .i64 (wi (dv g 9) 3000),.int .u32 (wr .u32 (wr .u32 (gs.getD i 0)*77))]]=((p0::pt)++[pgM g (YG g left)]).map encP:=by
 rw[hge,List.drop_zero,List.take_of_length_le (by simp),List.map_append];rfl
def V9(ps:List Pg)(j:Nat):List Pg:=(ps.take j).map d2++ps.drop j
theorem G9(ps:List Pg)(j:Nat):(V9 ps j).length=ps.length:=by simp[V9];omega
theorem OK{ps:List Pg}{j:Nat}(h:j<ps.length):(V9 ps j).getD j default=ps.getD j default:=by
 have h1:((ps.take j).map d2).length=j:=by simp;omega
 rw[V9,List.getD_eq_getElem?_getD,List.getElem?_append_right (by omega),h1,Nat.sub_self,List.getElem?_drop,Nat.add_zero,List.getD_eq_getElem?_getD]
theorem Hb{ps:List Pg}{j:Nat}(h:j<ps.length):(V9 ps j).set j (d2 (ps.getD j default))=V9 ps (j+1):=by
 have h1:((ps.take j).map d2).length=j:=by simp;omega
 rw[V9,List.set_append_right _ _ (by omega),h1,Nat.sub_self,List.drop_eq_getElem_cons h,List.set_cons_zero,V9,List.take_add_one,List.getElem?_eq_getElem h,List.map_append,List.append_assoc]
 simp[h]
theorem LM(ps:List Pg):V9 ps ps.length=ps.map d2:=by simp[V9]
theorem Tz{ps:List Pg}{j:Nat}(h:j<ps.length):((V9 ps j).map encP).set (0+((j:Nat):Int).toNat) (QI (((V9 ps j).map encP).getD (0+((j:Nat):Int).toNat) []) (0+2) [.int .i64 2])=(V9 ps (j+1)).map encP:=by
 rw[Nat.zero_add,Int.toNat_natCast,Xx encP default (by rw[G9];exact h),OK h,←Hb h,List.map_set];rfl
def dS(s:List Fd)(gs:List Int)(l:List Vl)(ls:List Lf)(a i:Nat)(g:Int)(rs:List Rw)(k:Nat)(cs:List Ck)(ps:List Pg)(j:Nat):St:=⟨[(1,vI gs),(2,vV l),(6,.ptr 1 0 0),(7,.ptr 0 0 0),(8,vL ls),(9,.int .i64 a),(10,.int .i64 i),(11,.ptr 2 0 0),(12,.int .i64 k),(13,.ptr 4 0 0),(16,.int .i64 j)],[(0,some (.cells [QK (vF s) (Zj rs+nM g) (ZW 3 2 rs)] false)),(1,some (.cells [QK .nils 0 .nils] false)),(3,Y6 encR rs),(2,some (.cells [Zw (nM g) (ZW 5 11 cs)] false)),(5,Y6 encC cs),(4,some (.cells [XP 0 0 0 (.slice 6 0 ps.length 7 none) (knM g k) 0 false] false)),(6,some (.cells ((V9 ps j).map encP) false))],7⟩
def eS(s:List Fd)(gs:List Int)(l:List Vl)(ls:List Lf)(a i:Nat)(g:Int)(rs:List Rw)(k:Nat)(cs:List Ck)(w sz cr:Int)(n:Nat)(ps:List Pg):St:=⟨[(1,vI gs),(2,vV l),(6,.ptr 1 0 0),(7,.ptr 0 0 0),(8,vL ls),(9,.int .i64 a),(10,.int .i64 i),(11,.ptr 2 0 0),(12,.int .i64 k),(13,.ptr 4 0 0)],[(0,some (.cells [QK (vF s) (Zj rs+nM g) (ZW 3 2 rs)] false)),(1,some (.cells [QK .nils 0 .nils] false)),(3,Y6 encR rs),(2,some (.cells [Zw (nM g) (ZW 5 11 cs)] false)),(5,Y6 encC cs),(4,some (.cells [XP w sz cr (.slice 6 0 n 7 none) (knM g k) 0 false] false)),(6,some (.cells (ps.map encP) false))],7⟩
def eS2(s:List Fd)(gs:List Int)(l:List Vl)(ls:List Lf)(a i:Nat)(g:Int)(rs:List Rw)(k:Nat)(cs:List Ck)(w sz cr:Int)(ps:List Pg)(b:Bool):St:=⟨[(1,vI gs),(2,vV l),(6,.ptr 1 0 0),(7,.ptr 0 0 0),(8,vL ls),(9,.int .i64 a),(10,.int .i64 i),(11,.ptr 2 0 0),(12,.int .i64 k),(13,.ptr 4 0 0),(166,.bool b)],[(0,some (.cells [QK (vF s) (Zj rs+nM g) (ZW 3 2 rs)] false)),(1,some (.cells [QK .nils 0 .nils] false)),(3,Y6 encR rs),(2,some (.cells [Zw (nM g) (ZW 5 11 cs)] false)),(5,Y6 encC cs),(4,some (.cells [XP w sz cr (.slice 6 0 ps.length 7 none) (knM g k) 0 false] false)),(6,some (.cells (ps.map encP) false))],7⟩
def fS(s:List Fd)(gs:List Int)(l:List Vl)(ls:List Lf)(a i:Nat)(g:Int)(rs:List Rw)(k:Nat)(cs:List Ck)(w sz cr:Int)(ps:List Pg)(b:Bool):St:=⟨[(1,vI gs),(2,vV l),(6,.ptr 1 0 0),(7,.ptr 0 0 0),(8,vL ls),(9,.int .i64 a),(10,.int .i64 i),(11,.ptr 2 0 0),(12,.int .i64 k),(13,.ptr 4 0 0),(166,.bool b)],[(0,some (.cells [QK (vF s) (Zj rs+nM g) (ZW 3 2 rs)] false)),(1,some (.cells [QK .nils 0 .nils] false)),(3,Y6 encR rs),(2,some (.cells [Zw (nM g) (ZW 5 11 cs)] false)),(5,Y6 encC cs),(4,some (.cells [XP w sz cr (.vs 7 (ps.map encP)) (knM g k) 0 false] false))],7⟩
theorem hfz{n m:Nat}{rows:List (List AVal)}{H t:Heap}{ob:Option Blk}(hm:m≠n)(h:H.get m=ob)(ht:FzH n rows H t):FzH n rows H ((m,ob)::t):=by
 cases ob with
 |none=>exact ht
 |some b=>exact⟨⟨hm,_,h,.same _⟩,ht⟩
theorem DS[Syms]{N:Nat}(s:List Fd)(gs:List Int)(l:List Vl)(ls:List Lf)(a i:Nat)(g:Int)(rs:List Rw)(k:Nat)(cs:List Ck)(w sz cr:Int)(ps:List Pg)(b:Bool)(hp:0<ps.length):Reb 0 N (eS2 s gs l ls a i g rs k cs w sz cr ps b) (fS s gs l ls a i g rs k cs w sz cr ps b):=by
 have hcut:((ps.map encP).drop 0).take ps.length=ps.map encP:=by rw[List.drop_zero,List.take_of_length_le (by simp)]
 have hs:FzV 6 (ps.map encP) (.slice 6 0 ps.length 7 none) (.vs 7 (ps.map encP)):=by
  have:=FzV.sl (n:=6) (rows:=ps.map encP) 0 ps.length 7 none hp (by simp)
  rwa [hcut]at this
 refine QH (n:=6) (rows:=ps.map encP) rfl (fP ps) ⟨.same _,.same _,.same _,.same _,.same _,.same _,.same _,.same _,.same _,.same _,.same _,trivial⟩ ?_
 refine hfz (by decide) rfl (hfz (by decide) rfl (hfz (by decide) rfl (hfz (by decide) rfl (hfz (by decide) rfl ⟨⟨by decide,_,rfl,.cells [XP w sz cr (.slice 6 0 ps.length 7 none) (knM g k) 0 false] [XP w sz cr (.vs 7 (ps.map encP)) (knM g k) 0 false] false rfl (fun j r r' h h'=>?_)⟩,trivial⟩))))
 cases j with
 |zero=>
  cases h;cases h'
  exact⟨.same _,.same _,.same _,hs,.same _,.same _,.same _,.same _,.same _,.same _,.same _,trivial⟩
 |succ j=>simp at h
theorem E5(g:Int)(l:List Vl)(ks:List Int)(a:Nat):∀k,(Wl g l ks a k).1.length=k
 |0=>rfl
 |k+1=>by rw[Wl,List.length_append,E5 g l ks a k];rfl
abbrev mhd(s:List Fd)(N:Int)(rs:List Rw):List AVal:=QK (vF s) N (ZW 3 2 rs)
theorem ZZ[Syms]{N nx:Nat}{e e3:Env}{H rest:Heap}{s:List Fd}{M:Int}{rs:List Rw}{row:List AVal}(q:List Nat)(hl:q.length=7)(h0:q.getD 0 0=0)(h1:q.getD 1 0=1)(h3:q.getD 3 0=3)(hn:QJ 0 nx q=true)(he:GL (rho q nx) e e3)
 (H0:H.get 0=some (.cells [row] false)) (hrow:∀ρ:Nat→Nat,ρ 3=3→Wf row (AVal.renL ρ (mhd s M rs))) (H1:H.get 1=some (.cells [QK .nils 0 .nils] false)) (H3:H.get 3=Y6 encR rs) (hr:Y0 (rho q nx) 7 H rest):
 Reb 0 N ⟨e,H,nx⟩ ⟨e3,(0,some (.cells [mhd s M rs] false))::(1,some (.cells [QK .nils 0 .nils] false))::(3,Y6 encR rs)::rest,7⟩:=by
 have r0:rho q nx 0=0:=by rw[Wi (by omega)];exact h0
 have r1:rho q nx 1=1:=by rw[Wi (by omega)];exact h1
 have r3:rho q nx 3=3:=by rw[Wi (by omega)];exact h3
 have:=Q0 (na:=0) (N:=N) (s:=⟨e,H,nx⟩) (e3:=e3) (H3:=(0,some (.cells [mhd s M rs] false))::(1,some (.cells [QK .nils 0 .nils] false))::(3,Y6 encR rs)::rest) q hn he
  ⟨⟨by omega,_,(by show H.get (rho q nx 0)=_;rw[r0];exact H0),QE (hrow _ r3)⟩,⟨by omega,_,(by show H.get (rho q nx 1)=_;rw[r1];exact H1),.refl _⟩,Y7 (fR rs) (by omega) (by show H.get (rho q nx 3)=_;rw[r3];exact H3) (by rw[hl];exact hr)⟩
 rw[hl]at this
 exact this
theorem Ri[Syms]{N nx K:Nat}{e e3:Env}{H rest:Heap}{s:List Fd}{M:Int}{rs:List Rw}{row:List AVal}{rows:List (List AVal)}(q:List Nat)(hl:q.length=7)(h0:q.getD 0 0=0)(h1:q.getD 1 0=1)(h3:q.getD 3 0=K)(hn:QJ 0 nx q=true)(he:GL (rho q nx) e e3)
 (H0:H.get 0=some (.cells [row] false)) (hrow:∀ρ:Nat→Nat,ρ 3=K→Wf row (AVal.renL ρ (mhd s M rs))) (H1:H.get 1=some (.cells [QK .nils 0 .nils] false)) (H3:H.get K=some (.cells rows false)) (hrs:rows=rs.map encR) (hpos:0<rs.length) (hr:Y0 (rho q nx) 7 H rest):
 Reb 0 N ⟨e,H,nx⟩ ⟨e3,(0,some (.cells [mhd s M rs] false))::(1,some (.cells [QK .nils 0 .nils] false))::(3,Y6 encR rs)::rest,7⟩:=by
 have r0:rho q nx 0=0:=by rw[Wi (by omega)];exact h0
 have r1:rho q nx 1=1:=by rw[Wi (by omega)];exact h1
 have r3:rho q nx 3=K:=by rw[Wi (by omega)];exact h3
 have:=Q0 (na:=0) (N:=N) (s:=⟨e,H,nx⟩) (e3:=e3) (H3:=(0,some (.cells [mhd s M rs] false))::(1,some (.cells [QK .nils 0 .nils] false))::(3,Y6 encR rs)::rest) q hn he
  ⟨⟨by omega,_,(by show H.get (rho q nx 0)=_;rw[r0];exact H0),QE (hrow _ r3)⟩,⟨by omega,_,(by show H.get (rho q nx 1)=_;rw[r1];exact H1),.refl _⟩,V3 (fR rs) (by omega) (by show H.get (rho q nx 3)=_;rw[r3];exact H3) hrs hpos (by rw[hl];exact hr)⟩
 rw[hl]at this
 exact this
def h1S(s:List Fd)(gs:List Int)(l:List Vl)(ls:List Lf)(a i:Nat)(g:Int)(rs:List Rw)(cs:List Ck):St:=⟨[(1,vI gs),(2,vV l),(6,.ptr 1 0 0),(7,.ptr 0 0 0),(8,vL ls),(9,.int .i64 a),(10,.int .i64 i),(11,.ptr 2 0 0),(50,.bool false)],[(0,some (.cells [QK (vF s) (Zj rs+nM g) (ZW 3 2 rs)] false)),(1,some (.cells [QK .nils 0 .nils] false)),(3,Y6 encR rs),(2,some (.cells [Zw (nM g) (ZW 5 11 cs)] false)),(5,Y6 encC cs)],7⟩
def hS(s:List Fd)(gs:List Int)(l:List Vl)(ls:List Lf)(a i:Nat)(g:Int)(rs:List Rw)(cs:List Ck):St:=⟨[(1,vI gs),(2,vV l),(6,.ptr 1 0 0),(7,.ptr 0 0 0),(8,vL ls),(9,.int .i64 a),(10,.int .i64 i),(11,.ptr 2 0 0),(50,.bool false)],[(0,some (.cells [QK (vF s) (Zj rs+nM g) (ZW 3 2 rs)] false)),(1,some (.cells [QK .nils 0 .nils] false)),(3,Y6 encR rs),(2,some (.cells [encR ⟨nM g,cs⟩] false))],7⟩
theorem Q0y[Syms]{N:Nat}(s:List Fd)(gs:List Int)(l:List Vl)(ls:List Lf)(a i:Nat)(g:Int)(rs:List Rw)(cs:List Ck):Reb 0 N (h1S s gs l ls a i g rs cs) (hS s gs l ls a i g rs cs):=by
 cases cs with
 |nil=>exact ZZ [0,1,2,3,4,5,6] rfl rfl rfl rfl (by exact rfl) ⟨.refl _,.refl _,.refl _,.refl _,.refl _,.refl _,.refl _,.refl _,.refl _,trivial⟩ rfl (fun ρ hρ=>⟨.refl _,.refl _,ZC hρ,trivial⟩) rfl rfl ⟨⟨by decide,_,rfl,QE (row:=encR ⟨nM g,[]⟩) ⟨.refl _,.zero _ _ rfl,trivial⟩⟩,trivial⟩
 |cons c0 ct=>
  have hcut:(((c0::ct).map encC).drop 0).take (c0::ct).length=(c0::ct).map encC:=by rw[List.drop_zero,List.take_of_length_le (by simp)]
  have hs:FzV 5 ((c0::ct).map encC) (.slice 5 0 (c0::ct).length 11 none) (.vs 11 ((c0::ct).map encC)):=by
   have:=FzV.sl (n:=5) (rows:=(c0::ct).map encC) 0 (c0::ct).length 11 none (by simp) (by simp)
   rwa [hcut]at this
  refine QH (n:=5) (rows:=(c0::ct).map encC) rfl (fC _) ⟨.same _,.same _,.same _,.same _,.same _,.same _,.same _,.same _,.same _,trivial⟩ ?_
  refine hfz (by decide) rfl (hfz (by decide) rfl (hfz (by decide) rfl ⟨⟨by decide,_,rfl,.cells [Zw (nM g) (.slice 5 0 (c0::ct).length 11 none)] [encR ⟨nM g,c0::ct⟩] false rfl (fun j r r' h h'=>?_)⟩,trivial⟩))
  cases j with
  |zero=>
   cases h;cases h'
   exact⟨.same _,hs,trivial⟩
  |succ j=>simp at h
theorem Tn(ps:List Rw)(p:Rw):List.take ps.length (List.drop 0 (ps.map encR))++[encR p]=(ps++[p]).map encR:=by
 rw[List.drop_zero,List.take_of_length_le (by simp),List.map_append];rfl
def z1S(s:List Fd)(rs:List Rw):St:=⟨[(6,.ptr 1 0 0),(7,.ptr 0 0 0),(31,.bool false)],[(0,some (.cells [QK (vF s) (Zj rs) (ZW 3 2 rs)] false)),(1,some (.cells [QK .nils 0 .nils] false)),(3,Y6 encR rs)],7⟩
def zS(s:List Fd)(rs:List Rw):St:=⟨[(6,.ptr 1 0 0),(7,.ptr 0 0 0),(31,.bool false)],[(0,some (.cells [QK (vF s) (Zj rs) (.vs 2 (rs.map encR))] false)),(1,some (.cells [QK .nils 0 .nils] false))],7⟩
theorem m_fz[Syms]{N:Nat}(s:List Fd)(rs:List Rw):Reb 0 N (z1S s rs) (zS s rs):=by
 cases rs with
 |nil=>exact Q0 [0,1,2,3,4,5,6] (by exact rfl) ⟨.refl _,.refl _,.refl _,trivial⟩ ⟨⟨by decide,_,rfl,QE (row:=QK (vF s) 0 (.vs 2 [])) ⟨.refl _,.refl _,.zero _ _ rfl,trivial⟩⟩,⟨by decide,_,rfl,.refl _⟩,trivial⟩
 |cons c0 ct=>
  have hcut:(((c0::ct).map encR).drop 0).take (c0::ct).length=(c0::ct).map encR:=by rw[List.drop_zero,List.take_of_length_le (by simp)]
  have hs:FzV 3 ((c0::ct).map encR) (.slice 3 0 (c0::ct).length 2 none) (.vs 2 ((c0::ct).map encR)):=by
   have:=FzV.sl (n:=3) (rows:=(c0::ct).map encR) 0 (c0::ct).length 2 none (by simp) (by simp)
   rwa [hcut]at this
  refine QH (n:=3) (rows:=(c0::ct).map encR) rfl (fR _) ⟨.same _,.same _,.same _,trivial⟩ ?_
  refine⟨⟨by decide,_,rfl,.cells [QK (vF s) (Zj (c0::ct)) (.slice 3 0 (c0::ct).length 2 none)] [QK (vF s) (Zj (c0::ct)) (.vs 2 ((c0::ct).map encR))] false rfl (fun j r r' h h'=>?_)⟩,hfz (by decide) rfl trivial⟩
  cases j with
  |zero=>
   cases h;cases h'
   exact⟨.same _,.same _,hs,trivial⟩
  |succ j=>simp at h
theorem CT(ks:List Int)(l:List Vl)(gs:List Int):∀i:Nat,0≤Zj (YM ks l gs i).1∧Zj (YM ks l gs i).1≤40*(i:Int)
 |0=>⟨Int.le_refl 0,Int.le_refl 0⟩
 |i+1=>by
  have ih:=CT ks l gs i
  have h1:=K0 (gs.getD i 0)
  have h2:Zj (YM ks l gs (i+1)).1=Zj (YM ks l gs i).1+nM (gs.getD i 0):=by show Zj ((YM ks l gs i).1++[_])=_;simp only[KK,Zj,Int.add_zero]
  rw[h2];omega
theorem CU(ks:List Int)(l:List Vl)(gs:List Int):∀i:Nat,(YM ks l gs i).1.length=i
 |0=>rfl
 |i+1=>by rw[YM,List.length_append,CU ks l gs i];rfl
theorem O7[Syms](ns gs:List Int)(l:List Vl)(hn:ns.length≤9223372036854775807)(hgl:gs.length≤9223372036854775807)(hll:l.length≤9223372036854775807)(hg:∀g∈gs,I64 g):
 fnT cMk cMk (Qx fns) (Qo tys) plMk 100 11 [vI ns,vI gs,vV l] [] 0 (Vv (fun v H _=>v= .agg (Qv (Yt ns gs l))∧H=[])):=by
 repeat' first|refine And.intro ?_ ?_|(intro h;try first|exact dzq|replace h:=cvq)
 all_goals try exact cz
 refine⟨ns,rfl,hn,?_⟩
 have hfs:=Ib ns
 have hmk:Yt ns gs l=⟨QN ns,Zj (YM (Q5 (Qt (QN ns))) l gs (gs.take 4).length).1,(YM (Q5 (Qt (QN ns))) l gs (gs.take 4).length).1⟩:=by
  have h4:(gs.take 4).length≤gs.length:=by rw[List.length_take];omega
  rw[Ig _ _ _ _ h4,List.length_take,show gs.take (min 4 gs.length)=gs.take 4 from by rw[←List.take_take,List.take_length]]
  rfl
 rw[hmk]
 clear hmk
 generalize QN ns=s at *
 repeat' first|refine And.intro ?_ ?_|(intro h;try first|exact dzq|replace h:=cvq)
 all_goals try exact cz
 refine⟨⟨[(1,vI gs),(2,vV l),(6,.ptr 1 0 0),(7,.ptr 0 0 0)],[(0,some (.cells [mhd s 0 []] false)),(1,some (.cells [QK .nils 0 .nils] false))],2⟩,Q0 [1,0] (by exact rfl) ⟨.refl _,.refl _,.refl _,.refl _,trivial⟩ ⟨⟨by decide,_,rfl,.refl _⟩,⟨by decide,_,rfl,.refl _⟩,trivial⟩,?_⟩
 repeat' first|refine And.intro ?_ ?_|(intro h;try first|exact dzq|replace h:=cvq)
 all_goals try exact cz
 refine⟨s,rfl,hfs,?_⟩
 have hlb:(Qt s).length≤1000:=by have h1:(Qt s).length≤s.length:=Zf _ _ _;have h2:=hfs.len;omega
 generalize Qt s=ls at *
 repeat' first|refine And.intro ?_ ?_|(intro h;try first|exact dzq|replace h:=cvq)
 all_goals try exact cz
 refine⟨fun m st=>∃i:Nat,(i≤(gs.take 4).length∧m=(gs.take 4).length-i)∧st=oS s gs l ls (YM (Q5 ls) l gs i).2 i (Zj (YM (Q5 ls) l gs i).1) (YM (Q5 ls) l gs i).1,⟨_,oS s gs l ls 0 0 0 [],(T3 (nx':=7) (by omega)).trans (ZZ [0,1,2,3,4,5,6] rfl rfl rfl rfl (by exact rfl) ⟨.refl _,.refl _,.refl _,.refl _,.refl _,.refl _,.refl _,trivial⟩ rfl (fun ρ hρ=>⟨.refl _,.refl _,ZC hρ,trivial⟩) rfl rfl trivial),0,⟨by omega,rfl⟩,rfl⟩,?_⟩
 rintro m st ⟨i,⟨hi,rfl⟩,rfl⟩
 have hi4:(gs.take 4).length=min 4 gs.length:=List.length_take
 by_cases h1:i<gs.length∧i<4
 ·obtain⟨h1,h2⟩:=h1
  have hgi:I64 (gs.getD i 0):=by
   rw[List.getD_eq_getElem?_getD,List.getElem?_eq_getElem h1];exact hg _ (List.getElem_mem h1)
  have hat:=Ih (Q5 ls) l gs i
  have hsm:=CT (Q5 ls) l gs i
  have hrl:=CU (Q5 ls) l gs i
  have hst:YM (Q5 ls) l gs (i+1)=((YM (Q5 ls) l gs i).1++[⟨nM (gs.getD i 0),(Z2 (gs.getD i 0) l (Q5 ls) 0 (YM (Q5 ls) l gs i).2).1⟩],(Z2 (gs.getD i 0) l (Q5 ls) 0 (YM (Q5 ls) l gs i).2).2):=rfl
  generalize YM (Q5 ls) l gs i=qa at *
  obtain⟨rs,a⟩:=qa
  dsimp only at hst hat hsm hrl
  generalize hge:gs.getD i 0=g at *
  have hnM:=K0 g
  have hsr:0≤Zj rs∧Zj rs≤1000000:=by omega
  have hd2:wr .i64 ((gs.getD i 0).tdiv 2)=dv g 2:=by rw[hge];rfl
  have hd5:wr .i64 ((gs.getD i 0).tdiv 5)=dv g 5:=by rw[hge];rfl
  have hd7:wr .i64 ((gs.getD i 0).tdiv 7)=dv g 7:=by rw[hge];rfl
  have hd9:wr .i64 ((gs.getD i 0).tdiv 9)=dv g 9:=by rw[hge];rfl
  have hd11:wr .i64 ((gs.getD i 0).tdiv 11)=dv g 11:=by rw[hge];rfl
  have hd13:wr .i64 ((gs.getD i 0).tdiv 13)=dv g 13:=by rw[hge];rfl
  have hwn:wr .i64 (1+wi g 40)=nM g:=by rw[wrI (by have:=Y8 (a:=g) (n:=40) (by decide);omega)];rfl
  rcases rs with _|⟨r0,rt⟩
  rotate_left
  let rz:List Rw:=r0::rt
  have hrz:rz.length=i:=hrl
  have hsz:0≤Zj rz∧Zj rz≤1000000:=hsr
  rotate_left
  let rz:List Rw:=[]
  have hrz:rz.length=i:=hrl
  have hsz:0≤Zj rz∧Zj rz≤1000000:=hsr
  all_goals(
   repeat' first|refine And.intro ?_ ?_|(intro h;try first|exact dzq|replace h:=cvq)
   all_goals try exact czq
   refine⟨_,.refl _ _ _,?_⟩
   repeat' first|refine And.intro ?_ ?_|(intro h;try first|exact dzq|replace h:=cvq)
   all_goals try exact czq
   refine⟨g,40,congrArg (fun z=>[AVal.int .i64 z,AVal.int .i64 40]) hge,by decide,?_⟩
   repeat' first|refine And.intro ?_ ?_|(intro h;try first|exact dzq|replace h:=cvq)
   all_goals try exact czq
   refine⟨gS0 s gs l ls a i g rz,ZZ [0,1,7,3,4,5,6] rfl rfl rfl rfl (by exact rfl) ⟨.refl _,.refl _,.refl _,.refl _,.refl _,.refl _,.refl _,.refl _,trivial⟩ rfl (fun ρ hρ=>⟨.refl _,.refl _,ZC hρ,trivial⟩) rfl rfl ⟨⟨by decide,_,rfl,QE (row:=Zw (nM g) .nils) ⟨Qm hwn,.refl _,trivial⟩⟩,trivial⟩,?_⟩
   have hb1:-9223372036854775808≤Zj rz+nM g∧Zj rz+nM g≤9223372036854775807:=by omega
   repeat' first|refine And.intro ?_ ?_|(intro h;try first|exact dzq|replace h:=cvq)
   all_goals try exact czq
   all_goals(try first|exact hb1.1|exact hb1.2)
   refine⟨fun m st=>∃k:Nat,(k≤ls.length∧m=ls.length-k)∧st=iS s gs l ls (Wl g l (Q5 ls) a k).2 i g rz k (Wl g l (Q5 ls) a k).1,⟨_,iS s gs l ls a i g rz 0 [],ZZ [0,1,2,3,4,5,6] rfl rfl rfl rfl (by exact rfl) ⟨.refl _,.refl _,.refl _,.refl _,.refl _,.refl _,.refl _,.refl _,.refl _,trivial⟩ rfl (fun ρ hρ=>⟨.refl _,.refl _,ZC hρ,trivial⟩) rfl rfl ⟨⟨by decide,_,rfl,QE (row:=Zw (nM g) .nils) ⟨.refl _,.refl _,trivial⟩⟩,trivial⟩,0,⟨by omega,rfl⟩,rfl⟩,?_⟩
   rintro m st ⟨k,⟨hk,rfl⟩,rfl⟩
   have hkl:(Q5 ls).length=ls.length:=List.length_map ..
   by_cases hk1:k<ls.length
   ·have hct:=Ir g l (Q5 ls) a k
    have hcs:Wl g l (Q5 ls) a (k+1)=((Wl g l (Q5 ls) a k).1++[(ZE g k ((Q5 ls).getD k 0) l (Wl g l (Q5 ls) a k).2).1],(ZE g k ((Q5 ls).getD k 0) l (Wl g l (Q5 ls) a k).2).2):=rfl
    have hkd:(Q5 ls).getD k 0=(ls.getD k default).kind:=by
     rw[List.getD_eq_getElem?_getD,List.getD_eq_getElem?_getD,List.getElem?_map,List.getElem?_eq_getElem hk1];rfl
    rw[hkd]at hcs
    clear hkd
    generalize hqc:Wl g l (Q5 ls) a k=qc at *
    obtain⟨cs,a'⟩:=qc
    dsimp only at hct hcs
    have hcl:cs.length≤1000:=by
     have h1:=E5 g l (Q5 ls) a k
     rw[hqc]at h1
     have h2:cs.length=k:=h1
     omega
    clear hqc
    rcases cs with _|⟨c0,ct⟩
    rotate_left
    let cw:List Ck:=c0::ct
    have hcw:cw.length≤1000:=hcl
    rotate_left
    let cw:List Ck:=[]
    have hcw:cw.length≤1000:=hcl
    all_goals(
     repeat' first|refine And.intro ?_ ?_|(intro h;try first|exact dzq|replace h:=cvq)
     all_goals try exact czq
     refine⟨_,.refl _ _ _,?_⟩
     repeat' first|refine And.intro ?_ ?_|(intro h;try first|exact dzq|replace h:=cvq)
     all_goals try exact czq
     have hdk:wr .i64 (wr .i64 ((gs.getD i 0).tdiv 3)+((k:Nat):Int))=dv g 3+k:=by
      rw[hge]
      have:=Q10 hgi 3 (by decide)
      exact wrI (show -9223372036854775808≤dv g 3+(k:Int)∧dv g 3+(k:Int)≤9223372036854775807 by omega)
     refine⟨dv g 3+k,3,congrArg (fun z=>[AVal.int .i64 z,AVal.int .i64 3]) hdk,by decide,?_⟩
     repeat' first|refine And.intro ?_ ?_|(intro h;try first|exact dzq|replace h:=cvq)
     all_goals try exact czq
     refine⟨gS1 s gs l ls a' i g rz k cw,ZZ [0,1,2,3,7,5,6] rfl rfl rfl rfl (by exact rfl) ⟨.refl _,.refl _,.refl _,.refl _,.refl _,.refl _,.refl _,.refl _,.refl _,.refl _,trivial⟩ rfl (fun ρ hρ=>⟨.refl _,.refl _,ZC hρ,trivial⟩) rfl rfl ⟨⟨by decide,_,rfl,QE (row:=Zw (nM g) (ZW 5 11 cw)) ⟨.refl _,ZC rfl,trivial⟩⟩,Y7 (fC cw) (by decide) rfl ⟨⟨by decide,_,rfl,QE (row:=XP 0 0 0 .nils (knM g k) 0 false) ⟨.refl _,.refl _,.refl _,.refl _,.refl _,.refl _,.refl _,.refl _,.refl _,.refl _,.refl _,trivial⟩⟩,trivial⟩⟩,?_⟩
     repeat' first|refine And.intro ?_ ?_|(intro h;try first|exact dzq|replace h:=cvq)
     all_goals try exact czq
     refine⟨fun m st=>∃(left:Int) (f:Nat) (ps:List Pg),(m=left.toNat∧0≤left∧left≤f∧left≤40∧ps++ZY g f left=ZY g 40 (nM g))∧st=pS s gs l ls a' i g rz k cw left ps,⟨_,pS s gs l ls a' i g rz k cw (nM g) [],ZZ [0,1,2,3,4,5,6] rfl rfl rfl rfl (by exact rfl) ⟨.refl _,.refl _,.refl _,.refl _,.refl _,.refl _,.refl _,.refl _,.refl _,.refl _,.refl _,trivial⟩ rfl (fun ρ hρ=>⟨.refl _,.refl _,ZC hρ,trivial⟩) rfl rfl ⟨⟨by decide,_,rfl,QE (row:=Zw (nM g) (ZW 5 11 cw)) ⟨.refl _,ZC rfl,trivial⟩⟩,Y7 (fC cw) (by decide) rfl ⟨⟨by decide,_,rfl,QE (row:=XP 0 0 0 .nils (knM g k) 0 false) ⟨.refl _,.refl _,.refl _,.refl _,.refl _,.refl _,.refl _,.refl _,.refl _,.refl _,.refl _,trivial⟩⟩,trivial⟩⟩,nM g,40,[],⟨rfl,by omega,by omega,by omega,rfl⟩,rfl⟩,?_⟩
     rintro m st ⟨left,f,ps,⟨rfl,hl0,hlf,hl4,hpg⟩,rfl⟩
     by_cases hl1:0<left
     ·obtain⟨f,rfl⟩:∃f',f=f'+1:=⟨f-1,by omega⟩
      rw[V1 hl1]at hpg
      have hsp:=M0 (g:=g) hl1
      have hpl:ps.length≤40:=by
       have h1:=congrArg List.length hpg
       have h2:=WL g 40 (nM g)
       rw[List.length_append]at h1
       omega
      rcases ps with _|⟨p0,pt⟩
      rotate_left
      let pw:List Pg:=p0::pt
      have hpw:pw.length≤40:=hpl
      rotate_left
      let pw:List Pg:=[]
      have hpw:pw.length≤40:=hpl
      all_goals(
       repeat' first|refine And.intro ?_ ?_|(intro h;try first|exact dzq|replace h:=cvq)
       all_goals try exact czq
       refine⟨dv g 7,20,congrArg (fun z=>[AVal.int .i64 z,AVal.int .i64 20]) hd7,by decide,?_⟩
       repeat' first|refine And.intro ?_ ?_|(intro h;try first|exact dzq|replace h:=cvq)
       all_goals try exact czq
       have hw9:=Y8 (a:=g) (n:=9) (by decide)
       have hst:(if wr .i64 (1+wi (dv g 7) 20)<left then wr .i64 (1+wi (dv g 7) 20)else left)=YG g left:=by
        rw[wrI (by have:=Y8 (a:=dv g 7) (n:=20) (by decide);omega)];rfl
       refine⟨pR s gs l ls a' i g rz k cw left pw,ZZ [0,1,2,3,4,5,6] rfl rfl rfl rfl (by exact rfl) ⟨.refl _,.refl _,.refl _,.refl _,.refl _,.refl _,.refl _,.refl _,.refl _,.refl _,.refl _,Qm hst,trivial⟩ rfl (fun ρ hρ=>⟨.refl _,.refl _,ZC hρ,trivial⟩) rfl rfl ⟨⟨by decide,_,rfl,QE (row:=Zw (nM g) (ZW 5 11 cw)) ⟨.refl _,ZC rfl,trivial⟩⟩,Y7 (fC cw) (by decide) rfl ⟨⟨by decide,_,rfl,QE (row:=XP 0 0 0 (ZW 6 7 pw) (knM g k) 0 false) ⟨.refl _,.refl _,.refl _,ZC rfl,.refl _,.refl _,.refl _,.refl _,.refl _,.refl _,.refl _,trivial⟩⟩,Y7 (fP pw) (by decide) rfl trivial⟩⟩,?_⟩
       repeat' first|refine And.intro ?_ ?_|(intro h;try first|exact dzq|replace h:=cvq)
       all_goals try exact czq
       refine⟨g,9,congrArg (fun z=>[AVal.int .i64 z,AVal.int .i64 9]) hge,by decide,?_⟩
       repeat' first|refine And.intro ?_ ?_|(intro h;try first|exact dzq|replace h:=cvq)
       all_goals try exact czq
       refine⟨g,2,congrArg (fun z=>[AVal.int .i64 z,AVal.int .i64 2]) hge,by decide,?_⟩
       repeat' first|refine And.intro ?_ ?_|(intro h;try first|exact dzq|replace h:=cvq)
       all_goals try exact czq
       refine⟨dv g 2,300,congrArg (fun z=>[AVal.int .i64 z,AVal.int .i64 300]) hd2,by decide,?_⟩
       repeat' first|refine And.intro ?_ ?_|(intro h;try first|exact dzq|replace h:=cvq)
       all_goals try exact czq
       refine⟨dv g 5,300,congrArg (fun z=>[AVal.int .i64 z,AVal.int .i64 300]) hd5,by decide,?_⟩
       repeat' first|refine And.intro ?_ ?_|(intro h;try first|exact dzq|replace h:=cvq)
       all_goals try exact czq
       refine⟨dv g 9,3000,congrArg (fun z=>[AVal.int .i64 z,AVal.int .i64 3000]) hd9,by decide,?_⟩
       repeat' first|refine And.intro ?_ ?_|(intro h;try first|exact dzq|replace h:=cvq)
       all_goals try exact czq
       all_goals(try((with_reducible show(_:Nat)≤_);first|(show(pw.length+1)*56≤_;omega)|(show pw.length+1≤_;omega)))
       exact⟨_,pS s gs l ls a' i g rz k cw (left-YG g left) (pw++[pgM g (YG g left)]),ZZ [0,1,2,3,4,5,7+41*RR] rfl rfl rfl rfl (by kernel_rfl) ⟨.refl _,.refl _,.refl _,.refl _,.refl _,.refl _,.refl _,.refl _,.refl _,.refl _,.refl _,trivial⟩ rfl (fun ρ hρ=>⟨.refl _,.refl _,ZC hρ,trivial⟩) rfl rfl ⟨⟨by decide,_,rfl,QE (row:=Zw (nM g) (ZW 5 11 cw)) ⟨.refl _,ZC rfl,trivial⟩⟩,Y7 (fC cw) (by decide) rfl ⟨⟨by decide,_,rfl,QE (row:=XP 0 0 0 (ZW 6 7 (pw++[pgM g (YG g left)])) (knM g k) 0 false) ⟨.refl _,.refl _,.refl _,Uc rfl (by simp;try rfl) (by simp;try rfl),.refl _,.refl _,.refl _,.refl _,.refl _,.refl _,.refl _,trivial⟩⟩,V3 (fP (pw++[pgM g (YG g left)])) (by decide) rfl (by first|exact Td hge|exact Tc hge) (by simp;try rfl) trivial⟩⟩,⟨left-YG g left,f,pw++[pgM g (YG g left)],⟨rfl,by omega,by omega,by omega,by rw[←hpg,List.append_assoc];rfl⟩,rfl⟩,by omega⟩
       skip)
     ·have hpe:ps=ZY g 40 (nM g):=by rw[←hpg,MZ hl1,List.append_nil]
      have hp0:0<ps.length:=by rw[hpe,show(40:Nat)=39+1 from rfl,V1 (by omega)];simp
      have hpl:ps.length≤40:=by rw[hpe];exact WL g 40 (nM g)
      clear hpg
      rcases ps with _|⟨p0,pt⟩
      ·cases hp0
      · repeat' first|refine And.intro ?_ ?_|(intro h;try first|exact dzq|replace h:=cvq)
        all_goals try exact czq
        refine⟨dv g 11,3,congrArg (fun z=>[AVal.int .i64 z,AVal.int .i64 3]) hd11,by decide,?_⟩
        by_cases hd:wi (dv g 11) 3=0
        · repeat' first|refine And.intro ?_ ?_|(intro h;try first|exact dzq|replace h:=cvq)
          all_goals try exact czq
          refine⟨fun m st=>∃j:Nat,(j≤(p0::pt).length∧m=(p0::pt).length-j)∧st=dS s gs l ls a' i g rz k cw (p0::pt) j,⟨_,dS s gs l ls a' i g rz k cw (p0::pt) 0,ZZ [0,1,2,3,4,5,6] rfl rfl rfl rfl (by exact rfl) ⟨.refl _,.refl _,.refl _,.refl _,.refl _,.refl _,.refl _,.refl _,.refl _,.refl _,.refl _,trivial⟩ rfl (fun ρ hρ=>⟨.refl _,.refl _,ZC hρ,trivial⟩) rfl rfl ⟨⟨by decide,_,rfl,QE (row:=Zw (nM g) (ZW 5 11 cw)) ⟨.refl _,ZC rfl,trivial⟩⟩,Y7 (fC cw) (by decide) rfl ⟨⟨by decide,_,rfl,QE (row:=XP 0 0 0 (.slice 6 0 (p0::pt).length 7 none) (knM g k) 0 false) ⟨.refl _,.refl _,.refl _,.refl _,.refl _,.refl _,.refl _,.refl _,.refl _,.refl _,.refl _,trivial⟩⟩,⟨⟨by decide,_,rfl,Qa (fP _)⟩,trivial⟩⟩⟩,0,⟨by omega,rfl⟩,rfl⟩,?_⟩
          rintro m st ⟨j,⟨hj,rfl⟩,rfl⟩
          by_cases hj1:j<(p0::pt).length
          · repeat' first|refine And.intro ?_ ?_|(intro h;try first|exact dzq|replace h:=cvq)
            all_goals try exact czq
            ·rw[List.length_map,G9];simp only[Int.toNat_natCast];omega
            ·rw[Nat.zero_add,Int.toNat_natCast,Xx encP default (by rw[G9];omega)];exact Nat.le_of_ble_eq_true rfl
            exact⟨_,dS s gs l ls a' i g rz k cw (p0::pt) (j+1),ZZ [0,1,2,3,4,5,6] rfl rfl rfl rfl (by exact rfl) ⟨.refl _,.refl _,.refl _,.refl _,.refl _,.refl _,.refl _,.refl _,.refl _,.refl _,Qm (by omega),trivial⟩ rfl (fun ρ hρ=>⟨.refl _,.refl _,ZC hρ,trivial⟩) rfl rfl ⟨⟨by decide,_,rfl,QE (row:=Zw (nM g) (ZW 5 11 cw)) ⟨.refl _,ZC rfl,trivial⟩⟩,Y7 (fC cw) (by decide) rfl ⟨⟨by decide,_,rfl,QE (row:=XP 0 0 0 (.slice 6 0 (p0::pt).length 7 none) (knM g k) 0 false) ⟨.refl _,.refl _,.refl _,.refl _,.refl _,.refl _,.refl _,.refl _,.refl _,.refl _,.refl _,trivial⟩⟩,⟨⟨by decide,_,rfl,Q2 (Tz hj1) (fP _)⟩,trivial⟩⟩⟩,⟨j+1,⟨by omega,rfl⟩,rfl⟩,by omega⟩
          ·obtain rfl:j=(p0::pt).length:=by omega
           have hde:=LM (p0::pt)
           repeat' first|refine And.intro ?_ ?_|(intro h;try first|exact dzq|replace h:=cvq)
           all_goals try exact czq
           have hcrc:wr .u32 (gs.getD i 0)=wr .u32 g:=by rw[hge]
           have hck:Wn g k=⟨wi g 257,wi (dv g 13) 9000,wr .u32 g,(p0::pt).map d2,knM g k,default⟩:=by unfold Wn;rw[if_pos hd,←hpe];rfl
           refine⟨eS s gs l ls a' i g rz k cw (wi g 257) (wi (dv g 13) 9000) (wr .u32 g) (p0::pt).length ((p0::pt).map d2),?_,?_⟩
           · repeat' first|refine And.intro ?_ ?_|(intro h;try first|exact dzq|replace h:=cvq)
             all_goals try exact czq
             all_goals(first|refine⟨g,257,congrArg (fun z=>[AVal.int .i64 z,AVal.int .i64 257]) hge,by decide,?_⟩|refine⟨dv g 13,9000,congrArg (fun z=>[AVal.int .i64 z,AVal.int .i64 9000]) hd13,by decide,?_⟩)
             repeat' first|refine And.intro ?_ ?_|(intro h;try first|exact dzq|replace h:=cvq)
             all_goals try exact czq
             all_goals(first|refine⟨g,257,congrArg (fun z=>[AVal.int .i64 z,AVal.int .i64 257]) hge,by decide,?_⟩|refine⟨dv g 13,9000,congrArg (fun z=>[AVal.int .i64 z,AVal.int .i64 9000]) hd13,by decide,?_⟩)
             repeat' first|refine And.intro ?_ ?_|(intro h;try first|exact dzq|replace h:=cvq)
             all_goals try exact czq
             all_goals exact Exists.intro () (ZZ [0,1,2,3,4,5,6] rfl rfl rfl rfl (by exact rfl) ⟨.refl _,.refl _,.refl _,.refl _,.refl _,.refl _,.refl _,.refl _,.refl _,.refl _,trivial⟩ rfl (fun ρ hρ=>⟨.refl _,.refl _,ZC hρ,trivial⟩) rfl rfl ⟨⟨by decide,_,rfl,QE (row:=Zw (nM g) (ZW 5 11 cw)) ⟨.refl _,ZC rfl,trivial⟩⟩,Y7 (fC cw) (by decide) rfl ⟨⟨by decide,_,rfl,QE (row:=XP (wi g 257) (wi (dv g 13) 9000) (wr .u32 g) (.slice 6 0 (p0::pt).length 7 none) (knM g k) 0 false) ⟨.refl _,.refl _,Qm hcrc,.refl _,.refl _,.refl _,.refl _,.refl _,.refl _,.refl _,.refl _,trivial⟩⟩,⟨⟨by decide,_,rfl,Q2 (congrArg (List.map encP) hde) (fP _)⟩,trivial⟩⟩⟩)
           ·have hp6:0<(((p0::pt).map d2)).length:=by simp
            have hp7:(p0::pt).length=(((p0::pt).map d2)).length:=by simp
            by_cases hkn:0<wi (dv g 3+k) 3
            ·by_cases hll0:0<l.length
             · repeat' first|refine And.intro ?_ ?_|(intro h;try first|exact dzq|replace h:=cvq)
               all_goals try exact czq
               refine⟨fS s gs l ls a' i g rz k cw (wi g 257) (wi (dv g 13) 9000) (wr .u32 g) ((p0::pt).map d2) true,Reb.trans (s':=eS2 s gs l ls a' i g rz k cw (wi g 257) (wi (dv g 13) 9000) (wr .u32 g) ((p0::pt).map d2) true) (ZZ [0,1,2,3,4,5,6] rfl rfl rfl rfl (by exact rfl) ⟨.refl _,.refl _,.refl _,.refl _,.refl _,.refl _,.refl _,.refl _,.refl _,.refl _,ZG (by rw[if_pos rfl,decide_eq_true (by omega)]),trivial⟩ rfl (fun ρ hρ=>⟨.refl _,.refl _,ZC hρ,trivial⟩) rfl rfl ⟨⟨by decide,_,rfl,QE (row:=Zw (nM g) (ZW 5 11 cw)) ⟨.refl _,ZC rfl,trivial⟩⟩,Y7 (fC cw) (by decide) rfl ⟨⟨by decide,_,rfl,QE (row:=XP (wi g 257) (wi (dv g 13) 9000) (wr .u32 g) (.slice 6 0 (((p0::pt).map d2)).length 7 none) (knM g k) 0 false) ⟨.refl _,.refl _,.refl _,Q8 hp7,.refl _,.refl _,.refl _,.refl _,.refl _,.refl _,.refl _,trivial⟩⟩,⟨⟨by decide,_,rfl,Qa (fP _)⟩,trivial⟩⟩⟩) (DS s gs l ls a' i g rz k cw (wi g 257) (wi (dv g 13) 9000) (wr .u32 g) ((p0::pt).map d2) true hp6),?_⟩
               have hmi:((a':Nat):Int).tmod ((l.length:Nat):Int)=((a'%l.length:Nat):Int):=(Int.ofNat_tmod ..).symm
               have hmlt:=Nat.mod_lt a' hll0
               repeat' first|refine And.intro ?_ ?_|(intro h;try first|exact dzq|replace h:=cvq)
               all_goals try exact czq
               refine⟨(ls.getD k default).kind,l.getD (a'%l.length) default,?_,?_⟩
               ·rw[hmi];rfl
               have ha9:a'≤5000:=by
                have h1:(Q5 ls).length≤1000:=by omega
                have h2:=Nat.mul_le_mul (show i≤4 by omega) h1
                omega
               repeat' first|refine And.intro ?_ ?_|(intro h;try first|exact dzq|replace h:=cvq)
               all_goals try exact czq
               refine⟨g,nM g+1,(by show[AVal.int .i64 (gs.getD i 0),_]=_;rw[hge];rfl),by omega,?_⟩
               repeat' first|refine And.intro ?_ ?_|(intro h;try first|exact dzq|replace h:=cvq)
               all_goals try exact czq
               have hcm:ZE g k (ls.getD k default).kind l a'=(⟨(wi g 257),(wi (dv g 13) 9000),(wr .u32 g),((p0::pt).map d2),knM g k,⟨wi g (nM g+1),true,ZT (ls.getD k default).kind (l.getD (a'%l.length) default),ZT (ls.getD k default).kind (l.getD (a'%l.length) default)⟩⟩,a'+1):=by
                unfold ZE
                rw[hck,if_pos ⟨decide_eq_true hkn,hll0⟩]
               have hcs':Wl g l (Q5 ls) a (k+1)=((cw++[(⟨(wi g 257),(wi (dv g 13) 9000),(wr .u32 g),((p0::pt).map d2),knM g k,⟨wi g (nM g+1),true,ZT (ls.getD k default).kind (l.getD (a'%l.length) default),ZT (ls.getD k default).kind (l.getD (a'%l.length) default)⟩⟩:Ck)]),a'+1):=hcs.trans (by rw[hcm])
               repeat' first|refine And.intro ?_ ?_|(intro h;try first|exact dzq|replace h:=cvq)
               all_goals try exact czq
               all_goals(try((with_reducible show(_:Nat)≤_);first|(show(cw.length+1)*120≤_;omega)|(show cw.length+1≤_;omega)))
               refine⟨_,iS s gs l ls (a'+1) i g rz (k+1) (cw++[(⟨(wi g 257),(wi (dv g 13) 9000),(wr .u32 g),((p0::pt).map d2),knM g k,⟨wi g (nM g+1),true,ZT (ls.getD k default).kind (l.getD (a'%l.length) default),ZT (ls.getD k default).kind (l.getD (a'%l.length) default)⟩⟩:Ck)]),?_,⟨k+1,⟨by omega,rfl⟩,by rw[hcs']⟩,by omega⟩
               refine ZZ [0,1,2,3,4,7+14*RR+1+10*RR+1+1,6] rfl rfl rfl rfl (by kernel_rfl) ⟨.refl _,.refl _,.refl _,.refl _,.refl _,Qm (by omega),.refl _,.refl _,Qm (by omega),trivial⟩ rfl (fun ρ hρ=>⟨.refl _,.refl _,ZC hρ,trivial⟩) rfl rfl ⟨⟨by decide,_,rfl,QE (row:=Zw (nM g) (ZW 5 11 (cw++[(⟨(wi g 257),(wi (dv g 13) 9000),(wr .u32 g),((p0::pt).map d2),knM g k,⟨wi g (nM g+1),true,ZT (ls.getD k default).kind (l.getD (a'%l.length) default),ZT (ls.getD k default).kind (l.getD (a'%l.length) default)⟩⟩:Ck)]))) ⟨.refl _,Uc rfl (by simp;try rfl) (by simp;try rfl),trivial⟩⟩,?_⟩
               exact V3 (fC (cw++[(⟨(wi g 257),(wi (dv g 13) 9000),(wr .u32 g),((p0::pt).map d2),knM g k,⟨wi g (nM g+1),true,ZT (ls.getD k default).kind (l.getD (a'%l.length) default),ZT (ls.getD k default).kind (l.getD (a'%l.length) default)⟩⟩:Ck)])) (by decide) rfl (by rw[hmi];first|rfl|exact Xb _ (⟨(wi g 257),(wi (dv g 13) 9000),(wr .u32 g),((p0::pt).map d2),knM g k,⟨wi g (nM g+1),true,ZT (ls.getD k default).kind (l.getD (a'%l.length) default),ZT (ls.getD k default).kind (l.getD (a'%l.length) default)⟩⟩:Ck)|(show List.take cw.length (List.drop 0 (cw.map encC))++[encC (⟨(wi g 257),(wi (dv g 13) 9000),(wr .u32 g),((p0::pt).map d2),knM g k,⟨wi g (nM g+1),true,ZT (ls.getD k default).kind (l.getD (a'%l.length) default),ZT (ls.getD k default).kind (l.getD (a'%l.length) default)⟩⟩:Ck)]=_;exact Xb _ _)) (by simp;try rfl) trivial
             ·have hcm:ZE g k (ls.getD k default).kind l a'=(⟨(wi g 257),(wi (dv g 13) 9000),(wr .u32 g),((p0::pt).map d2),knM g k,default⟩,a'):=by
               unfold ZE
               rw[hck,if_neg (fun hh=>hll0 hh.2)]
              repeat' first|refine And.intro ?_ ?_|(intro h;try first|exact dzq|replace h:=cvq)
              all_goals try exact czq
              refine⟨fS s gs l ls a' i g rz k cw (wi g 257) (wi (dv g 13) 9000) (wr .u32 g) ((p0::pt).map d2) false,Reb.trans (s':=eS2 s gs l ls a' i g rz k cw (wi g 257) (wi (dv g 13) 9000) (wr .u32 g) ((p0::pt).map d2) false) (ZZ [0,1,2,3,4,5,6] rfl rfl rfl rfl (by exact rfl) ⟨.refl _,.refl _,.refl _,.refl _,.refl _,.refl _,.refl _,.refl _,.refl _,.refl _,ZG (by first|rfl|rw[if_pos rfl,decide_eq_false (by omega)]),trivial⟩ rfl (fun ρ hρ=>⟨.refl _,.refl _,ZC hρ,trivial⟩) rfl rfl ⟨⟨by decide,_,rfl,QE (row:=Zw (nM g) (ZW 5 11 cw)) ⟨.refl _,ZC rfl,trivial⟩⟩,Y7 (fC cw) (by decide) rfl ⟨⟨by decide,_,rfl,QE (row:=XP (wi g 257) (wi (dv g 13) 9000) (wr .u32 g) (.slice 6 0 (((p0::pt).map d2)).length 7 none) (knM g k) 0 false) ⟨.refl _,.refl _,.refl _,Q8 hp7,.refl _,.refl _,.refl _,.refl _,.refl _,.refl _,.refl _,trivial⟩⟩,⟨⟨by decide,_,rfl,Qa (fP _)⟩,trivial⟩⟩⟩) (DS s gs l ls a' i g rz k cw (wi g 257) (wi (dv g 13) 9000) (wr .u32 g) ((p0::pt).map d2) false hp6),?_⟩
              rw[hcm]at hcs
              have hcs':Wl g l (Q5 ls) a (k+1)=((cw++[(⟨(wi g 257),(wi (dv g 13) 9000),(wr .u32 g),((p0::pt).map d2),knM g k,default⟩:Ck)]),a'):=hcs
              repeat' first|refine And.intro ?_ ?_|(intro h;try first|exact dzq|replace h:=cvq)
              all_goals try exact czq
              all_goals(try((with_reducible show(_:Nat)≤_);first|(show(cw.length+1)*120≤_;omega)|(show cw.length+1≤_;omega)))
              exact⟨_,iS s gs l ls a' i g rz (k+1) (cw++[(⟨(wi g 257),(wi (dv g 13) 9000),(wr .u32 g),((p0::pt).map d2),knM g k,default⟩:Ck)]),ZZ [0,1,2,3,4,8,6] rfl rfl rfl rfl (by exact rfl) ⟨.refl _,.refl _,.refl _,.refl _,.refl _,.refl _,.refl _,.refl _,Qm (by omega),trivial⟩ rfl (fun ρ hρ=>⟨.refl _,.refl _,ZC hρ,trivial⟩) rfl rfl ⟨⟨by decide,_,rfl,QE (row:=Zw (nM g) (ZW 5 11 (cw++[(⟨(wi g 257),(wi (dv g 13) 9000),(wr .u32 g),((p0::pt).map d2),knM g k,default⟩:Ck)]))) ⟨.refl _,Uc rfl (by simp;try rfl) (by simp;try rfl),trivial⟩⟩,V3 (fC (cw++[(⟨(wi g 257),(wi (dv g 13) 9000),(wr .u32 g),((p0::pt).map d2),knM g k,default⟩:Ck)])) (by decide) rfl (by first|rfl|exact Xb _ ⟨(wi g 257),(wi (dv g 13) 9000),(wr .u32 g),((p0::pt).map d2),knM g k,default⟩|(show List.take cw.length (List.drop 0 (cw.map encC))++[encC ⟨(wi g 257),(wi (dv g 13) 9000),(wr .u32 g),((p0::pt).map d2),knM g k,default⟩]=_;exact Xb _ _)) (by simp;try rfl) trivial⟩,⟨k+1,⟨by omega,rfl⟩,by rw[hcs']⟩,by omega⟩
            ·have hcm:ZE g k (ls.getD k default).kind l a'=(⟨(wi g 257),(wi (dv g 13) 9000),(wr .u32 g),((p0::pt).map d2),knM g k,default⟩,a'):=by
              unfold ZE
              rw[hck,if_neg (fun hh=>by have h1:knM g k=true:=hh.1;unfold knM at h1;rw[decide_eq_false hkn]at h1;cases h1)]
             repeat' first|refine And.intro ?_ ?_|(intro h;try first|exact dzq|replace h:=cvq)
             all_goals try exact czq
             refine⟨fS s gs l ls a' i g rz k cw (wi g 257) (wi (dv g 13) 9000) (wr .u32 g) ((p0::pt).map d2) false,Reb.trans (s':=eS2 s gs l ls a' i g rz k cw (wi g 257) (wi (dv g 13) 9000) (wr .u32 g) ((p0::pt).map d2) false) (ZZ [0,1,2,3,4,5,6] rfl rfl rfl rfl (by exact rfl) ⟨.refl _,.refl _,.refl _,.refl _,.refl _,.refl _,.refl _,.refl _,.refl _,.refl _,ZG (by first|rfl|rw[if_pos rfl,decide_eq_false (by omega)]),trivial⟩ rfl (fun ρ hρ=>⟨.refl _,.refl _,ZC hρ,trivial⟩) rfl rfl ⟨⟨by decide,_,rfl,QE (row:=Zw (nM g) (ZW 5 11 cw)) ⟨.refl _,ZC rfl,trivial⟩⟩,Y7 (fC cw) (by decide) rfl ⟨⟨by decide,_,rfl,QE (row:=XP (wi g 257) (wi (dv g 13) 9000) (wr .u32 g) (.slice 6 0 (((p0::pt).map d2)).length 7 none) (knM g k) 0 false) ⟨.refl _,.refl _,.refl _,Q8 hp7,.refl _,.refl _,.refl _,.refl _,.refl _,.refl _,.refl _,trivial⟩⟩,⟨⟨by decide,_,rfl,Qa (fP _)⟩,trivial⟩⟩⟩) (DS s gs l ls a' i g rz k cw (wi g 257) (wi (dv g 13) 9000) (wr .u32 g) ((p0::pt).map d2) false hp6),?_⟩
             rw[hcm]at hcs
             have hcs':Wl g l (Q5 ls) a (k+1)=((cw++[(⟨(wi g 257),(wi (dv g 13) 9000),(wr .u32 g),((p0::pt).map d2),knM g k,default⟩:Ck)]),a'):=hcs
             repeat' first|refine And.intro ?_ ?_|(intro h;try first|exact dzq|replace h:=cvq)
             all_goals try exact czq
             all_goals(try((with_reducible show(_:Nat)≤_);first|(show(cw.length+1)*120≤_;omega)|(show cw.length+1≤_;omega)))
             exact⟨_,iS s gs l ls a' i g rz (k+1) (cw++[(⟨(wi g 257),(wi (dv g 13) 9000),(wr .u32 g),((p0::pt).map d2),knM g k,default⟩:Ck)]),ZZ [0,1,2,3,4,8,6] rfl rfl rfl rfl (by exact rfl) ⟨.refl _,.refl _,.refl _,.refl _,.refl _,.refl _,.refl _,.refl _,Qm (by omega),trivial⟩ rfl (fun ρ hρ=>⟨.refl _,.refl _,ZC hρ,trivial⟩) rfl rfl ⟨⟨by decide,_,rfl,QE (row:=Zw (nM g) (ZW 5 11 (cw++[(⟨(wi g 257),(wi (dv g 13) 9000),(wr .u32 g),((p0::pt).map d2),knM g k,default⟩:Ck)]))) ⟨.refl _,Uc rfl (by simp;try rfl) (by simp;try rfl),trivial⟩⟩,V3 (fC (cw++[(⟨(wi g 257),(wi (dv g 13) 9000),(wr .u32 g),((p0::pt).map d2),knM g k,default⟩:Ck)])) (by decide) rfl (by first|rfl|exact Xb _ ⟨(wi g 257),(wi (dv g 13) 9000),(wr .u32 g),((p0::pt).map d2),knM g k,default⟩|(show List.take cw.length (List.drop 0 (cw.map encC))++[encC ⟨(wi g 257),(wi (dv g 13) 9000),(wr .u32 g),((p0::pt).map d2),knM g k,default⟩]=_;exact Xb _ _)) (by simp;try rfl) trivial⟩,⟨k+1,⟨by omega,rfl⟩,by rw[hcs']⟩,by omega⟩
        ·have hck:Wn g k=⟨0,0,0,p0::pt,knM g k,default⟩:=by unfold Wn;rw[if_neg hd,←hpe];rfl
         have hp6:0<((p0::pt)).length:=by simp
         have hp7:(p0::pt).length=((p0::pt)).length:=by simp
         by_cases hkn:0<wi (dv g 3+k) 3
         ·by_cases hll0:0<l.length
          · repeat' first|refine And.intro ?_ ?_|(intro h;try first|exact dzq|replace h:=cvq)
            all_goals try exact czq
            refine⟨fS s gs l ls a' i g rz k cw 0 0 0 (p0::pt) true,Reb.trans (s':=eS2 s gs l ls a' i g rz k cw 0 0 0 (p0::pt) true) (ZZ [0,1,2,3,4,5,6] rfl rfl rfl rfl (by exact rfl) ⟨.refl _,.refl _,.refl _,.refl _,.refl _,.refl _,.refl _,.refl _,.refl _,.refl _,ZG (by rw[if_pos rfl,decide_eq_true (by omega)]),trivial⟩ rfl (fun ρ hρ=>⟨.refl _,.refl _,ZC hρ,trivial⟩) rfl rfl ⟨⟨by decide,_,rfl,QE (row:=Zw (nM g) (ZW 5 11 cw)) ⟨.refl _,ZC rfl,trivial⟩⟩,Y7 (fC cw) (by decide) rfl ⟨⟨by decide,_,rfl,QE (row:=XP 0 0 0 (.slice 6 0 ((p0::pt)).length 7 none) (knM g k) 0 false) ⟨.refl _,.refl _,.refl _,Q8 hp7,.refl _,.refl _,.refl _,.refl _,.refl _,.refl _,.refl _,trivial⟩⟩,⟨⟨by decide,_,rfl,Qa (fP _)⟩,trivial⟩⟩⟩) (DS s gs l ls a' i g rz k cw 0 0 0 (p0::pt) true hp6),?_⟩
            have hmi:((a':Nat):Int).tmod ((l.length:Nat):Int)=((a'%l.length:Nat):Int):=(Int.ofNat_tmod ..).symm
            have hmlt:=Nat.mod_lt a' hll0
            repeat' first|refine And.intro ?_ ?_|(intro h;try first|exact dzq|replace h:=cvq)
            all_goals try exact czq
            refine⟨(ls.getD k default).kind,l.getD (a'%l.length) default,?_,?_⟩
            ·rw[hmi];rfl
            have ha9:a'≤5000:=by
             have h1:(Q5 ls).length≤1000:=by omega
             have h2:=Nat.mul_le_mul (show i≤4 by omega) h1
             omega
            repeat' first|refine And.intro ?_ ?_|(intro h;try first|exact dzq|replace h:=cvq)
            all_goals try exact czq
            refine⟨g,nM g+1,(by show[AVal.int .i64 (gs.getD i 0),_]=_;rw[hge];rfl),by omega,?_⟩
            repeat' first|refine And.intro ?_ ?_|(intro h;try first|exact dzq|replace h:=cvq)
            all_goals try exact czq
            have hcm:ZE g k (ls.getD k default).kind l a'=(⟨0,0,0,(p0::pt),knM g k,⟨wi g (nM g+1),true,ZT (ls.getD k default).kind (l.getD (a'%l.length) default),ZT (ls.getD k default).kind (l.getD (a'%l.length) default)⟩⟩,a'+1):=by
             unfold ZE
             rw[hck,if_pos ⟨decide_eq_true hkn,hll0⟩]
            have hcs':Wl g l (Q5 ls) a (k+1)=((cw++[(⟨0,0,0,(p0::pt),knM g k,⟨wi g (nM g+1),true,ZT (ls.getD k default).kind (l.getD (a'%l.length) default),ZT (ls.getD k default).kind (l.getD (a'%l.length) default)⟩⟩:Ck)]),a'+1):=hcs.trans (by rw[hcm])
            repeat' first|refine And.intro ?_ ?_|(intro h;try first|exact dzq|replace h:=cvq)
            all_goals try exact czq
            all_goals(try((with_reducible show(_:Nat)≤_);first|(show(cw.length+1)*120≤_;omega)|(show cw.length+1≤_;omega)))
            refine⟨_,iS s gs l ls (a'+1) i g rz (k+1) (cw++[(⟨0,0,0,(p0::pt),knM g k,⟨wi g (nM g+1),true,ZT (ls.getD k default).kind (l.getD (a'%l.length) default),ZT (ls.getD k default).kind (l.getD (a'%l.length) default)⟩⟩:Ck)]),?_,⟨k+1,⟨by omega,rfl⟩,by rw[hcs']⟩,by omega⟩
            refine ZZ [0,1,2,3,4,7+14*RR+1+10*RR+1+1,6] rfl rfl rfl rfl (by kernel_rfl) ⟨.refl _,.refl _,.refl _,.refl _,.refl _,Qm (by omega),.refl _,.refl _,Qm (by omega),trivial⟩ rfl (fun ρ hρ=>⟨.refl _,.refl _,ZC hρ,trivial⟩) rfl rfl ⟨⟨by decide,_,rfl,QE (row:=Zw (nM g) (ZW 5 11 (cw++[(⟨0,0,0,(p0::pt),knM g k,⟨wi g (nM g+1),true,ZT (ls.getD k default).kind (l.getD (a'%l.length) default),ZT (ls.getD k default).kind (l.getD (a'%l.length) default)⟩⟩:Ck)]))) ⟨.refl _,Uc rfl (by simp;try rfl) (by simp;try rfl),trivial⟩⟩,?_⟩
            exact V3 (fC (cw++[(⟨0,0,0,(p0::pt),knM g k,⟨wi g (nM g+1),true,ZT (ls.getD k default).kind (l.getD (a'%l.length) default),ZT (ls.getD k default).kind (l.getD (a'%l.length) default)⟩⟩:Ck)])) (by decide) rfl (by rw[hmi];first|rfl|exact Xb _ (⟨0,0,0,(p0::pt),knM g k,⟨wi g (nM g+1),true,ZT (ls.getD k default).kind (l.getD (a'%l.length) default),ZT (ls.getD k default).kind (l.getD (a'%l.length) default)⟩⟩:Ck)|(show List.take cw.length (List.drop 0 (cw.map encC))++[encC (⟨0,0,0,(p0::pt),knM g k,⟨wi g (nM g+1),true,ZT (ls.getD k default).kind (l.getD (a'%l.length) default),ZT (ls.getD k default).kind (l.getD (a'%l.length) default)⟩⟩:Ck)]=_;exact Xb _ _)) (by simp;try rfl) trivial
          ·have hcm:ZE g k (ls.getD k default).kind l a'=(⟨0,0,0,(p0::pt),knM g k,default⟩,a'):=by
            unfold ZE
            rw[hck,if_neg (fun hh=>hll0 hh.2)]
           repeat' first|refine And.intro ?_ ?_|(intro h;try first|exact dzq|replace h:=cvq)
           all_goals try exact czq
           refine⟨fS s gs l ls a' i g rz k cw 0 0 0 (p0::pt) false,Reb.trans (s':=eS2 s gs l ls a' i g rz k cw 0 0 0 (p0::pt) false) (ZZ [0,1,2,3,4,5,6] rfl rfl rfl rfl (by exact rfl) ⟨.refl _,.refl _,.refl _,.refl _,.refl _,.refl _,.refl _,.refl _,.refl _,.refl _,ZG (by first|rfl|rw[if_pos rfl,decide_eq_false (by omega)]),trivial⟩ rfl (fun ρ hρ=>⟨.refl _,.refl _,ZC hρ,trivial⟩) rfl rfl ⟨⟨by decide,_,rfl,QE (row:=Zw (nM g) (ZW 5 11 cw)) ⟨.refl _,ZC rfl,trivial⟩⟩,Y7 (fC cw) (by decide) rfl ⟨⟨by decide,_,rfl,QE (row:=XP 0 0 0 (.slice 6 0 ((p0::pt)).length 7 none) (knM g k) 0 false) ⟨.refl _,.refl _,.refl _,Q8 hp7,.refl _,.refl _,.refl _,.refl _,.refl _,.refl _,.refl _,trivial⟩⟩,⟨⟨by decide,_,rfl,Qa (fP _)⟩,trivial⟩⟩⟩) (DS s gs l ls a' i g rz k cw 0 0 0 (p0::pt) false hp6),?_⟩
           rw[hcm]at hcs
           have hcs':Wl g l (Q5 ls) a (k+1)=((cw++[(⟨0,0,0,(p0::pt),knM g k,default⟩:Ck)]),a'):=hcs
           repeat' first|refine And.intro ?_ ?_|(intro h;try first|exact dzq|replace h:=cvq)
           all_goals try exact czq
           all_goals(try((with_reducible show(_:Nat)≤_);first|(show(cw.length+1)*120≤_;omega)|(show cw.length+1≤_;omega)))
           exact⟨_,iS s gs l ls a' i g rz (k+1) (cw++[(⟨0,0,0,(p0::pt),knM g k,default⟩:Ck)]),ZZ [0,1,2,3,4,8,6] rfl rfl rfl rfl (by exact rfl) ⟨.refl _,.refl _,.refl _,.refl _,.refl _,.refl _,.refl _,.refl _,Qm (by omega),trivial⟩ rfl (fun ρ hρ=>⟨.refl _,.refl _,ZC hρ,trivial⟩) rfl rfl ⟨⟨by decide,_,rfl,QE (row:=Zw (nM g) (ZW 5 11 (cw++[(⟨0,0,0,(p0::pt),knM g k,default⟩:Ck)]))) ⟨.refl _,Uc rfl (by simp;try rfl) (by simp;try rfl),trivial⟩⟩,V3 (fC (cw++[(⟨0,0,0,(p0::pt),knM g k,default⟩:Ck)])) (by decide) rfl (by first|rfl|exact Xb _ ⟨0,0,0,(p0::pt),knM g k,default⟩|(show List.take cw.length (List.drop 0 (cw.map encC))++[encC ⟨0,0,0,(p0::pt),knM g k,default⟩]=_;exact Xb _ _)) (by simp;try rfl) trivial⟩,⟨k+1,⟨by omega,rfl⟩,by rw[hcs']⟩,by omega⟩
         ·have hcm:ZE g k (ls.getD k default).kind l a'=(⟨0,0,0,(p0::pt),knM g k,default⟩,a'):=by
           unfold ZE
           rw[hck,if_neg (fun hh=>by have h1:knM g k=true:=hh.1;unfold knM at h1;rw[decide_eq_false hkn]at h1;cases h1)]
          repeat' first|refine And.intro ?_ ?_|(intro h;try first|exact dzq|replace h:=cvq)
          all_goals try exact czq
          refine⟨fS s gs l ls a' i g rz k cw 0 0 0 (p0::pt) false,Reb.trans (s':=eS2 s gs l ls a' i g rz k cw 0 0 0 (p0::pt) false) (ZZ [0,1,2,3,4,5,6] rfl rfl rfl rfl (by exact rfl) ⟨.refl _,.refl _,.refl _,.refl _,.refl _,.refl _,.refl _,.refl _,.refl _,.refl _,ZG (by first|rfl|rw[if_pos rfl,decide_eq_false (by omega)]),trivial⟩ rfl (fun ρ hρ=>⟨.refl _,.refl _,ZC hρ,trivial⟩) rfl rfl ⟨⟨by decide,_,rfl,QE (row:=Zw (nM g) (ZW 5 11 cw)) ⟨.refl _,ZC rfl,trivial⟩⟩,Y7 (fC cw) (by decide) rfl ⟨⟨by decide,_,rfl,QE (row:=XP 0 0 0 (.slice 6 0 ((p0::pt)).length 7 none) (knM g k) 0 false) ⟨.refl _,.refl _,.refl _,Q8 hp7,.refl _,.refl _,.refl _,.refl _,.refl _,.refl _,.refl _,trivial⟩⟩,⟨⟨by decide,_,rfl,Qa (fP _)⟩,trivial⟩⟩⟩) (DS s gs l ls a' i g rz k cw 0 0 0 (p0::pt) false hp6),?_⟩
          rw[hcm]at hcs
          have hcs':Wl g l (Q5 ls) a (k+1)=((cw++[(⟨0,0,0,(p0::pt),knM g k,default⟩:Ck)]),a'):=hcs
          repeat' first|refine And.intro ?_ ?_|(intro h;try first|exact dzq|replace h:=cvq)
          all_goals try exact czq
          all_goals(try((with_reducible show(_:Nat)≤_);first|(show(cw.length+1)*120≤_;omega)|(show cw.length+1≤_;omega)))
          exact⟨_,iS s gs l ls a' i g rz (k+1) (cw++[(⟨0,0,0,(p0::pt),knM g k,default⟩:Ck)]),ZZ [0,1,2,3,4,8,6] rfl rfl rfl rfl (by exact rfl) ⟨.refl _,.refl _,.refl _,.refl _,.refl _,.refl _,.refl _,.refl _,Qm (by omega),trivial⟩ rfl (fun ρ hρ=>⟨.refl _,.refl _,ZC hρ,trivial⟩) rfl rfl ⟨⟨by decide,_,rfl,QE (row:=Zw (nM g) (ZW 5 11 (cw++[(⟨0,0,0,(p0::pt),knM g k,default⟩:Ck)]))) ⟨.refl _,Uc rfl (by simp;try rfl) (by simp;try rfl),trivial⟩⟩,V3 (fC (cw++[(⟨0,0,0,(p0::pt),knM g k,default⟩:Ck)])) (by decide) rfl (by first|rfl|exact Xb _ ⟨0,0,0,(p0::pt),knM g k,default⟩|(show List.take cw.length (List.drop 0 (cw.map encC))++[encC ⟨0,0,0,(p0::pt),knM g k,default⟩]=_;exact Xb _ _)) (by simp;try rfl) trivial⟩,⟨k+1,⟨by omega,rfl⟩,by rw[hcs']⟩,by omega⟩
     skip)
   ·obtain rfl:k=ls.length:=by omega
    have hce:Z2 g l (Q5 ls) 0 a=Wl g l (Q5 ls) a ls.length:=by rw[Iq _ _ _ _ _ (by omega),←hkl,List.take_length]
    rw[hce]at hst
    generalize Wl g l (Q5 ls) a ls.length=qc at *
    obtain⟨cs,a'⟩:=qc
    dsimp only at hst
    clear hce
    repeat' first|refine And.intro ?_ ?_|(intro h;try first|exact dzq|replace h:=cvq)
    all_goals try exact czq
    refine⟨hS s gs l ls a' i g rz cs,Reb.trans (s':=h1S s gs l ls a' i g rz cs) (ZZ [0,1,2,3,4,5,6] rfl rfl rfl rfl (by exact rfl) ⟨.refl _,.refl _,.refl _,.refl _,.refl _,.refl _,.refl _,.refl _,ZG (by rw[decide_eq_false (by omega)]),trivial⟩ rfl (fun ρ hρ=>⟨.refl _,.refl _,ZC hρ,trivial⟩) rfl rfl ⟨⟨by decide,_,rfl,QE (row:=Zw (nM g) (ZW 5 11 cs)) ⟨.refl _,ZC rfl,trivial⟩⟩,Y7 (fC cs) (by decide) rfl trivial⟩) (Q0y s gs l ls a' i g rz cs),?_⟩
    repeat' first|refine And.intro ?_ ?_|(intro h;try first|exact dzq|replace h:=cvq)
    all_goals try exact czq
    all_goals(try((with_reducible show(_:Nat)≤_);first|omega|(show((rz).length+1)*16≤_;omega)|(show(rz).length+1≤_;omega)))
    have hsn:Zj (rz++[(⟨nM g,cs⟩:Rw)])=Zj rz+nM g:=by simp only[KK,Zj,Int.add_zero]
    exact⟨_,oS s gs l ls a' (i+1) (Zj (rz++[(⟨nM g,cs⟩:Rw)])) (rz++[(⟨nM g,cs⟩:Rw)]),Ri (K:=8) [0,1,2,8,4,5,6] rfl rfl rfl rfl (by exact rfl) ⟨.refl _,.refl _,.refl _,.refl _,.refl _,.refl _,Qm (by omega),trivial⟩ rfl (fun ρ hρ=>⟨.refl _,Qm hsn.symm,Uc hρ (by simp;try rfl) (by simp;try rfl),trivial⟩) rfl rfl (by first|rfl|exact Tn _ _) (by simp;try rfl) trivial,⟨i+1,⟨by omega,rfl⟩,by rw[hst]⟩,by omega⟩
   skip)
 ·obtain rfl:i=(gs.take 4).length:=by omega
  generalize YM (Q5 ls) l gs (gs.take 4).length=qa at *
  obtain⟨rs,a⟩:=qa
  dsimp only
  repeat' first|refine And.intro ?_ ?_|(intro h;try first|exact dzq|replace h:=cvq)
  all_goals try exact czq
  all_goals refine⟨zS s rs,Reb.trans (s':=z1S s rs) (ZZ [0,1,2,3,4,5,6] rfl rfl rfl rfl (by exact rfl) ⟨.refl _,.refl _,ZG (by first|(simp;done)|(simp;omega)),trivial⟩ rfl (fun ρ hρ=>⟨.refl _,.refl _,ZC hρ,trivial⟩) rfl rfl trivial) (m_fz s rs),?_⟩
  repeat' first|refine And.intro ?_ ?_|(intro h;try first|exact dzq|replace h:=cvq)
  all_goals try exact czq
  all_goals exact⟨⟨[(6,.ptr 1 0 0)],[(0,some (.cells [QK (vF s) (Zj rs) (.vs 2 (rs.map encR))] false)),(1,some (.cells [Qv ⟨s,Zj rs,rs⟩] false))],2⟩,Q0 [0,1] (by exact rfl) ⟨.refl _,trivial⟩ ⟨⟨by decide,_,rfl,.refl _⟩,⟨by decide,_,rfl,Qs (row:=Qv ⟨s,Zj rs,rs⟩) ⟨.un rfl,.refl _,.refl _,trivial⟩ (eM _)⟩,trivial⟩,_,rfl,[],fun n b h=>(by rw[Heap.get_nil]at h;cases h),rfl,rfl⟩
def S_makeM:SpecI:=fun args K=>∃ns gs l,args=[vI ns,vI gs,vV l]∧(ns.length≤9223372036854775807∧gs.length≤9223372036854775807∧l.length≤9223372036854775807∧ ∀g∈gs,I64 g)∧K (.agg (Qv (Yt ns gs l)))
theorem O6[Syms]:Zs Try.prog 11 S_makeM:=by
 rintro args K ⟨ns,gs,l,rfl,⟨h1,h2,h3,h4⟩,hk⟩
 exact⟨rfl,_,rfl,hk,XF.forget (Qj Qf Qg IC IC.ok Qw (O7 ns gs l h1 h2 h3 h4))⟩
end
section
set_option maxRecDepth 100000
set_option maxHeartbeats 4000000
def YH{α:Type}(f:α→α→Bool):List α→List α→Bool
 |[],[]=>true
 |a::l,b::m=>f a b&&YH f l m
 |_,_=>false
def Fv(a b:Fd):Bool:=eqb a.name b.name&&(decide (a.rep=b.rep)&&(decide (a.kind=b.kind)&&(decide (a.kids=b.kids)&&true)))
def Bm(a b:Pg):Bool:=decide (a.rows=b.rows)&&(decide (a.cells=b.cells)&&(decide (a.enc=b.enc)&&(decide (a.rlen=b.rlen)&&(decide (a.dlen=b.dlen)&&(decide (a.vlen=b.vlen)&&(decide (a.crc=b.crc)&&true))))))
def SH(a b:Vl):Bool:=decide (a.n=b.n)&&(eqb a.s b.s&&true)
def Ni(a b:Sta):Bool:=(decide (a.nulls=b.nulls)&&true)&&((decide (a.has=b.has)&&true)&&(SH a.mn b.mn&&(SH a.mx b.mx&&true)))
def GS(a b:Ck):Bool:=decide (a.words=b.words)&&decide (a.size=b.size)&&decide (a.crc=b.crc)&&YH Bm a.pages b.pages&&decide (a.known=b.known)&&Ni a.st b.st
def Bi(a b:Rw):Bool:=decide (a.n=b.n)&&YH GS a.chunks b.chunks
def NZ(a b:Mt):Bool:=YH Fv a.s b.s&&decide (a.n=b.n)&&YH Bi a.groups b.groups
theorem UL{α:Type}[Inhabited α](f:α→α→Bool){l m:List α}{i:Nat}(h:i<l.length)(h2:i<m.length):YH f (l.drop i) (m.drop i)=(f (l.getD i default) (m.getD i default)&&YH f (l.drop (i+1)) (m.drop (i+1))):=by
 rw[List.drop_eq_getElem_cons h,List.drop_eq_getElem_cons h2,YH]
 simp[h,h2]
theorem Up{α:Type}(f:α→α→Bool):∀{l m:List α},l.length≠m.length→YH f l m=false
 |[],[],h=>absurd rfl h
 |[],_::_,_=>rfl
 |_::_,[],_=>rfl
 |a::l,b::m,h=>by rw[YH,Up f (by simpa using h)];simp
theorem KY{α:Type}(f:α→α→Bool){l m:List α}(h:l.length=m.length):YH f (l.drop l.length) (m.drop l.length)=true:=by
 rw[List.drop_length,h,List.drop_length];rfl
def S_eqFs:SpecI:=fun args K=>∃a b,args=[vF a,vF b]∧a.length≤1000000∧K (.bool (YH Fv a b))
end
section
set_option maxRecDepth 100000
set_option maxHeartbeats 4000000
def S_ckSame:SpecI:=fun args K=>∃a b,args=[.agg (encC a),.agg (encC b)]∧a.pages.length≤1000000∧K (.bool (GS a b))
def RwS(x:Rw):Prop:=x.chunks.length≤1000000∧ ∀c∈x.chunks,c.pages.length≤1000000
structure MtS(m:Mt):Prop where
 s:m.s.length≤1000000
 len:m.groups.length≤1000000
 groups:∀g∈m.groups,RwS g
def S_mtSame:SpecI:=fun args K=>∃a b,args=[.agg (Qv a),.agg (Qv b)]∧MtS a∧K (.bool (NZ a b))
end
section
set_option maxRecDepth 100000
set_option maxHeartbeats 4000000
theorem Q0l[Syms](a b:List Fd)(hl:a.length≤1000000):fnT Q7 Q7 (Qx fns) (Qo tys) (Qz plt) 100 37 [vF a,vF b] [] 0 (fun v H _=>v= .bool (YH Fv a b)∧H=[]):=by
 by_cases h0:a.length=b.length
 · repeat' first|refine And.intro ?_ ?_|(intro h;try first|exact dzq|replace h:=cvq)
   all_goals try exact czq
   refine⟨fun m s=>∃i:Nat,(i≤a.length∧m=a.length-i∧YH Fv a b=YH Fv (a.drop i) (b.drop i))∧s=⟨[(0,vF a),(1,vF b),(5,.int .i64 i)],[],0⟩,⟨_,⟨[(0,vF a),(1,vF b),(5,.int .i64 (0:Nat))],[],0⟩,Q0 [] rfl ⟨.refl _,.refl _,.refl _,trivial⟩ trivial,0,⟨by omega,rfl,rfl⟩,rfl⟩,?_⟩
   rintro m s ⟨i,⟨hi,rfl,he⟩,rfl⟩
   by_cases h1:i<a.length
   ·have hd:=UL (l:=a) (m:=b) Fv h1 (by omega)
    rw[←he]at hd
    cases hq:Fv (a.getD i default) (b.getD i default)
    ·rw[hq,Bool.false_and]at hd
     have hx1:(eqb (a.getD i default).name (b.getD i default).name&&(decide ((a.getD i default).rep=(b.getD i default).rep)&&(decide ((a.getD i default).kind=(b.getD i default).kind)&&(decide ((a.getD i default).kids=(b.getD i default).kids)&&true))))=false:=hq
     have hx2:=hx1
     have hx3:=hx1
     have hx4:=hx1
     rw[hd]
     repeat' first|refine And.intro ?_ ?_|(intro h;try first|exact Z8|replace h:=Z9)
     all_goals try exact czq
     all_goals first|exact⟨_,Q1 [4] rfl,_,rfl,rfl,rfl⟩|skip
    ·rw[hq,Bool.true_and]at hd
     have hx1:(eqb (a.getD i default).name (b.getD i default).name&&(decide ((a.getD i default).rep=(b.getD i default).rep)&&(decide ((a.getD i default).kind=(b.getD i default).kind)&&(decide ((a.getD i default).kids=(b.getD i default).kids)&&true))))=true:=hq
     have hx2:=hx1
     have hx3:=hx1
     have hx4:=hx1
     repeat' first|refine And.intro ?_ ?_|(intro h;try first|exact Z8|replace h:=Z9)
     all_goals try exact czq
     all_goals first|exact⟨_,⟨[(0,vF a),(1,vF b),(5,.int .i64 ((i+1:Nat):Int))],[],0⟩,Q0 [] rfl ⟨.refl _,.refl _,Qm (by omega),trivial⟩ trivial,⟨i+1,⟨by omega,rfl,hd⟩,rfl⟩,by omega⟩|skip
   ·obtain rfl:i=a.length:=by omega
    rw[he,KY _ h0]
    repeat' first|refine And.intro ?_ ?_|(intro h;try first|exact dzq|replace h:=cvq)
    all_goals try exact czq
    exact⟨_,Q1 [4] rfl,_,rfl,rfl,rfl⟩
 ·rw[Up _ h0]
  repeat' first|refine And.intro ?_ ?_|(intro h;try first|exact dzq|replace h:=cvq)
  all_goals try exact czq
  exact⟨_,Q1 [4] rfl,_,rfl,rfl,rfl⟩
theorem T7[Syms]:Zs Try.prog 37 S_eqFs:=by
 rintro args K ⟨a,b,rfl,h,hk⟩
 exact⟨rfl,_,rfl,hk,fnI Qf Qg Q3 Q9 Qw (Q0l a b h)⟩
noncomputable def plRm:Nat→Nat→Pl:=XD [(38,0),(17,0),(17,6)] (Qz plt)
abbrev ckT(c:Ck):List AVal:=[.int .i64 c.words,.int .i64 c.size,.int .u32 c.crc,vP c.pages,.bool c.known,.int .i64 c.st.nulls,.bool c.st.has,.int .i64 c.st.mn.n,.str c.st.mn.s,.int .i64 c.st.mx.n,.str c.st.mx.s]
def rsmS(ra rb:List AVal):St:=⟨[(2,.ptr 0 0 0),(3,.ptr 2 0 0)],[(0,some (.cells [ra] false)),(2,some (.cells [rb] false))],3⟩
def PL(ra rb:List AVal)(i:Nat):St:=⟨[(2,.ptr 0 0 0),(3,.ptr 2 0 0),(5,.int .i64 i)],[(0,some (.cells [ra] false)),(2,some (.cells [rb] false))],3⟩
theorem up3[Syms]{na N:Nat}{e:Env}{H:Heap}{nx nx':Nat}(h:nx≤nx'):Reb na N ⟨e,H,nx⟩ ⟨e,H,nx'⟩:=
 ⟨fun x=>Nat.le_trans x h,fun ι a w hS=>⟨ι,⟨hS.defers,hS.size,hS.env,hS.heap,fun n L hn=>⟨Nat.lt_of_lt_of_le (hS.bound n L hn).1 h,(hS.bound n L hn).2⟩⟩,.refl ..⟩⟩
theorem PK[Syms]{N:Nat}{e:Env}{H:Heap}{ra rb ra' rb':List AVal}(h2:e.get 2= .ptr 0 0 0)(h3:e.get 3= .ptr 1 0 0)(H0:H.get 0=some (.cells [ra'] false))(H1:H.get 1=some (.cells [rb'] false))(ha:Wf ra' ra)(hb:Wf rb' rb)(fa:∀x∈ra,x.flat=true)(fb:∀x∈rb,x.flat=true):Reb 0 N ⟨e,H,2⟩ (rsmS ra rb):=
 (up3 (nx':=3) (by decide)).trans (Q0 [0,2,1] (by exact rfl) ⟨by rw[h2];exact .refl _,by rw[h3];exact .refl _,trivial⟩ ⟨⟨by decide,_,H0,Qs ha fa⟩,⟨by decide,_,H1,Qs hb fb⟩,trivial⟩)
theorem Ch[Syms]{N nx:Nat}{e:Env}{H:Heap}{i:Nat}{z:Int}{ra rb:List AVal}(h2:e.get 2= .ptr 0 0 0)(h3:e.get 3= .ptr 2 0 0)(h5:e.get 5= .int .i64 z)(hz:z=i)(H0:H.get 0=some (.cells [ra] false))(H2:H.get 2=some (.cells [rb] false))(fa:∀x∈ra,x.flat=true)(fb:∀x∈rb,x.flat=true)(hn:QJ 0 nx [0,1,2]=true):Reb 0 N ⟨e,H,nx⟩ (PL ra rb i):=by
 subst hz
 exact Q0 [0,1,2] hn ⟨by rw[h2];exact .refl _,by rw[h3];exact .refl _,by rw[h5];exact .refl _,trivial⟩ ⟨⟨by decide,_,H0,Qa (ZM fa QL)⟩,⟨by decide,_,H2,Qa (ZM fb QL)⟩,trivial⟩
theorem fCt(c:Ck):∀x∈ckT c,x.flat=true:=fun x hx=>by simp at hx;rcases hx with rfl|rfl|rfl|rfl|rfl|rfl|rfl|rfl|rfl|rfl|rfl<;>rfl
theorem Q0k[Syms](a b:Ck)(hl:a.pages.length≤1000000):fnT Q7 Q7 (Qx fns) (Qo tys) plRm 100 38 [.agg (encC a),.agg (encC b)] [] 0 (fun v H _=>v= .bool (GS a b)∧H=[]):=by
 repeat' first|refine And.intro ?_ ?_|(intro h;try first|exact dzq|replace h:=cvq)
 all_goals try exact cz
 refine⟨rsmS (ckT a) (ckT b),PK rfl rfl rfl rfl ⟨.refl _,.refl _,.refl _,.tab rfl,.refl _,.refl _,.refl _,.refl _,.refl _,.refl _,.refl _,trivial⟩ ⟨.refl _,.refl _,.refl _,.tab rfl,.refl _,.refl _,.refl _,.refl _,.refl _,.refl _,.refl _,trivial⟩ (fCt a) (fCt b),?_⟩
 have hq:GS a b=(decide (a.words=b.words)&&decide (a.size=b.size)&&decide (a.crc=b.crc)&&YH Bm a.pages b.pages&&decide (a.known=b.known)&&Ni a.st b.st):=rfl
 rw[hq]
 clear hq
 by_cases h1:a.words=b.words
 case neg=>
  repeat' first|refine And.intro ?_ ?_|(intro h;try first|exact dzq|replace h:=cvq)
  all_goals try exact czq
  all_goals exact⟨_,Q1 [4] rfl,_,rfl,congrArg AVal.bool (by simp[*]),rfl⟩
 by_cases h2:a.size=b.size
 case neg=>
  repeat' first|refine And.intro ?_ ?_|(intro h;try first|exact dzq|replace h:=cvq)
  all_goals try exact czq
  all_goals exact⟨_,Q1 [4] rfl,_,rfl,congrArg AVal.bool (by simp[*]),rfl⟩
 by_cases h3:a.crc=b.crc
 case neg=>
  repeat' first|refine And.intro ?_ ?_|(intro h;try first|exact dzq|replace h:=cvq)
  all_goals try exact czq
  all_goals exact⟨_,Q1 [4] rfl,_,rfl,congrArg AVal.bool (by simp[*]),rfl⟩
 by_cases h4:a.pages.length=b.pages.length
 case neg=>
  have h5:=Up Bm h4
  repeat' first|refine And.intro ?_ ?_|(intro h;try first|exact dzq|replace h:=cvq)
  all_goals try exact czq
  all_goals exact⟨_,Q1 [4] rfl,_,rfl,congrArg AVal.bool (by simp[*]),rfl⟩
 by_cases h5:a.known=b.known
 case neg=>
  have hx1:(a.known=b.known)=False:=eq_false h5
  have hx2:=hx1
  have hx3:=hx1
  have hx4:=hx1
  repeat' first|refine And.intro ?_ ?_|(intro h;try first|exact Z8|replace h:=Z9)
  all_goals try exact czq
  all_goals exact⟨_,Q1 [4] rfl,_,rfl,congrArg AVal.bool (by simp[*]),rfl⟩
 have hx1:(a.known=b.known)=True:=eq_true h5
 have hq:Ni a.st b.st=(decide (a.st.nulls=b.st.nulls)&&true&&(decide (a.st.has=b.st.has)&&true&&(decide (a.st.mn.n=b.st.mn.n)&&(eqb a.st.mn.s b.st.mn.s&&true)&&(decide (a.st.mx.n=b.st.mx.n)&&(eqb a.st.mx.s b.st.mx.s&&true)&&true)))):=rfl
 rw[decide_eq_true h1,decide_eq_true h2,decide_eq_true h3,decide_eq_true h5]
 cases h6:Ni a.st b.st
 ·have hx2:=hq.symm.trans h6
  have hx3:=hx2
  have hx4:=hx2
  rw[Bool.and_false]
  clear hq
  repeat' first|refine And.intro ?_ ?_|(intro h;try first|exact Z8|replace h:=Z9)
  all_goals try exact czq
  all_goals first|exact absurd h5 (by assumption)|exact absurd (hx2.symm.trans (by assumption)) (by decide)|exact⟨_,Q1 [4] rfl,_,rfl,rfl,rfl⟩
 ·have hx2:=hq.symm.trans h6
  have hx3:=hx2
  have hx4:=hx2
  rw[Bool.and_true,Bool.and_true]
  clear hq
  repeat' first|refine And.intro ?_ ?_|(intro h;try first|exact Z8|replace h:=Z9)
  all_goals try exact czq
  all_goals first|exact absurd h5 (by assumption)|exact absurd (hx2.symm.trans (by assumption)) (by decide)|skip
  refine⟨fun m s=>∃i:Nat,(i≤a.pages.length∧m=a.pages.length-i∧YH Bm a.pages b.pages=YH Bm (a.pages.drop i) (b.pages.drop i))∧s=PL (ckT a) (ckT b) i,⟨_,PL (ckT a) (ckT b) 0,Ch rfl rfl rfl rfl rfl rfl (fCt a) (fCt b) (by exact rfl),0,⟨by omega,rfl,rfl⟩,rfl⟩,?_⟩
  rintro m s ⟨i,⟨hi,rfl,he⟩,rfl⟩
  clear hx1 hx2 hx3 hx4
  by_cases hj:i<a.pages.length
  ·have hd:=UL (l:=a.pages) (m:=b.pages) Bm hj (by omega)
   rw[←he]at hd
   cases hq:Bm (a.pages.getD i default) (b.pages.getD i default)
   ·rw[hq,Bool.false_and]at hd
    have hx1:(decide ((a.pages.getD i default).rows=(b.pages.getD i default).rows)&&(decide ((a.pages.getD i default).cells=(b.pages.getD i default).cells)&&(decide ((a.pages.getD i default).enc=(b.pages.getD i default).enc)&&(decide ((a.pages.getD i default).rlen=(b.pages.getD i default).rlen)&&(decide ((a.pages.getD i default).dlen=(b.pages.getD i default).dlen)&&(decide ((a.pages.getD i default).vlen=(b.pages.getD i default).vlen)&&(decide ((a.pages.getD i default).crc=(b.pages.getD i default).crc)&&true)))))))=false:=hq
    have hx2:=hx1
    have hx3:=hx1
    have hx4:=hx1
    rw[hd]
    repeat' first|refine And.intro ?_ ?_|(intro h;try first|exact Z8|replace h:=Z9)
    all_goals try exact czq
    all_goals first|exact⟨_,Q1 [4] rfl,_,rfl,rfl,rfl⟩|skip
   ·rw[hq,Bool.true_and]at hd
    have hx1:(decide ((a.pages.getD i default).rows=(b.pages.getD i default).rows)&&(decide ((a.pages.getD i default).cells=(b.pages.getD i default).cells)&&(decide ((a.pages.getD i default).enc=(b.pages.getD i default).enc)&&(decide ((a.pages.getD i default).rlen=(b.pages.getD i default).rlen)&&(decide ((a.pages.getD i default).dlen=(b.pages.getD i default).dlen)&&(decide ((a.pages.getD i default).vlen=(b.pages.getD i default).vlen)&&(decide ((a.pages.getD i default).crc=(b.pages.getD i default).crc)&&true)))))))=true:=hq
    have hx2:=hx1
    have hx3:=hx1
    have hx4:=hx1
    repeat' first|refine And.intro ?_ ?_|(intro h;try first|exact Z8|replace h:=Z9)
    all_goals try exact czq
    all_goals exact⟨_,PL (ckT a) (ckT b) (i+1),Ch rfl rfl rfl (by omega) rfl rfl (fCt a) (fCt b) (by kernel_rfl),⟨i+1,⟨by omega,rfl,hd⟩,rfl⟩,by omega⟩
  ·obtain rfl:i=a.pages.length:=by omega
   rw[he,KY _ h4]
   repeat' first|refine And.intro ?_ ?_|(intro h;try first|exact dzq|replace h:=cvq)
   all_goals try exact czq
   exact⟨_,Q1 [4] rfl,_,rfl,rfl,rfl⟩
theorem T5[Syms]:Zs Try.prog 38 S_ckSame:=by
 rintro args K ⟨a,b,rfl,h,hk⟩
 exact⟨rfl,_,rfl,hk,fnI Qf Qg Q3 Q9 Qw (Q0k a b h)⟩
abbrev cRm:CallT:=Q6 37 (X0 (seeW S_eqFs)) (Q6 38 (X0 S_ckSame) Q7)
theorem Iz[Syms]:cRm.det Try.prog:=Zz T7.seeW (Zz T5 Q3)
theorem Ba[Syms]{N k2 k3 n0 n1 nx:Nat}{es:Env}{e:Env}{H:Heap}{ra rb ra' rb':List AVal}(hk:k3≠k2)(h2:e.get k2= .ptr n0 0 0)(h3:e.get k3= .ptr n1 0 0)(hne:n1≠n0)(H0:H.get n0=some (.cells [ra'] false))(H1:H.get n1=some (.cells [rb'] false))(ha:GU ra' ra)(hb:GU rb' rb)(fa:∀x∈ra',x.flat=true)(fb:∀x∈rb',x.flat=true)(e1:FzE n0 [ra'] e es)(e2:FzE n1 [rb'] ((k2,.vp ra 0)::(k3,.ptr n1 0 0)::es) es):Reb 0 N ⟨e,H,nx⟩ ⟨(k2,.vp ra 0)::(k3,.vp rb 0)::es,[],nx⟩:=by
 have r1:Reb 0 N ⟨e,H,nx⟩ ⟨(k2,.vp ra 0)::(k3,.ptr n1 0 0)::es,[(n1,some (.cells [rb'] false))],nx⟩:=by
  refine QH (n:=n0) (rows:=[ra']) H0 (ZM fa QL) ⟨?_,?_,e1⟩ ⟨⟨hne,_,H1,.same _⟩,trivial⟩
  ·rw[h2];exact .pt 0 0 ra' ra rfl ha
  ·rw[h3];exact .same _
 refine r1.trans (QH (n:=n1) (rows:=[rb']) ?_ (ZM fb QL) ⟨?_,?_,e2⟩ trivial)
 ·rw[Heap.get_cons,Nat.beq_refl];rfl
 ·rw[Env.get_cons,Nat.beq_refl];exact .same _
 ·rw[Env.get_cons,QP hk,Env.get_cons,Nat.beq_refl];exact .pt 0 0 rb' rb rfl hb
theorem sqm:(∀m,(Qv m).getD 0 .any= .vs 4 (m.s.map encF))∧(∀m,(Qv m).getD 1 .any= .int .i64 m.n)∧(∀m,(Qv m).getD 2 .any= .vs 2 (m.groups.map encR))∧(∀m,(Qv m).getD (0+0) .any= .vs 4 (m.s.map encF))∧(∀m,(Qv m).getD (0+1) .any= .int .i64 m.n)∧(∀m,(Qv m).getD (0+2) .any= .vs 2 (m.groups.map encR))∧(∀l:List Rw,(l.map encR).length=l.length)∧(∀l:List Ck,(l.map encC).length=l.length):=
 ⟨fun _=>rfl,fun _=>rfl,fun _=>rfl,fun _=>rfl,fun _=>rfl,fun _=>rfl,fun _=>List.length_map ..,fun _=>List.length_map ..⟩
def rmS(a b:Mt):St:=⟨[(2,.vp (Qv a) 0),(3,.vp (Qv b) 0)],[],2⟩
def rmI(a b:Mt)(i:Nat):St:=⟨[(2,.vp (Qv a) 0),(3,.vp (Qv b) 0),(5,.int .i64 i)],[],0⟩
def rmG(a b:Mt)(i:Nat)(g h:Rw):St:=⟨[(6,.vp (encR g) 0),(7,.vp (encR h) 0),(2,.vp (Qv a) 0),(3,.vp (Qv b) 0),(5,.int .i64 i)],[],0⟩
def rmJ(a b:Mt)(i:Nat)(g h:Rw)(j:Nat):St:=⟨[(6,.vp (encR g) 0),(7,.vp (encR h) 0),(2,.vp (Qv a) 0),(3,.vp (Qv b) 0),(5,.int .i64 i),(8,.int .i64 j)],[],0⟩
theorem Q0j[Syms](a b:Mt)(hms:MtS a):fnT cRm cRm (Qx fns) (Qo tys) plRm 100 17 [.agg (Qv a),.agg (Qv b)] [] 0 (fun v H _=>v= .bool (NZ a b)∧H=[]):=by
 repeat' first|refine And.intro ?_ ?_|(intro h;try first|exact dzq|replace h:=cvq)
 all_goals try exact cz
 refine⟨rmS a b,Ba (ra':=Qv a) (rb':=Qv b) (n0:=0) (n1:=1) (by decide) rfl rfl (by decide) rfl rfl ⟨.same _,.same _,.same _,trivial⟩ ⟨.same _,.same _,.same _,trivial⟩ (eM a) (eM b) trivial trivial,?_⟩
 have hq:NZ a b=(YH Fv a.s b.s&&decide (a.n=b.n)&&YH Bi a.groups b.groups):=rfl
 rw[hq]
 clear hq
 obtain⟨hs1,hs2,hs3⟩:=hms
 have hx1:=sqm
 have hx2:=hx1
 have hx3:=hx1
 have hx4:=hx1
 repeat' first|refine And.intro ?_ ?_|(intro h;try first|exact Z8|replace h:=Z9)
 all_goals try exact czq
 refine⟨[vF a.s,vF b.s],⟨.tab rfl,.tab rfl,trivial⟩,a.s,b.s,rfl,hs1,?_⟩
 have hga:(a.groups.map encR).length=a.groups.length:=List.length_map ..
 have hgb:(b.groups.map encR).length=b.groups.length:=List.length_map ..
 cases h1:YH Fv a.s b.s
 ·rw[Bool.false_and,Bool.false_and]
  repeat' first|refine And.intro ?_ ?_|(intro h;try first|exact Z8|replace h:=Z9)
  all_goals try exact czq
  all_goals exact⟨_,Q1 [4] rfl,_,rfl,rfl,rfl⟩
 rw[Bool.true_and]
 by_cases h2:a.n=b.n
 case neg=>
  rw[decide_eq_false h2,Bool.false_and]
  repeat' first|refine And.intro ?_ ?_|(intro h;try first|exact Z8|replace h:=Z9)
  all_goals try exact czq
  all_goals exact⟨_,Q1 [4] rfl,_,rfl,rfl,rfl⟩
 rw[decide_eq_true h2,Bool.true_and]
 by_cases h3:a.groups.length=b.groups.length
 case neg=>
  rw[Up Bi h3]
  repeat' first|refine And.intro ?_ ?_|(intro h;try first|exact Z8|replace h:=Z9)
  all_goals try exact czq
  all_goals exact⟨_,Q1 [4] rfl,_,rfl,rfl,rfl⟩
 repeat' first|refine And.intro ?_ ?_|(intro h;try first|exact Z8|replace h:=Z9)
 all_goals try exact czq
 refine⟨fun m s=>∃i:Nat,(i≤a.groups.length∧m=a.groups.length-i∧YH Bi a.groups b.groups=YH Bi (a.groups.drop i) (b.groups.drop i))∧s=rmI a b i,⟨_,rmI a b 0,Q1 [2,3,5] rfl,0,⟨by omega,rfl,rfl⟩,rfl⟩,?_⟩
 rintro m s ⟨i,⟨hi,rfl,he⟩,rfl⟩
 by_cases hj:i<a.groups.length
 ·have hd:=UL (l:=a.groups) (m:=b.groups) Bi hj (by omega)
  rw[←he]at hd
  repeat' first|refine And.intro ?_ ?_|(intro h;try first|exact Z8|replace h:=Z9)
  all_goals try exact czq
  refine⟨rmG a b i (a.groups.getD i default) (b.groups.getD i default),?_,?_⟩
  ·have hra:(asR ((Qv a).getD (0+2) .any)).getD ((i:Nat):Int).toNat []=encR (a.groups.getD i default):=by rw[Int.toNat_natCast];exact Xx encR default hj
   have hrb:(asR ((Qv b).getD (0+2) .any)).getD ((i:Nat):Int).toNat []=encR (b.groups.getD i default):=by rw[Int.toNat_natCast];exact Xx encR default (by omega)
   repeat' first|refine And.intro ?_ ?_|(intro h;try first|exact Z8|replace h:=Z9)
   all_goals try exact czq
   all_goals(try((with_reducible show(_:Int)<_);first|(show((i:Nat):Int)<(((a.groups.map encR).length:Nat):Int);omega)|(show((i:Nat):Int)<(((b.groups.map encR).length:Nat):Int);omega)))
   all_goals(try first|(rw[hra];rfl)|(rw[hrb];rfl))
   all_goals refine Exists.intro () ?_
   all_goals first
    |refine(Ba (k2:=6) (k3:=7) (es:=[(2,.vp (Qv a) 0),(3,.vp (Qv b) 0),(5,.int .i64 i)]) (ra:=encR (a.groups.getD i default)) (rb:=encR (b.groups.getD i default)) (n0:=0) (n1:=1) (ra':=encR (a.groups.getD i default)) (rb':=encR (b.groups.getD i default)) (by decide) rfl rfl (by decide) (by simp only[hra];rfl) (by simp only[hrb];rfl) ⟨.same _,.same _,trivial⟩ ⟨.same _,.same _,trivial⟩ (eR _) (eR _) (by exact⟨.same _,.same _,.same _,trivial⟩) (by exact⟨.same _,.same _,.same _,trivial⟩)).trans (Q1 [6,7,2,3,5] (by rfl))
    |refine(Ba (k2:=6) (k3:=7) (es:=[(2,.vp (Qv a) 0),(3,.vp (Qv b) 0),(5,.int .i64 i)]) (ra:=encR (a.groups.getD i default)) (rb:=encR (b.groups.getD i default)) (n0:=1) (n1:=0) (ra':=encR (a.groups.getD i default)) (rb':=encR (b.groups.getD i default)) (by decide) rfl rfl (by decide) (by simp only[hra];rfl) (by simp only[hrb];rfl) ⟨.same _,.same _,trivial⟩ ⟨.same _,.same _,trivial⟩ (eR _) (eR _) (by exact⟨.same _,.same _,.same _,trivial⟩) (by exact⟨.same _,.same _,.same _,trivial⟩)).trans (Q1 [6,7,2,3,5] (by rfl))
  ·have hsg:RwS (a.groups.getD i default):=by
    rw[List.getD_eq_getElem?_getD,List.getElem?_eq_getElem hj];exact hs3 _ (List.getElem_mem hj)
   have hgl9:=hsg.1
   generalize a.groups.getD i default=g at *
   generalize b.groups.getD i default=h' at *
   have hq:Bi g h'=(decide (g.n=h'.n)&&YH GS g.chunks h'.chunks):=rfl
   rw[hq]at hd
   clear hq
   have hca:(g.chunks.map encC).length=g.chunks.length:=List.length_map ..
   have hcb:(h'.chunks.map encC).length=h'.chunks.length:=List.length_map ..
   by_cases h4:g.n=h'.n
   case neg=>
    rw[decide_eq_false h4,Bool.false_and,Bool.false_and]at hd
    rw[hd]
    repeat' first|refine And.intro ?_ ?_|(intro h;try first|exact Z8|replace h:=Z9)
    all_goals try exact czq
    all_goals exact⟨_,Q1 [4] rfl,_,rfl,rfl,rfl⟩
   rw[decide_eq_true h4,Bool.true_and]at hd
   by_cases h5:g.chunks.length=h'.chunks.length
   case neg=>
    rw[Up GS h5,Bool.false_and]at hd
    rw[hd]
    repeat' first|refine And.intro ?_ ?_|(intro h;try first|exact Z8|replace h:=Z9)
    all_goals try exact czq
    all_goals exact⟨_,Q1 [4] rfl,_,rfl,rfl,rfl⟩
   repeat' first|refine And.intro ?_ ?_|(intro h;try first|exact Z8|replace h:=Z9)
   all_goals try exact czq
   refine⟨fun m s=>∃j:Nat,(j≤g.chunks.length∧m=g.chunks.length-j∧YH GS g.chunks h'.chunks=YH GS (g.chunks.drop j) (h'.chunks.drop j))∧s=rmJ a b i g h' j,⟨_,rmJ a b i g h' 0,Q1 [6,7,2,3,5,8] rfl,0,⟨by omega,rfl,rfl⟩,rfl⟩,?_⟩
   rintro m s ⟨j,⟨hjj,rfl,he2⟩,rfl⟩
   by_cases h6:j<g.chunks.length
   ·have hd2:=UL (l:=g.chunks) (m:=h'.chunks) GS h6 (by omega)
    rw[←he2]at hd2
    have hra:(asR ((encR g).getD (0+1) .any)).getD ((j:Nat):Int).toNat []=encC (g.chunks.getD j default):=by rw[Int.toNat_natCast];exact Xx encC default h6
    have hrb:(asR ((encR h').getD (0+1) .any)).getD ((j:Nat):Int).toNat []=encC (h'.chunks.getD j default):=by rw[Int.toNat_natCast];exact Xx encC default (by omega)
    have hcp:(g.chunks.getD j default).pages.length≤1000000:=by
     rw[List.getD_eq_getElem?_getD,List.getElem?_eq_getElem h6];exact hsg.2 _ (List.getElem_mem h6)
    repeat' first|refine And.intro ?_ ?_|(intro h;try first|exact Z8|replace h:=Z9)
    all_goals try exact czq
    all_goals(try((with_reducible show(_:Int)<_);first|(show((j:Nat):Int)<(((g.chunks.map encC).length:Nat):Int);omega)|(show((j:Nat):Int)<(((h'.chunks.map encC).length:Nat):Int);omega)))
    all_goals(try first|(rw[hra];rfl)|(rw[hrb];rfl))
    refine⟨g.chunks.getD j default,h'.chunks.getD j default,by simp only[hra,hrb];rfl,hcp,?_⟩
    cases hk:GS (g.chunks.getD j default) (h'.chunks.getD j default)
    ·rw[hk,Bool.false_and]at hd2
     rw[hd2,Bool.false_and]at hd
     rw[hd]
     repeat' first|refine And.intro ?_ ?_|(intro h;try first|exact Z8|replace h:=Z9)
     all_goals try exact czq
     all_goals exact⟨_,Q1 [4] rfl,_,rfl,rfl,rfl⟩
    ·rw[hk,Bool.true_and]at hd2
     repeat' first|refine And.intro ?_ ?_|(intro h;try first|exact Z8|replace h:=Z9)
     all_goals try exact czq
     all_goals exact⟨g.chunks.length-(j+1),rmJ a b i g h' (j+1),Q0 [] (by kernel_rfl) ⟨.refl _,.refl _,.refl _,.refl _,.refl _,Qm (by omega),trivial⟩ trivial,⟨j+1,⟨by omega,rfl,hd2⟩,rfl⟩,by omega⟩
   ·obtain rfl:j=g.chunks.length:=by omega
    rw[he2,KY _ h5,Bool.true_and]at hd
    repeat' first|refine And.intro ?_ ?_|(intro h;try first|exact Z8|replace h:=Z9)
    all_goals try exact czq
    exact⟨a.groups.length-(i+1),rmI a b (i+1),Q0 [] (by exact rfl) ⟨.refl _,.refl _,Qm (by omega),trivial⟩ trivial,⟨i+1,⟨by omega,rfl,hd⟩,rfl⟩,by omega⟩
 ·obtain rfl:i=a.groups.length:=by omega
  rw[he,KY _ h3]
  repeat' first|refine And.intro ?_ ?_|(intro h;try first|exact Z8|replace h:=Z9)
  all_goals try exact czq
  exact⟨_,Q1 [4] rfl,_,rfl,rfl,rfl⟩
theorem T1[Syms]:Zs Try.prog 17 S_mtSame:=by
 rintro args K ⟨a,b,rfl,h,hk⟩
 exact⟨rfl,_,rfl,hk,fnI Qf Qg Iz Iz.ok Qw (Q0j a b h)⟩
end
def WV(x:Int):Prop:=0≤x∧x≤1048576
structure PgG(p:Pg):Prop where
 n1:WV p.rows
 n2:WV p.cells
 n3:WV p.enc
 n4:WV p.rlen
 n5:WV p.dlen
 n6:WV p.vlen
 crc:GM p.crc
theorem Xd(x:Int)(l:List Int):nuB (x::l)=nuB [x]++nuB l:=by rw[nuB,nuB,nuB,List.append_nil]
def VlG(k:Int)(v:Vl):Prop:=(k=1∧(v.n=0∨v.n=1)∧v.s=[])∨(k=2∧(-2147483648≤v.n∧v.n≤2147483647)∧v.s=[])∨(k=3∧(-9223372036854775808≤v.n∧v.n≤9223372036854775807)∧v.s=[])∨((k≠1∧k≠2∧k≠3)∧v.n=0∧v.s.length≤100)
structure CkG(k:Int)(c:Ck):Prop where
 n1:WV c.words
 n2:WV c.size
 crc:GM c.crc
 len:c.pages.length≤200
 pages:∀p∈c.pages,PgG p
 st0:c.known=false→c.st=default
 nulls:c.known=true→WV c.st.nulls
 has0:c.known=true→c.st.has=false→c.st.mn=default∧c.st.mx=default
 has1:c.known=true→c.st.has=true→VlG k c.st.mn∧VlG k c.st.mx
structure RwG(ks:List Int)(g:Rw):Prop where
 n:WV g.n
 len:g.chunks.length=ks.length
 chunks:∀i,i<g.chunks.length→CkG (ks.getD i 0) (g.chunks.getD i default)
structure MtG(m:Mt):Prop where
 sb:∀f∈m.s,SbOk f
 s40:m.s.length≤40
 chk:Z1 m.s=0
 sl:(sbF m.s).length≤2000
 n:WV m.n
 len:m.groups.length≤200
 groups:∀g∈m.groups,RwG (QS m.s) g
def WX(fs:List Fd)(i:Nat):Int:=YJ fs (Qi fs) i ((X1 fs).getD i 0)
def YL(fs:List Fd):Nat→Nat→Int
 |_,0=>1
 |i,n+1=>if WX fs i≠0 then WX fs i else YL fs (i+1) n
def U4(fs:List Fd):Nat→Nat→Int→Int
 |_,0,kids=>if kids≠fs.length-1 then 1 else 0
 |i,n+1,kids=>if WX fs i≠0 then WX fs i else if 40<(fs.getD i default).kids then YL fs (i+1) n else U4 fs (i+1) n (kids+(fs.getD i default).kids)
def VR(fs:List Fd):Int:=if fs.length<1∨40<fs.length then 4 else U4 fs 0 fs.length 0
theorem CO{fs:List Fd}{i:Nat}(h:i<fs.length):YL fs i (fs.length-i)=if WX fs i≠0 then WX fs i else YL fs (i+1) (fs.length-(i+1)):=by
 rw[show fs.length-i=(fs.length-(i+1))+1 by omega,YL]
theorem EM{fs:List Fd}{i:Nat}{kids:Int}(h:i<fs.length):U4 fs i (fs.length-i) kids=if WX fs i≠0 then WX fs i else if 40<(fs.getD i default).kids then YL fs (i+1) (fs.length-(i+1))else U4 fs (i+1) (fs.length-(i+1)) (kids+(fs.getD i default).kids):=by
 rw[show fs.length-i=(fs.length-(i+1))+1 by omega,U4]
theorem UR{f:Fd}{i:Nat}{par dep:Int}{nm tw:Bool}(h:BH f i par dep nm tw=0):(0<i→0≤par)∧dep≤8∧nm=true∧tw=false∧0≤f.rep∧f.rep≤2∧0≤f.kind∧f.kind≤4∧(i=0→f.rep=0∧f.kind=0)∧(f.kind=0→1≤f.kids)∧(f.kind≠0→f.kids=0):=by
 unfold BH at h
 repeat' split at h
 all_goals first
  |omega
  |(cases nm<;>cases tw<;>simp at * <;>omega)
theorem DV{fs:List Fd}{i:Nat}(h:WX fs i=0):0≤(fs.getD i default).kids:=by
 obtain⟨_,_,_,_,_,_,_,_,_,h1,h2⟩:=UR h
 by_cases hk:(fs.getD i default).kind=0
 ·have:=h1 hk;omega
 ·have:=h2 hk;omega
def XO:Stk→Int
 |[]=>0
 |(_,k)::t=>(if 0<k then k else 0)+XO t
theorem JI:∀st:Stk,0≤XO st
 |[]=>Int.le_refl _
 |(a,k)::t=>by have:=JI t;rw[XO];split<;>omega
theorem De:∀st:Stk,XO (Zt st)=XO st
 |[]=>rfl
 |(a,k)::t=>by
  rw[Zt]
  split
  ·rw[De t,XO,if_neg (by omega)];omega
  ·rfl
theorem Lc{st:Stk}{a k:Int}{t:Stk}(h:Zt st=(a,k)::t):0<k:=by
 induction st with
 |nil=>cases h
 |cons q s ih=>
  obtain⟨b,j⟩:=q
  rw[Zt]at h
  split at h
  ·exact ih h
  ·cases h;omega
theorem Du:∀st:Stk,Ye st=true↔0<XO st
 |[]=>by simp[Ye,XO]
 |(a,k)::t=>by
  have ih:=Du t
  have:=JI t
  simp only[Ye,List.any_cons,Bool.or_eq_true,decide_eq_true_eq]at ih ⊢
  rw[ih,XO]
  split<;>omega
def JJ(l:List Fd):Int:=(l.map Fd.kids).sum
def Ol:List Fd→Nat→Stk→Prop
 |[],_,_=>True
 |f::l,i,st=>0≤U5 (Zt st)∧(f.kind=0→1≤f.kids)∧(f.kind≠0→f.kids=0)∧Ol l (i+1) (Zp i f (XN (Zt st)))
theorem DD:∀(l:List Fd) (i:Nat) (st:Stk),Ol l i st→XO (Ym l i st)=XO st+JJ l-l.length
 |[],_,st,_=>by simp[Ym,JJ]
 |f::l,i,st,⟨h1,h2,h3,h4⟩=>by
  rw[Ym,DD l _ _ h4]
  have hs:=De st
  cases hp:Zt st with
  |nil=>rw[hp]at h1;exact absurd h1 (by decide)
  |cons q t=>
   obtain⟨a,k⟩:=q
   have hk:=Lc hp
   rw[hp]at hs
   have hd:XO (XN ((a,k)::t))=XO st-1:=by
    rw[←hs,XN,XO,XO,if_pos hk]
    split<;>omega
   have hpu:XO (Zp i f (XN ((a,k)::t)))=XO st-1+f.kids:=by
    unfold Zp
    split
    ·rename_i hf
     have:=h2 hf
     rw[XO,if_pos (by omega),hd];omega
    ·rename_i hf
     rw[hd,h3 hf];omega
   rw[hpu]
   simp only[JJ,List.map_cons,List.sum_cons,List.length_cons]
   omega
theorem IP{fs:List Fd}{i:Nat}{st:Stk}(h:i<fs.length)(hw:Xa (fs.drop i) i st=(Xa fs 0 []).drop i):(Qi fs).getD i 0=U5 (Zt st)∧Xa (fs.drop (i+1)) (i+1) (Zp i (fs.getD i default) (XN (Zt st)))=(Xa fs 0 []).drop (i+1):=by
 have hl:i<(Xa fs 0 []).length:=by rw[Yp];exact h
 have e1:fs.drop i=fs.getD i default::fs.drop (i+1):=by rw[List.drop_eq_getElem_cons h];simp[h]
 rw[e1,Xa,List.drop_eq_getElem_cons hl]at hw
 injection hw with h1 h2
 refine⟨?_,h2⟩
 rw[Qi,List.getD_eq_getElem?_getD,List.getElem?_map,List.getElem?_eq_getElem hl,←h1];rfl
theorem Jl{fs:List Fd}:∀(n i:Nat),Zc fs i n=0→ ∀j,i≤j→j<i+n→WX fs j=0
 |0,i,_,j,h1,h2=>by omega
 |n+1,i,h,j,h1,h2=>by
  rw[Zc]at h
  split at h
  ·rename_i hne;exact absurd h hne
  ·rename_i hne
   by_cases hj:j=i
   ·subst hj;exact Decidable.not_not.1 hne
   ·exact Jl n (i+1) h j (by omega) (by omega)
theorem DU(fs:List Fd)(i n:Nat):Zc fs i (n+1)=if WX fs i≠0 then WX fs i else Zc fs (i+1) n:=rfl
theorem DW{fs:List Fd}{i:Nat}(h:WX fs i=0):(0<i→0≤(Qi fs).getD i 0)∧(i=0→(fs.getD i default).rep=0∧(fs.getD i default).kind=0)∧((fs.getD i default).kind=0→1≤(fs.getD i default).kids)∧((fs.getD i default).kind≠0→(fs.getD i default).kids=0):=by
 obtain⟨z1,_,_,_,_,_,_,_,z2,z3,z4⟩:=UR h
 exact⟨z1,z2,z3,z4⟩
theorem Ii{fs:List Fd}(h:∀j,j<fs.length→WX fs j=0):∀(m i:Nat) (st:Stk),0<i→i+m=fs.length→Xa (fs.drop i) i st=(Xa fs 0 []).drop i→Ol (fs.drop i) i st
 |0,i,st,_,hm,_=>by rw[List.drop_of_length_le (by omega)];exact trivial
 |m+1,i,st,hi,hm,hw=>by
  obtain⟨h1,h2⟩:=IP (by omega) hw
  obtain⟨z1,_,z2,z3⟩:=DW (h i (by omega))
  have e1:fs.drop i=fs.getD i default::fs.drop (i+1):=by rw[List.drop_eq_getElem_cons (by omega)];simp[show i<fs.length by omega]
  rw[e1]
  refine⟨?_,z2,z3,Ii h m (i+1) _ (by omega) (by omega) h2⟩
  rw[←h1];exact z1 hi
theorem NQ{fs:List Fd}(hn:0<fs.length)(h:∀j,j<fs.length→WX fs j=0):XO (Ym fs 0 [])=JJ fs-(fs.length-1):=by
 cases fs with
 |nil=>simp at hn
 |cons f l=>
  obtain⟨_,z1,z2,z3⟩:=DW (h 0 hn)
  have hk:f.kind=0:=(z1 rfl).2
  have hki:1≤f.kids:=z2 hk
  have hg:=Ii h l.length 1 [((0:Nat),f.kids)] (by omega) (by simp;omega) (by
   show Xa l 1 _=Xa l (0+1) (Zp 0 f (XN (Zt [])))
   rw[Zp,if_pos hk];rfl)
  have:=DD l 1 _ hg
  have hw:Ym (f::l) 0 []=Ym l 1 [((0:Nat),f.kids)]:=by
   show Ym l (0+1) (Zp 0 f (XN (Zt [])))=_
   rw[Zp,if_pos hk];rfl
  rw[hw,this,XO,if_pos (by omega)]
  simp only[JJ,XO,List.map_cons,List.sum_cons,List.length_cons]
  omega
theorem DB(fs:List Fd):∀n i,YL fs i n=if Zc fs i n≠0 then Zc fs i n else 1
 |0,_=>by simp[YL,Zc]
 |n+1,i=>by
  rw[YL,DU,DB fs n]
  by_cases h:WX fs i=0
  ·simp[h]
  ·simp[h]
def Si(l:List Fd):Bool:=l.any fun f=>decide (40<f.kids)
theorem Cq(fs:List Fd):∀n i k,i+n=fs.length→U4 fs i n k=if Zc fs i n≠0 then Zc fs i n else if Si (fs.drop i)=true∨k+JJ (fs.drop i)≠fs.length-1 then 1 else 0
 |0,i,k,h=>by
  rw[List.drop_of_length_le (by omega)]
  simp[Si,JJ,U4,Zc]
 |n+1,i,k,h=>by
  have e1:fs.drop i=fs.getD i default::fs.drop (i+1):=by rw[List.drop_eq_getElem_cons (by omega)];simp[show i<fs.length by omega]
  rw[U4,DU,Cq fs n (i+1) _ (by omega),DB,e1]
  have hs:JJ (fs.getD i default::fs.drop (i+1))=(fs.getD i default).kids+JJ (fs.drop (i+1)):=rfl
  have hb:Si (fs.getD i default::fs.drop (i+1))=(decide (40<(fs.getD i default).kids)||Si (fs.drop (i+1))):=rfl
  rw[hs,hb]
  by_cases h0:WX fs i=0
  ·by_cases h1:Zc fs (i+1) n=0
   ·by_cases h2:40<(fs.getD i default).kids
    ·simp only[h0,h1,ne_eq,not_true_eq_false,if_false,h2,decide_true,Bool.true_or,true_or,if_true]
    ·simp only[h0,h1,ne_eq,not_true_eq_false,if_false,h2,decide_false,Bool.false_or,Int.add_assoc]
   ·simp only[h0,h1,ne_eq,not_true_eq_false,not_false_eq_true,if_false,if_true]
    split<;>rfl
  ·simp only[h0,ne_eq,not_false_eq_true,if_true]
theorem PB{fs:List Fd}(h:∀f∈fs,0≤f.kids):0≤JJ fs∧ ∀f∈fs,f.kids≤JJ fs:=by
 induction fs with
 |nil=>exact⟨Int.le_refl _,fun f hf=>nomatch hf⟩
 |cons g l ih=>
  obtain⟨h1,h2⟩:=ih fun f hf=>h f (List.mem_cons_of_mem _ hf)
  have hg:=h g (List.mem_cons_self ..)
  have e:JJ (g::l)=g.kids+JJ l:=rfl
  refine⟨by omega,fun f hf=>?_⟩
  rcases List.mem_cons.1 hf with rfl|hf
  ·omega
  ·have:=h2 f hf;omega
theorem Lb(fs:List Fd):VR fs=Z1 fs:=by
 unfold VR Z1
 by_cases hn:fs.length<1∨40<fs.length
 ·rw[if_pos hn,if_pos hn]
 rw[if_neg hn,if_neg hn,Cq fs _ 0 0 (by omega),List.drop_zero]
 by_cases h0:Zc fs 0 fs.length=0
 ·have hz:∀j,j<fs.length→WX fs j=0:=fun j hj=>Jl _ 0 h0 j (by omega) (by omega)
  have hs:=NQ (by omega) hz
  have hp:=JI (Ym fs 0 [])
  have hkk:∀f∈fs,0≤f.kids:=fun f hf=>by
   obtain⟨j,hj,rfl⟩:=List.getElem_of_mem hf
   have:=DV (hz j hj)
   rwa [List.getD_eq_getElem?_getD,List.getElem?_eq_getElem hj]at this
  obtain⟨hk0,hk1⟩:=PB hkk
  have ho:=Du (Ym fs 0 [])
  simp only[h0,ne_eq,not_true_eq_false,if_false]
  by_cases hop:Ye (Ym fs 0 [])=true
  ·rw[if_pos hop,if_pos]
   right
   have:=ho.1 hop
   omega
  ·rw[if_neg hop,if_neg]
   have hsp:XO (Ym fs 0 [])=0:=by
    have:¬0<XO (Ym fs 0 []):=fun h=>hop (ho.2 h)
    omega
   rintro(hbig|hne)
   ·obtain⟨f,hm,h40⟩:=List.any_eq_true.1 hbig
    have:=hk1 f hm
    have:=of_decide_eq_true h40
    omega
   ·omega
 ·simp only[h0,ne_eq,not_false_eq_true,if_true]
abbrev Wd:=List UInt8
def Sv(c:UInt8):Bool:=decide (c.toNat=123)||decide (c.toNat=125)||decide (c.toNat=59)
def SF(w:Wd):Prop:=w≠[]∧((∀c∈w,Mu c=true)∨ ∃c,w=[c]∧Sv c=true)
def Tm:List Wd:=[[114,101,113,117,105,114,101,100],[111,112,116,105,111,110,97,108],[114,101,112,101,97,116,101,100]]
def Rq:List Wd:=[[103,114,111,117,112],[98,111,111,108],[105,110,116,51,50],[105,110,116,54,52],[98,121,116,101,115]]
def Q0x:Wd:=[109,101,115,115,97,103,101]
def NY(w:Wd):Bool:=match w with
 |[]=>false
 |c::_=>YE c&&decide (w.length≤12)
theorem NX{w:Wd}(h:SF w):NY w=Yf w:=by
 cases w with
 |nil=>exact absurd rfl h.1
 |cons c t=>
  show(YE c&&decide ((c::t).length≤12))=(decide (1≤(c::t).length)&&decide ((c::t).length≤12)&&YE c&&(c::t).all Mu)
  rw[decide_eq_true (show 1≤(c::t).length by simp)]
  rcases h.2 with h|⟨d,hd,hm⟩
  ·rw[List.all_eq_true.2 h]
   cases YE c<;>cases decide ((c::t).length≤12)<;>rfl
  ·cases hd
   have:YE c=false:=by
    cases hl:YE c with
    |false=>rfl
    |true=>
     simp only[YE,Sv,Bool.and_eq_true,Bool.or_eq_true,decide_eq_true_eq]at hl hm
     omega
   rw[this];simp
structure PS where
 ws:List Wd
 fs:List Fd
 e:Int
 deriving Inhabited
def IE(d:Nat):List UInt8:=List.replicate (2*d) 32
def Oq(d:Nat)(f:Fd):List UInt8:=if d=0 then Q0x++[32]else IE d++Tm.getD f.rep.toNat []++[32]++Rq.getD f.kind.toNat []++[32]
def Sw(d:Nat)(f:Fd):List UInt8:=Oq d f++f.name++[59,10]
def Ss(d:Nat)(f:Fd):List UInt8:=Oq d f++f.name++[32,123,10]
def OQ(d:Nat):List UInt8:=IE d++[125,10]
inductive PrT(s:List Fd):Nat→Nat→Nat→Nat→List UInt8→Nat→Prop
 |nil {n i d:Nat}:PrT s n 0 i d [] i
 |leaf {n k i d j:Nat} {t:List UInt8} (hi:i<s.length) (hk:(s.getD i default).kind≠0) (h:PrT s n k (i+1) d t j):PrT s n (k+1) i d (Sw d (s.getD i default)++t) j
 |group {n k m i i1 d j:Nat} {t1 t2:List UInt8} (hi:i<s.length) (hk:(s.getD i default).kind=0) (hm:(s.getD i default).kids=m) (h1:PrT s n m (i+1) (d+1) t1 i1) (h2:PrT s (n+1) k i1 d t2 j):
   PrT s (n+1) (k+1) i d (Ss d (s.getD i default)++t1++OQ d++t2) j
theorem PrT.split{s:List Fd}{n k i d j:Nat}{t:List UInt8}(h:PrT s n (k+1) i d t j):∃t1 i1 t2,PrT s n 1 i d t1 i1∧PrT s n k i1 d t2 j∧t=t1++t2:=by
 cases h with
 |leaf hi hk h=>exact⟨_,_,_,.leaf hi hk .nil,h,by simp⟩
 |group hi hk hm h1 h2=>exact⟨_,_,_,.group hi hk hm h1 .nil,h2,by simp⟩
theorem PrT.one{s:List Fd}{n i d j:Nat}{t:List UInt8}(h:PrT s n 1 i d t j):i<s.length∧
 (((s.getD i default).kind≠0∧t=Sw d (s.getD i default)∧j=i+1)∨
   (∃n' m t1,(s.getD i default).kind=0∧n=n'+1∧(s.getD i default).kids=(m:Nat)∧PrT s n' m (i+1) (d+1) t1 j∧t=Ss d (s.getD i default)++t1++OQ d)):=by
 cases h with
 |leaf hi hk h=>
  cases h with
  |nil=>exact⟨hi,.inl ⟨hk,by simp,rfl⟩⟩
 |group hi hk hm h1 h2=>
  cases h2 with
  |nil=>exact⟨hi,.inr ⟨_,_,_,hk,rfl,hm,h1,by simp⟩⟩
theorem PrT.pos{s:List Fd}{n k i d j:Nat}{t:List UInt8}(h:PrT s n k i d t j):i≤j:=by
 induction h with
 |nil=>exact Nat.le_refl _
 |leaf _ _ _ ih=>omega
 |group _ _ _ _ _ ih1 ih2=>omega
structure PrOk(s:List Fd):Prop where
 len:s.length<1000
 rep:∀i,i<s.length→0≤(s.getD i default).rep∧(s.getD i default).rep≤2
 kind:∀i,i<s.length→0≤(s.getD i default).kind∧(s.getD i default).kind≤4
structure FOk(f:Fd):Prop where
 rep:0≤f.rep∧f.rep≤2
 kind:0≤f.kind∧f.kind≤4
 name:NY f.name=true
 sign:∀c∈f.name,Mu c=true
inductive Fo:Nat→Nat→List Fd→Prop
 |nil {d:Nat}:Fo d 0 []
 |leaf {d k:Nat} {f:Fd} {l:List Fd} (hd:d≤8) (hf:FOk f) (hk:f.kind≠0) (h0:f.kids=0) (h:Fo d k l):Fo d (k+1) (f::l)
 |group {d k m:Nat} {f:Fd} {l1 l2:List Fd} (hd:d≤8) (hf:FOk f) (hk:f.kind=0) (hm:f.kids=(m:Nat)) (hp:0<m) (h1:Fo (d+1) m l1) (h2:Fo d k l2):Fo d (k+1) (f::(l1++l2))
theorem Fo.snoc{d k:Nat}{l x:List Fd}(h:Fo d k l)(hx:Fo d 1 x):Fo d (k+1) (l++x):=by
 induction h with
 |nil=>exact hx
 |leaf hd hf hk h0 _ ih=>exact .leaf hd hf hk h0 (ih hx)
 |group hd hf hk hm hp h1 _ _ ih=>
  rw[List.cons_append,List.append_assoc]
  exact .group hd hf hk hm hp h1 (ih hx)
inductive Sp:List Int→List Fd→Prop
 |root {f:Fd} {l:List Fd} {k:Nat} (hf:FOk f) (hk:f.kind=0) (hr:f.rep=0) (hm:f.kids=(k:Nat)) (h:Fo 1 k l):Sp [0] (f::l)
 |push {a:Int} {t:List Int} {fs:List Fd} {f:Fd} {l:List Fd} {k:Nat} (h:Sp (a::t) fs) (hd:t.length+1≤8) (hf:FOk f) (hk:f.kind=0) (hm:f.kids=(k:Nat)) (hl:Fo (t.length+2) k l):
   Sp ((fs.length:Int)::a::t) (XM fs a.toNat++f::l)
theorem Sp.ne{op:List Int}{fs:List Fd}(h:Sp op fs):∃a t,op=a::t∧fs≠[]:=by
 cases h with
 |root=>exact⟨_,_,rfl,by simp⟩
 |push=>exact⟨_,_,rfl,by simp⟩
theorem Sp.top{a:Int}{t:List Int}{fs:List Fd}(h:Sp (a::t) fs):a.toNat<fs.length∧0≤a∧ ∃k:Nat,(fs.getD a.toNat default).kids=(k:Nat):=by
 cases h with
 |root hf hk hr hm h=>exact⟨by simp,by omega,_,hm⟩
 |push h hd hf hk hm hl=>
  rename_i k
  refine⟨by simp[Qe],by omega,k,?_⟩
  rw[Int.toNat_natCast,List.getD_eq_getElem?_getD,List.getElem?_append_right (by rw[Qe];exact Nat.le_refl _),Qe,Nat.sub_self]
  exact hm
theorem Of{fs:List Fd}{f:Fd}{l:List Fd}{n:Nat}(h:n=fs.length):XM (fs++f::l) n=fs++{f with kids:=f.kids+1}::l:=by
 subst h
 unfold XM
 have e:(fs++f::l).getD fs.length default=f:=by
  rw[List.getD_eq_getElem?_getD,List.getElem?_append_right (Nat.le_refl _),Nat.sub_self];rfl
 rw[e]
 simp only[List.set_append,Nat.lt_irrefl,if_false,Nat.sub_self,List.set_cons_zero]
theorem Sp.add{a:Int}{t:List Int}{fs x:List Fd}(h:Sp (a::t) fs)(hx:Fo (t.length+1) 1 x):Sp (a::t) (XM fs a.toNat++x):=by
 generalize hop:a::t=op at h
 cases h with
 |root hf hk hr hm h=>
  cases hop
  rename_i f l k
  have e:XM (f::l) (0:Int).toNat={f with kids:=f.kids+1}::l:=Of (fs:=[]) rfl
  rw[e]
  exact .root (f:={f with kids:=f.kids+1}) (k:=k+1) ⟨hf.rep,hf.kind,hf.name,hf.sign⟩ hk hr (by show f.kids+1=_;rw[hm];rfl) (h.snoc hx)
 |push h hd hf hk hm hl=>
  cases hop
  rename_i a' t' fs' f l k
  rw[Of (by rw[Qe,Int.toNat_natCast]),List.append_assoc]
  exact .push (f:={f with kids:=f.kids+1}) (k:=k+1) h hd ⟨hf.rep,hf.kind,hf.name,hf.sign⟩ hk (by show f.kids+1=_;rw[hm];rfl) (hl.snoc hx)
theorem Sp.pop{b a:Int}{t:List Int}{fs:List Fd}(h:Sp (b::a::t) fs)(hk:0<(fs.getD b.toNat default).kids):Sp (a::t) fs∧0<(fs.getD a.toNat default).kids:=by
 generalize hop:b::a::t=op at h
 cases h with
 |root=>cases hop
 |push h hd hf hk' hm hl=>
  cases hop
  rename_i fs' f l k
  rw[Int.toNat_natCast,List.getD_eq_getElem?_getD,List.getElem?_append_right (by rw[Qe];exact Nat.le_refl _),Qe,Nat.sub_self]at hk
  have hk:0<f.kids:=hk
  obtain⟨h1,h2,k',h3⟩:=h.top
  refine⟨h.add ?_,?_⟩
  ·have:=Fo.group (d:=t.length+1) (k:=0) (m:=k) hd hf hk' hm (by omega) hl .nil
   rwa [List.append_nil]at this
  ·have e:(XM fs' a.toNat++f::l).getD a.toNat default={fs'.getD a.toNat default with kids:=(fs'.getD a.toNat default).kids+1}:=by
    rw[List.getD_eq_getElem?_getD,List.getElem?_append_left (by rw[Qe];exact h1),XM,List.getElem?_set_self (by exact h1)];rfl
   rw[e]
   show 0<(fs'.getD a.toNat default).kids+1
   omega
theorem Sp.pops{fs:List Fd}:∀(k:Nat) (op:List Int),Sp op fs→Sp (Uj fs k op) fs∧(Uj fs k op).length≤op.length
 |0,op,h=>⟨h,Nat.le_refl _⟩
 |k+1,[],h=>⟨h,Nat.le_refl _⟩
 |k+1,[a],h=>⟨h,Nat.le_refl _⟩
 |k+1,a::b::t,h=>by
  rw[Uj]
  split
  ·rename_i hk
   obtain⟨h1,h2⟩:=Sp.pops k (b::t) (h.pop hk).1
   exact⟨h1,by simp at h2 ⊢;omega⟩
  ·exact⟨h,Nat.le_refl _⟩
theorem Sp.close:∀(op:List Int) (fs:List Fd),Sp op fs→0<(fs.getD (Xg op).toNat default).kids→ ∃(f:Fd) (l:List Fd) (k:Nat),fs=f::l∧FOk f∧f.kind=0∧f.rep=0∧f.kids=(k:Nat)∧0<k∧Fo 1 k l
 |[],fs,h,_=>by cases h
 |[a],fs,h,hk=>by
  generalize hop:[a]=op at h
  cases h with
  |root hf hkk hr hm h=>
   rename_i f l k
   have hk:0<f.kids:=by cases hop;exact hk
   exact⟨_,_,_,rfl,hf,hkk,hr,hm,by omega,h⟩
  |push=>cases hop
 |b::a::t,fs,h,hk=>by
  obtain⟨h1,h2⟩:=h.pop hk
  exact Sp.close (a::t) fs h1 h2
theorem Q0t:∀i,i<12→NY (nmM i)=true∧ ∀c∈nmM i,Mu c=true:=by decide
theorem Ts(op:List Int){i:Nat}(hi:i<12)(x:Int):FOk (H9 op i x)∧(H9 op i x).kids=0:=by
 have h1:=Vt (a:=wr .i64 (x.tdiv 8)) (n:=3) (by omega)
 have h2:=Vt (a:=x) (n:=8) (by omega)
 obtain⟨h3,h4⟩:=Q0t i hi
 refine⟨⟨⟨h1.1,by show wi _ 3≤2;omega⟩,?_,h3,h4⟩,rfl⟩
 show 0≤Yg op x∧Yg op x≤4
 unfold Yg
 have h5:=Int.tmod_lt_of_pos (wi x 8) (show(0:Int)<5 by decide)
 have h6:=Int.tmod_nonneg 5 h2.1
 split<;>omega
theorem Lv{op:List Int}{x:Int}(h:Yg op x=0):op.length≤4:=by
 unfold Yg at h
 split at h
 ·omega
 ·rename_i hn
  exact Nat.le_of_not_lt fun hl=>hn ⟨hl,h⟩
theorem Sp.step{fs:List Fd}{op:List Int}{i:Nat}{x:Int}(h:Sp op fs)(hl:op.length≤5)(hi:i<12):Sp (Yb fs op i x).2 (Yb fs op i x).1∧(Yb fs op i x).2.length≤5:=by
 obtain⟨h1,h2⟩:=Sp.pops (wi (wr .i64 (x.tdiv 64)) 3).toNat op h
 unfold Yb
 simp only
 generalize Uj fs (wi (wr .i64 (x.tdiv 64)) 3).toNat op=o at *
 obtain⟨a,t,rfl,hne⟩:=h1.ne
 obtain⟨hf,hk0⟩:=Ts (a::t) hi x
 have ht:Xg (a::t)=a:=rfl
 rw[ht]
 split
 ·rename_i hk
  have h4:=Lv (show Yg (a::t) x=0 from hk)
  simp at h4 h2
  exact⟨.push (k:=0) h1 (by omega) hf hk (by rw[hk0];rfl) .nil,by simp;omega⟩
 ·rename_i hk
  simp at h2
  exact⟨h1.add (.leaf (by omega) hf hk hk0 .nil),by simp;omega⟩
theorem Nr{ns:List Int}:∀(n i:Nat) (fs:List Fd) (op:List Int),Sp op fs→op.length≤5→Sp (Yd ns n i fs op).2 (Yd ns n i fs op).1∧(Yd ns n i fs op).2.length≤5
 |0,i,fs,op,h,hl=>⟨h,hl⟩
 |n+1,i,fs,op,h,hl=>by
  rw[Yd]
  split
  ·rename_i hi
   have hs:=Sp.step (x:=ns.getD i 0) h hl hi.2
   exact Nr n (i+1) _ _ hs.1 hs.2
  ·exact⟨h,hl⟩
theorem Ic(ns:List Int):∃(f:Fd) (l:List Fd) (k:Nat),QN ns=f::l∧FOk f∧f.kind=0∧f.rep=0∧f.kids=(k:Nat)∧0<k∧Fo 1 k l:=by
 have h0:Sp [0] fs0:=.root (k:=0) ⟨by decide,by decide,by decide,by decide⟩ rfl rfl rfl .nil
 have h:=Nr (ns:=ns) 12 0 fs0 [0] h0 (by decide)
 rw[QN]
 generalize(Yd ns 12 0 [⟨[109],0,0,0⟩] [0])=r at *
 have hl5:(r.2).length≤5:=h.2
 have h:Sp r.2 r.1:=h.1
 rw[YO]
 obtain⟨a,t,ho,hne⟩:=h.ne
 rw[ho]at h
 obtain⟨h1,h2,k,h3⟩:=h.top
 have ht:Xg r.2=a:=by rw[ho];rfl
 rw[ht]
 split
 ·rename_i hk
  have hz:FOk ⟨[122],0,4,0⟩:=⟨by decide,by decide,by decide,by decide⟩
  have hd:t.length+1≤8:=by rw[ho]at hl5;simp at hl5;omega
  have ha:=h.add (.leaf (f:=⟨[122],0,4,0⟩) hd hz (by decide) rfl .nil)
  refine Sp.close (a::t) _ ha ?_
  show 0<((XM r.1 a.toNat++[_]).getD a.toNat default).kids
  rw[List.getD_eq_getElem?_getD,List.getElem?_append_left (by rw[Qe];exact h1),XM,List.getElem?_set_self (by exact h1)]
  show 0<(r.1.getD a.toNat default).kids+1
  omega
 ·rename_i hk
  refine Sp.close (a::t) _ h ?_
  show 0<(r.1.getD a.toNat default).kids
  omega
theorem Fo.all{d k:Nat}{l:List Fd}(h:Fo d k l):∀f∈l,FOk f:=by
 induction h with
 |nil=>intro f hf;cases hf
 |leaf hd hf hk h0 h ih=>
  intro f h
  rcases List.mem_cons.1 h with rfl|h
  ·exact hf
  ·exact ih f h
 |group hd hf hk hm hp h1 h2 ih1 ih2=>
  intro f h
  rcases List.mem_cons.1 h with rfl|h
  ·exact hf
  ·rcases List.mem_append.1 h with h|h
   ·exact ih1 f h
   ·exact ih2 f h
structure PrS(s:List Fd)(t:List UInt8):Prop where
 pr:PrT s 9 1 0 0 t s.length
 ok:PrOk s
 len:t.length≤64*s.length
theorem Nh(fs:List Fd)(op:List Int)(i:Nat)(x:Int):(Yb fs op i x).1.length=fs.length+1:=by
 simp[Yb,Qe]
theorem HN{ns:List Int}:∀(n i:Nat) (fs:List Fd) (op:List Int),(Yd ns n i fs op).1.length≤fs.length+n
 |0,_,_,_=>Nat.le_refl _
 |n+1,i,fs,op=>by
  rw[Yd]
  split
  ·have:=HN (ns:=ns) n (i+1) (Yb fs op i (ns.getD i 0)).1 (Yb fs op i (ns.getD i 0)).2
   rw[Nh]at this
   show(Yd ns n (i+1) (Yb fs op i (ns.getD i 0)).1 (Yb fs op i (ns.getD i 0)).2).1.length≤_
   omega
  ·show fs.length≤_;omega
theorem Uo(ns:List Int):(QN ns).length≤14:=by
 have h:=HN (ns:=ns) 12 0 [⟨[109],0,0,0⟩] [0]
 rw[QN]
 generalize(Yd ns 12 0 [⟨[109],0,0,0⟩] [0])=r at *
 have h:r.1.length≤13:=h
 show(YO r.1 r.2).length≤14
 unfold YO
 split
 ·simp[Qe];omega
 ·omega
theorem MV{a c:Int}{t:Stk}(h:0<c):Zt ((a,c)::t)=(a,c)::t:=by rw[Zt,if_neg (by omega)]
theorem MW{a c:Int}{t:Stk}(h:c≤0):Zt ((a,c)::t)=Zt t:=by rw[Zt,if_pos h]
theorem Cu:∀{st:Stk},Zt st=[]→Ye st=false
 |[],_=>rfl
 |(a,c)::t,h=>by
  by_cases hc:0<c
  ·rw[MV hc]at h;cases h
  ·rw[MW (by omega)]at h
   have:=Cu h
   rw[Ye]at this ⊢
   rw[List.any_cons,this,decide_eq_false hc];rfl
theorem Ry{d k:Nat}{l:List Fd}(h:Fo d k l):∀(i:Nat) (a c:Int) (st' st:Stk) (rest:List Fd),(k:Int)≤c→0≤a→d=st'.length+1→Zt st=Zt ((a,c)::st')→
 ∃rows st2,Xa (l++rest) i st=rows++Xa rest (i+l.length) st2∧(∀p∈rows,(0:Int)≤p.1∧p.2≤8)∧Ym (l++rest) i st=Ym rest (i+l.length) st2∧Zt st2=Zt ((a,c-k)::st'):=by
 induction h with
 |nil=>
  intro i a c st' st rest hc ha hd hp
  exact⟨[],st,rfl,fun p hp=>(nomatch hp),rfl,by rw[hp];simp⟩
 |leaf hd hf hk h0 h ih=>
  rename_i d k f l
  intro i a c st' st rest hc ha hdl hp
  have hc0:0<c:=by omega
  rw[MV hc0]at hp
  obtain⟨rows,st2,h1,h2,h3,h4⟩:=ih (i+1) a (c-1) st' ((a,c-1)::st') rest (by omega) ha hdl rfl
  refine⟨(a,(st'.length:Int)+1)::rows,st2,?_,?_,?_,?_⟩
  ·rw[List.cons_append,Xa,hp,Zp,if_neg hk]
   show(a,(((a,c)::st').length:Int))::Xa (l++rest) (i+1) ((a,c-1)::st')=_
   rw[h1,List.length_cons,List.length_cons,show i+1+l.length=i+(l.length+1) by omega]
   simp
  ·intro p hp
   rcases List.mem_cons.1 hp with rfl|hp
   ·exact⟨ha,by simp only;omega⟩
   ·exact h2 p hp
  ·rw[List.cons_append,Ym,hp,Zp,if_neg hk]
   show Ym (l++rest) (i+1) ((a,c-1)::st')=_
   rw[h3,List.length_cons,show i+1+l.length=i+(l.length+1) by omega]
  ·rw[h4,show c-1-(k:Int)=c-((k+1:Nat):Int) by omega]
 |group hd hf hk hm hpos h1 h2 ih1 ih2=>
  rename_i d k m f l1 l2
  intro i a c st' st rest hc ha hdl hp
  have hc0:0<c:=by omega
  rw[MV hc0]at hp
  obtain⟨r1,s1,a1,a2,a3,a4⟩:=ih1 (i+1) i m ((a,c-1)::st') (((i:Int),(m:Int))::(a,c-1)::st') (l2++rest) (Int.le_refl _) (by omega) (by simp;omega) rfl
  rw[MW (by omega)]at a4
  obtain⟨r2,s2,b1,b2,b3,b4⟩:=ih2 (i+1+l1.length) a (c-1) st' s1 rest (by omega) ha hdl a4
  refine⟨(a,(st'.length:Int)+1)::(r1++r2),s2,?_,?_,?_,?_⟩
  ·rw[List.cons_append,Xa,hp,Zp,if_pos hk,hm]
   show(a,(((a,c)::st').length:Int))::Xa (l1++l2++rest) (i+1) (((i:Int),(m:Int))::(a,c-1)::st')=_
   rw[List.append_assoc,a1,b1,List.length_cons,List.length_cons,List.length_append,show i+1+l1.length+l2.length=i+(l1.length+l2.length+1) by omega]
   simp
  ·intro p hp
   rcases List.mem_cons.1 hp with rfl|hp
   ·exact⟨ha,by simp only;omega⟩
   ·rcases List.mem_append.1 hp with hp|hp
    ·exact a2 p hp
    ·exact b2 p hp
  ·rw[List.cons_append,Ym,hp,Zp,if_pos hk,hm]
   show Ym (l1++l2++rest) (i+1) (((i:Int),(m:Int))::(a,c-1)::st')=_
   rw[List.append_assoc,a3,b3,List.length_cons,List.length_append,show i+1+l1.length+l2.length=i+(l1.length+l2.length+1) by omega]
  ·rw[b4,show c-1-(k:Int)=c-((k+1:Nat):Int) by omega]
theorem Fe(fs:List Fd)(a:Nat):(XM fs a).map (·.name)=fs.map (·.name):=by
 unfold XM
 apply List.ext_getElem?
 intro i
 simp only[List.getElem?_map,List.getElem?_set]
 by_cases h:a=i
 ·subst h
  by_cases hl:a<fs.length
  ·simp[hl]
  ·simp[hl]
 ·simp[h]
def Lo(j:Nat):List UInt8:=if j=0 then[109]else nmM (j-1)
theorem Di{ns:List Int}:∀(n i:Nat) (fs:List Fd) (op:List Int),fs.map (·.name)=(List.range (i+1)).map Lo→i≤12→ ∃m,m≤13∧(Yd ns n i fs op).1.map (·.name)=(List.range m).map Lo
 |0,i,fs,op,h,hi=>⟨i+1,by omega,h⟩
 |n+1,i,fs,op,h,hi=>by
  rw[Yd]
  split
  ·rename_i hc
   refine Di n (i+1) _ _ ?_ (by omega)
   show(Yb fs op i (ns.getD i 0)).1.map (·.name)=_
   unfold Yb
   simp only[List.map_append,Fe,h]
   rw[List.range_succ (n:=i+1),List.map_append]
   rfl
  ·exact⟨i+1,by omega,h⟩
theorem EV(ns:List Int):∃m,m≤13∧((QN ns).map (·.name)=(List.range m).map Lo∨(QN ns).map (·.name)=(List.range m).map Lo++[[122]]):=by
 obtain⟨m,hm,h⟩:=Di (ns:=ns) 12 0 [⟨[109],0,0,0⟩] [0] rfl (by decide)
 refine⟨m,hm,?_⟩
 rw[QN]
 generalize(Yd ns 12 0 [⟨[109],0,0,0⟩] [0])=r at *
 show(YO r.1 r.2).map _=_∨(YO r.1 r.2).map _=_
 unfold YO
 split
 ·right
  rw[List.map_append,Fe,h];rfl
 ·left;exact h
theorem NV:∀m,m≤13→((List.range m).map Lo).Nodup∧((List.range m).map Lo++[[122]]).Nodup:=by decide
theorem CB{fs:List Fd}(h:(fs.map (·.name)).Nodup){i k:Nat}(hi:i<fs.length)(hk:k<i):(fs.getD k default).name≠(fs.getD i default).name:=by
 intro e
 have hkl:k<fs.length:=by omega
 have:=List.pairwise_iff_getElem.1 h k i (by rw[List.length_map];exact hkl) (by rw[List.length_map];exact hi) hk
 apply this
 simp only[List.getElem_map]
 simp only[List.getD_eq_getElem?_getD,List.getElem?_eq_getElem hkl,List.getElem?_eq_getElem hi,Option.getD_some]at e
 exact e
theorem RF(s t:List UInt8):eqb s t=decide (s=t):=by
 letI:Syms:=⟨fun _=>.int .i64 0,fun _=>⟨rfl,rfl⟩,fun _=>⟨_,rfl⟩⟩
 exact Fx s t
theorem GG{fs:List Fd}:∀n i,(∀j,i≤j→j<i+n→YJ fs (Qi fs) j ((X1 fs).getD j 0)=0)→Zc fs i n=0
 |0,_,_=>rfl
 |n+1,i,h=>by
  have h0:=h i (Nat.le_refl _) (by omega)
  rw[Zc,if_neg (fun x=>x h0)]
  exact GG n (i+1) fun j h1 h2=>h j (by omega) (by omega)
theorem Ow{f:Fd}(h:FOk f):Yf f.name=true:=by
 have hne:f.name≠[]:=fun e=>by have:=h.name;rw[e]at this;cases this
 rw[←NX ⟨hne,.inl h.sign⟩]
 exact h.name
theorem Fo.kids{d k:Nat}{l:List Fd}(h:Fo d k l):∀f∈l,(f.kind=0→1≤f.kids)∧(f.kind≠0→f.kids=0):=by
 induction h with
 |nil=>intro f hf;cases hf
 |leaf hd hf hk h0 h ih=>
  intro g hg
  rcases List.mem_cons.1 hg with rfl|hg
  ·exact⟨fun h=>absurd h hk,fun _=>h0⟩
  ·exact ih g hg
 |group hd hf hk hm hp h1 h2 ih1 ih2=>
  intro g hg
  rcases List.mem_cons.1 hg with rfl|hg
  ·exact⟨fun _=>by omega,fun h=>absurd hk h⟩
  ·rcases List.mem_append.1 hg with hg|hg
   ·exact ih1 g hg
   ·exact ih2 g hg
theorem F7(ns:List Int):Z1 (QN ns)=0:=by
 obtain⟨f,l,k,hs,hf,hk,hr,hm,hp,h⟩:=Ic ns
 have hl:=Uo ns
 obtain⟨m,hm13,hnm⟩:=EV ns
 have hnd:((QN ns).map (·.name)).Nodup:=by
  obtain⟨h1,h2⟩:=NV m hm13
  rcases hnm with e|e
  ·rw[e];exact h1
  ·rw[e];exact h2
 clear hnm
 have hT:Fo 0 1 (f::l):=by
  have:=Fo.group (d:=0) (k:=0) (by decide) hf hk hm hp h .nil
  rwa [List.append_nil]at this
 rw[hs]at hl hnd ⊢
 obtain⟨rows,st2,h1,h2,h3,h4⟩:=Ry h 1 0 k [] [(0,(k:Int))] [] (Int.le_refl _) (Int.le_refl _) rfl rfl
 rw[List.append_nil]at h1 h3
 rw[MW (by omega)]at h4
 have hw:Xa (f::l) 0 []=(-1,0)::rows:=by
  rw[Xa]
  show(-1,0)::Xa l 1 (Zp 0 f [])=_
  rw[Zp,if_pos hk,hm]
  show(-1,0)::Xa l 1 [(0,(k:Int))]=_
  rw[h1];simp[Xa]
 have hfin:Ym (f::l) 0 []=st2:=by
  rw[Ym]
  show Ym l 1 (Zp 0 f [])=_
  rw[Zp,if_pos hk,hm]
  show Ym l 1 [(0,(k:Int))]=_
  rw[h3];rfl
 have hrl:rows.length=l.length:=by
  have:=Yp (f::l) 0 []
  rw[hw]at this
  simpa using this
 have hat:∀i,i<(f::l).length→(f::l).getD i default∈f::l:=fun i hi=>by rw[List.getD_eq_getElem?_getD,List.getElem?_eq_getElem hi];exact List.getElem_mem _
 unfold Z1
 rw[if_neg (by simp at hl ⊢;omega)]
 have hz:Zc (f::l) 0 (f::l).length=0:=by
  refine GG _ _ fun j _ hj=>?_
  rw[Nat.zero_add]at hj
  have hfo:=hT.all _ (hat j hj)
  have hkd:=hT.kids _ (hat j hj)
  have htw:WF (f::l) (Qi (f::l)) j=false:=by
   unfold WF
   rw[List.any_eq_false]
   intro q hq
   have hq:=List.mem_range.1 hq
   have hne:=CB hnd hj hq
   unfold Xw
   rw[RF,decide_eq_false hne]
   simp
  have hpd:(0<j→0≤(Qi (f::l)).getD j 0)∧(X1 (f::l)).getD j 0≤8:=by
   rw[Qi,X1,hw]
   cases j with
   |zero=>exact⟨fun h=>absurd h (by decide),show(0:Int)≤8 by decide⟩
   |succ j=>
    have hjr:j<rows.length:=by rw[hrl];simpa using hj
    have hmem:rows[j]∈rows:=List.getElem_mem _
    have:=h2 _ hmem
    simp only[List.map_cons,List.getD_cons_succ]
    simp only[List.getD_eq_getElem?_getD,List.getElem?_map,List.getElem?_eq_getElem hjr,Option.map_some,Option.getD_some]
    exact⟨fun _=>this.1,this.2⟩
  have h0:j=0→((f::l).getD j default).rep=0∧((f::l).getD j default).kind=0:=fun e=>by subst e;exact⟨hr,hk⟩
  unfold YJ
  rw[htw,Ow hfo]
  have hR:=hfo.rep
  have hK:=hfo.kind
  generalize(f::l).getD j default=F at *
  unfold BH
  rw[if_neg (by omega),if_neg (by omega),if_neg (by simp),if_neg (by omega),if_neg (by omega),if_neg (by omega)]
 rw[hz,if_neg (fun h=>h rfl),hfin,Cu h4]
 rfl
theorem FE(fs:List Fd):∀(n i:Nat),Zc fs i n=0→ ∀j,i≤j→j<i+n→YJ fs (Qi fs) j ((X1 fs).getD j 0)=0
 |0,i,_,j,h1,h2=>by omega
 |n+1,i,h,j,h1,h2=>by
  rw[Zc]at h
  split at h
  ·rename_i hne;exact absurd h hne
  ·rename_i he
   rcases Nat.lt_or_ge i j with h3|h3
   ·exact FE fs n (i+1) h j (by omega) (by omega)
   ·obtain rfl:j=i:=by omega
    exact Decidable.not_not.1 he
theorem RU{f:Fd}{i:Nat}{par dep:Int}{nm tw:Bool}(h:BH f i par dep nm tw=0):nm=true∧(0≤f.rep∧f.rep≤2)∧(0≤f.kind∧f.kind≤4)∧0≤f.kids:=by
 unfold BH at h
 split at h
 ·cases h
 split at h
 ·cases h
 split at h
 ·cases h
 rename_i h1
 split at h
 ·cases h
 rename_i h2
 split at h
 ·cases h
 split at h
 ·cases h
 rename_i h3
 refine⟨?_,?_,?_,?_⟩
 ·cases nm
  ·exact absurd (.inl rfl) h1
  ·rfl
 ·omega
 ·omega
 ·by_cases hk:f.kind=0<;>omega
theorem Bq(ns:List Int):∀f∈QN ns,SbOk f:=by
 have hc:=F7 ns
 have hl:=Uo ns
 have hfrom:Zc (QN ns) 0 (QN ns).length=0:=by
  unfold Z1 at hc
  split at hc
  ·cases hc
  ·split at hc
   ·rename_i h;exact absurd hc h
   ·rename_i h;exact Decidable.not_not.1 h
 intro f hf
 obtain⟨i,hi,rfl⟩:=List.mem_iff_getElem.1 hf
 have:=FE _ _ 0 hfrom i (Nat.zero_le _) (by omega)
 have hge:(QN ns).getD i default=(QN ns)[i]:=by rw[List.getD_eq_getElem?_getD,List.getElem?_eq_getElem hi];rfl
 have hk:=Dy ns i
 unfold YJ at this
 rw[hge]at this hk
 obtain⟨h1,h2,h3,h4⟩:=RU this
 have hn:(QN ns)[i].name.length≤12:=by
  unfold Yf at h1
  simp only[Bool.and_eq_true,decide_eq_true_eq]at h1
  exact h1.1.1.2
 exact⟨⟨h2.1,by omega⟩,⟨h3.1,by omega⟩,⟨h4,by omega⟩,hn⟩
theorem KF(n:Nat):(Y9 n).length≤10:=Cr 9 n
theorem Q1b{f:Fd}(h:SbOk f):(Ce f).length≤34:=by
 have h1:=KF f.kids.toNat
 have h2:=KF f.name.length
 have h3:=h.name
 simp only[Ce,List.length_append,Y3];omega
theorem HM:∀{l:List Fd},(∀f∈l,SbOk f)→(sbL l).length≤34*l.length
 |[],_=>by simp[sbL]
 |f::l,h=>by
  have h1:=Q1b (h f (List.mem_cons_self ..))
  have h2:=HM (l:=l) fun g hg=>h g (List.mem_cons_of_mem _ hg)
  rw[sbL,List.length_append,List.length_cons];omega
theorem F6(ns:List Int):(sbF (QN ns)).length≤600:=by
 have h1:=HM (Bq ns)
 have h2:=Uo ns
 have h3:=KF (QN ns).length
 rw[sbF,List.length_append];omega
theorem LI(f:Fd):Fv f f=true:=by simp[Fv,VH]
theorem VC{α:Type}{f:α→α→Bool}(h:∀a,f a a=true):∀l,YH f l l=true
 |[]=>rfl
 |a::l=>by rw[YH,h,VC h l];rfl
theorem Li(p:Pg):Bm p p=true:=by simp[Bm]
theorem LQ(c:Ck):GS c c=true:=by simp[GS,VC Li,Ni,SH,VH]
theorem IW(g:Rw):Bi g g=true:=by simp[Bi,VC LQ]
theorem UK(m:Mt):NZ m m=true:=by simp[NZ,VC LI,VC IW]
end Go.Proofs.Ytajieadpaeggcaa
