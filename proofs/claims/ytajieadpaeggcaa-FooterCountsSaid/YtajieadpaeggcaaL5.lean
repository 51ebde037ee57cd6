/-
  Files' descriptions made of raw numbers. The statements'. Whether two files say the same. The program's. Whether two files say the same,whole. The program's. Are two schemas,two files' descriptions the same? The document's. What a file says of itself,written and read,is the same. Plain. The document's 'Check'. Plain. The program's 'Check' and the document's answer the same. Plain. Shapes as text:words,and what they say. Plain. A shape's text. Plain. What 'Make' makes:trees,laid out. Plain. What 'Make' makes is printed. Plain. What 'Make' makes may be:nothing is wrong with it. Plain. Made descriptions may be written and read. Plain. Made descriptions,with records,may be written and read. Plain.
-/
import Derived.Test.YtajieadpaeggcaaL4
import Derived.Test.YtajieadpaeggcaaSxOne
import Derived.Test.YtajieadpaeggcaaL2
import Derived.Test.YtajieadpaeggcaaL1
set_option linter.unusedVariables false
set_option linter.unusedSimpArgs false
namespace Go.Proofs.Ytajieadpaeggcaa
open Go Go.Av
section
set_option maxRecDepth 100000
set_option maxHeartbeats 4000000
def ZT{α:Type}(n sz:Nat)(l:List α):AVal:=match l with
 |[]=>.nils
 |a::t=>.slice n 0 (a::t).length sz none
def Y7{α:Type}(enc:α→List AVal)(l:List α):Option Blk:=match l with
 |[]=>none
 |a::t=>some (.cells ((a::t).map enc) false)
theorem Lc{α:Type}(n sz:Nat){l:List α}(h:0<l.length):ZT n sz l= .slice n 0 l.length sz none:=by
 cases l with
 |nil=>cases h
 |cons a t=>rfl
theorem Ld{α:Type}(enc:α→List AVal){l:List α}(h:0<l.length):Y7 enc l=some (.cells (l.map enc) false):=by
 cases l with
 |nil=>cases h
 |cons a t=>rfl
theorem ZA{α:Type}{ρ:Nat→Nat}{n sz:Nat}{l:List α}(h:ρ n=n):WkV (ZT n sz l) ((ZT n sz l).ren ρ):=by
 cases l with
 |nil=>exact .refl _
 |cons a t=>simp only[ZT,AVal.ren,h];exact .refl _
theorem U5{α:Type}{ρ:Nat→Nat}{n K sz len:Nat}{cap:Option Nat}{l:List α}(h:ρ n=K)(hl:len=l.length)(h0:0<l.length):WkV (.slice K 0 len sz cap) ((ZT n sz l).ren ρ):=by
 rw[Lc n sz h0]
 subst hl h
 exact .cap _ _ _ _ _
theorem hokB{ρ:Nat→Nat}{n m:Nat}{H t:Heap}{ob:Option Blk}(hb:∀b,ob=some b→m<n∧ ∃b0,H.get (ρ m)=some b0∧WkB b0 (b.ren ρ))(ht:XZ ρ n H t):XZ ρ n H ((m,ob)::t):=by
 cases ob with
 |none=>exact ht
 |some b=>exact⟨hb b rfl,ht⟩
theorem Y8{α:Type}{ρ:Nat→Nat}{n m:Nat}{H t:Heap}{enc:α→List AVal}{l:List α}(hf:Qm (l.map enc))(hm:m<n)(h:H.get (ρ m)=Y7 enc l)(ht:XZ ρ n H t):XZ ρ n H ((m,Y7 enc l)::t):=by
 refine hokB (fun b hb=>⟨hm,b,h.trans hb,?_⟩) ht
 cases l with
 |nil=>cases hb
 |cons a q=>cases hb;exact Qb hf
theorem V3{α:Type}{ρ:Nat→Nat}{n m:Nat}{H t:Heap}{enc:α→List AVal}{l:List α}{rows:List (List AVal)}(hf:Qm (l.map enc))(hm:m<n)(h:H.get (ρ m)=some (.cells rows false))(hr:rows=l.map enc)(h0:0<l.length)(ht:XZ ρ n H t):XZ ρ n H ((m,Y7 enc l)::t):=by
 subst hr
 rw[Ld enc h0]
 exact⟨⟨hm,_,h,Qb hf⟩,ht⟩
theorem SQ[Syms]{na N:Nat}{e:Env}{H:Heap}{nx nx':Nat}(h:nx≤nx'):Reb na N ⟨e,H,nx⟩ ⟨e,H,nx'⟩:=
 ⟨fun x=>Nat.le_trans x h,fun ι a w hS=>⟨ι,⟨hS.defers,hS.size,hS.env,hS.heap,fun n L hn=>⟨Nat.lt_of_lt_of_le (hS.bound n L hn).1 h,(hS.bound n L hn).2⟩⟩,.refl ..⟩⟩
theorem Q0j{g:Int}(h:I64 g)(n:Int)(hn:2≤n):-4611686018427387904≤dv g n∧dv g n≤4611686018427387904:=by
 obtain⟨h1,h2⟩:=h
 have key:-4611686018427387904≤g.tdiv n∧g.tdiv n≤4611686018427387904:=by
  rcases Int.le_total 0 g with hg|hg
  ·rw[Int.tdiv_eq_ediv_of_nonneg hg]
   have e2:0≤g/n:=Int.ediv_nonneg hg (by omega)
   have e1:=Int.mul_le_mul_of_nonneg_left hn e2
   have e3:=Int.ediv_mul_le g (show n≠0 by omega)
   generalize g/n*n=z at *
   omega
  ·have hg':0≤ -g:=by omega
   have e0:g.tdiv n= -((-g).tdiv n):=by rw[Int.neg_tdiv];omega
   rw[e0,Int.tdiv_eq_ediv_of_nonneg hg']
   have e2:0≤ -g/n:=Int.ediv_nonneg hg' (by omega)
   have e1:=Int.mul_le_mul_of_nonneg_left hn e2
   have e3:=Int.ediv_mul_le (-g) (show n≠0 by omega)
   generalize -g/n*n=z at *
   omega
 unfold dv
 rw[wrI ⟨by omega,by omega⟩]
 exact key
abbrev cMk:CallT:=Q6 13 (BN G_wi) (Q6 20 (Xc S_make) (Q6 21 (Xc S_leaves) (Q6 22 (Xc S_good) Q7)))
theorem Iw[Syms]:cMk.det Try.prog:=UD DU (ZW NY (ZW K4 (ZW Ri Q3)))
noncomputable def plMk:Nat→Nat→Pl:=XG [(11,1),(11,5),(11,7),(11,10),(11,12),(11,15),(11,23),(11,24)] (Qz plt)
def oS(s:List Fd)(gs:List Int)(l:List Vl)(ls:List Lf)(a i:Nat)(N:Int)(rs:List Rw):St:=⟨[(1,vI gs),(2,vV l),(6,.ptr 1 0 0),(7,.ptr 0 0 0),(8,vL ls),(9,.int .i64 a),(10,.int .i64 i)],[(0,some (.cells [QE (vF s) N (ZT 3 2 rs)] false)),(1,some (.cells [QE .nils 0 .nils] false)),(3,Y7 encR rs)],7⟩
def gS0(s:List Fd)(gs:List Int)(l:List Vl)(ls:List Lf)(a i:Nat)(g:Int)(rs:List Rw):St:=⟨[(1,vI gs),(2,vV l),(6,.ptr 1 0 0),(7,.ptr 0 0 0),(8,vL ls),(9,.int .i64 a),(10,.int .i64 i),(11,.ptr 2 0 0)],[(0,some (.cells [QE (vF s) (Zd rs) (ZT 3 2 rs)] false)),(1,some (.cells [QE .nils 0 .nils] false)),(3,Y7 encR rs),(2,some (.cells [Zs (nM g) .nils] false))],7⟩
def iS(s:List Fd)(gs:List Int)(l:List Vl)(ls:List Lf)(a i:Nat)(g:Int)(rs:List Rw)(k:Nat)(cs:List Ck):St:=⟨[(1,vI gs),(2,vV l),(6,.ptr 1 0 0),(7,.ptr 0 0 0),(8,vL ls),(9,.int .i64 a),(10,.int .i64 i),(11,.ptr 2 0 0),(12,.int .i64 k)],[(0,some (.cells [QE (vF s) (Zd rs+nM g) (ZT 3 2 rs)] false)),(1,some (.cells [QE .nils 0 .nils] false)),(3,Y7 encR rs),(2,some (.cells [Zs (nM g) (ZT 5 11 cs)] false)),(5,Y7 encC cs)],7⟩
def knM(g:Int)(k:Nat):Bool:=decide (0<wi (dv g 3+k) 3)
def gS1(s:List Fd)(gs:List Int)(l:List Vl)(ls:List Lf)(a i:Nat)(g:Int)(rs:List Rw)(k:Nat)(cs:List Ck):St:=⟨[(1,vI gs),(2,vV l),(6,.ptr 1 0 0),(7,.ptr 0 0 0),(8,vL ls),(9,.int .i64 a),(10,.int .i64 i),(11,.ptr 2 0 0),(12,.int .i64 k),(13,.ptr 4 0 0)],[(0,some (.cells [QE (vF s) (Zd rs+nM g) (ZT 3 2 rs)] false)),(1,some (.cells [QE .nils 0 .nils] false)),(3,Y7 encR rs),(2,some (.cells [Zs (nM g) (ZT 5 11 cs)] false)),(5,Y7 encC cs),(4,some (.cells [XQ 0 0 0 .nils (knM g k) 0 false] false))],7⟩
def pS(s:List Fd)(gs:List Int)(l:List Vl)(ls:List Lf)(a i:Nat)(g:Int)(rs:List Rw)(k:Nat)(cs:List Ck)(left:Int)(ps:List Pg):St:=⟨[(1,vI gs),(2,vV l),(6,.ptr 1 0 0),(7,.ptr 0 0 0),(8,vL ls),(9,.int .i64 a),(10,.int .i64 i),(11,.ptr 2 0 0),(12,.int .i64 k),(13,.ptr 4 0 0),(14,.int .i64 left)],[(0,some (.cells [QE (vF s) (Zd rs+nM g) (ZT 3 2 rs)] false)),(1,some (.cells [QE .nils 0 .nils] false)),(3,Y7 encR rs),(2,some (.cells [Zs (nM g) (ZT 5 11 cs)] false)),(5,Y7 encC cs),(4,some (.cells [XQ 0 0 0 (ZT 6 7 ps) (knM g k) 0 false] false)),(6,Y7 encP ps)],7⟩
def pR(s:List Fd)(gs:List Int)(l:List Vl)(ls:List Lf)(a i:Nat)(g:Int)(rs:List Rw)(k:Nat)(cs:List Ck)(left:Int)(ps:List Pg):St:=⟨[(1,vI gs),(2,vV l),(6,.ptr 1 0 0),(7,.ptr 0 0 0),(8,vL ls),(9,.int .i64 a),(10,.int .i64 i),(11,.ptr 2 0 0),(12,.int .i64 k),(13,.ptr 4 0 0),(14,.int .i64 left),(15,.int .i64 (YF g left))],[(0,some (.cells [QE (vF s) (Zd rs+nM g) (ZT 3 2 rs)] false)),(1,some (.cells [QE .nils 0 .nils] false)),(3,Y7 encR rs),(2,some (.cells [Zs (nM g) (ZT 5 11 cs)] false)),(5,Y7 encC cs),(4,some (.cells [XQ 0 0 0 (ZT 6 7 ps) (knM g k) 0 false] false)),(6,Y7 encP ps)],7⟩
theorem SY{gs:List Int}{i:Nat}{g left:Int}(hge:gs.getD i 0=g):[[AVal.int .i64 (YF g left),.int .i64 (YF g left+wi g 9),.int .i64 (wi g 2),.int .i64 (wi (dv g 2) 300),.int .i64 (wi (dv g 5) 300),.int .i64 (wi (dv g 9) 3000),.int .u32 (wr .u32 (wr .u32 (gs.getD i 0)*77))]]=(([]:List Pg)++[pgM g (YF g left)]).map encP:=by rw[hge];rfl
theorem SX{gs:List Int}{i:Nat}{g left:Int}{p0:Pg}{pt:List Pg}(hge:gs.getD i 0=g):List.take (p0::pt).length (List.drop 0 ((p0::pt).map encP))++[[AVal.int .i64 (YF g left),.int .i64 (YF g left+wi g 9),.int .i64 (wi g 2),.int .i64 (wi (dv g 2) 300),.int .i64 (wi (dv g 5) 300),.int .i64 (wi (dv g 9) 3000),.int .u32 (wr .u32 (wr .u32 (gs.getD i 0)*77))]]=((p0::pt)++[pgM g (YF g left)]).map encP:=by
 rw[hge,List.drop_zero,List.take_of_length_le (by simp),List.map_append];rfl
def V9(ps:List Pg)(j:Nat):List Pg:=(ps.take j).map d2++ps.drop j
theorem G8(ps:List Pg)(j:Nat):(V9 ps j).length=ps.length:=by simp[V9];omega
theorem OE{ps:List Pg}{j:Nat}(h:j<ps.length):(V9 ps j).getD j default=ps.getD j default:=by
 have h1:((ps.take j).map d2).length=j:=by simp;omega
 rw[V9,List.getD_eq_getElem?_getD,List.getElem?_append_right (by omega),h1,Nat.sub_self,List.getElem?_drop,Nat.add_zero,List.getD_eq_getElem?_getD]
theorem EZ{ps:List Pg}{j:Nat}(h:j<ps.length):(V9 ps j).set j (d2 (ps.getD j default))=V9 ps (j+1):=by
 have h1:((ps.take j).map d2).length=j:=by simp;omega
 rw[V9,List.set_append_right _ _ (by omega),h1,Nat.sub_self,List.drop_eq_getElem_cons h,List.set_cons_zero,V9,List.take_add_one,List.getElem?_eq_getElem h,List.map_append,List.append_assoc]
 simp[h]
theorem LH(ps:List Pg):V9 ps ps.length=ps.map d2:=by simp[V9]
theorem Ti{ps:List Pg}{j:Nat}(h:j<ps.length):((V9 ps j).map encP).set (0+((j:Nat):Int).toNat) (QF (((V9 ps j).map encP).getD (0+((j:Nat):Int).toNat) []) (0+2) [.int .i64 2])=(V9 ps (j+1)).map encP:=by
 rw[Nat.zero_add,Int.toNat_natCast,Wf encP default (by rw[G8];exact h),OE h,←EZ h,List.map_set];rfl
def dS(s:List Fd)(gs:List Int)(l:List Vl)(ls:List Lf)(a i:Nat)(g:Int)(rs:List Rw)(k:Nat)(cs:List Ck)(ps:List Pg)(j:Nat):St:=⟨[(1,vI gs),(2,vV l),(6,.ptr 1 0 0),(7,.ptr 0 0 0),(8,vL ls),(9,.int .i64 a),(10,.int .i64 i),(11,.ptr 2 0 0),(12,.int .i64 k),(13,.ptr 4 0 0),(16,.int .i64 j)],[(0,some (.cells [QE (vF s) (Zd rs+nM g) (ZT 3 2 rs)] false)),(1,some (.cells [QE .nils 0 .nils] false)),(3,Y7 encR rs),(2,some (.cells [Zs (nM g) (ZT 5 11 cs)] false)),(5,Y7 encC cs),(4,some (.cells [XQ 0 0 0 (.slice 6 0 ps.length 7 none) (knM g k) 0 false] false)),(6,some (.cells ((V9 ps j).map encP) false))],7⟩
def eS(s:List Fd)(gs:List Int)(l:List Vl)(ls:List Lf)(a i:Nat)(g:Int)(rs:List Rw)(k:Nat)(cs:List Ck)(w sz cr:Int)(n:Nat)(ps:List Pg):St:=⟨[(1,vI gs),(2,vV l),(6,.ptr 1 0 0),(7,.ptr 0 0 0),(8,vL ls),(9,.int .i64 a),(10,.int .i64 i),(11,.ptr 2 0 0),(12,.int .i64 k),(13,.ptr 4 0 0)],[(0,some (.cells [QE (vF s) (Zd rs+nM g) (ZT 3 2 rs)] false)),(1,some (.cells [QE .nils 0 .nils] false)),(3,Y7 encR rs),(2,some (.cells [Zs (nM g) (ZT 5 11 cs)] false)),(5,Y7 encC cs),(4,some (.cells [XQ w sz cr (.slice 6 0 n 7 none) (knM g k) 0 false] false)),(6,some (.cells (ps.map encP) false))],7⟩
def eS2(s:List Fd)(gs:List Int)(l:List Vl)(ls:List Lf)(a i:Nat)(g:Int)(rs:List Rw)(k:Nat)(cs:List Ck)(w sz cr:Int)(ps:List Pg)(b:Bool):St:=⟨[(1,vI gs),(2,vV l),(6,.ptr 1 0 0),(7,.ptr 0 0 0),(8,vL ls),(9,.int .i64 a),(10,.int .i64 i),(11,.ptr 2 0 0),(12,.int .i64 k),(13,.ptr 4 0 0),(166,.bool b)],[(0,some (.cells [QE (vF s) (Zd rs+nM g) (ZT 3 2 rs)] false)),(1,some (.cells [QE .nils 0 .nils] false)),(3,Y7 encR rs),(2,some (.cells [Zs (nM g) (ZT 5 11 cs)] false)),(5,Y7 encC cs),(4,some (.cells [XQ w sz cr (.slice 6 0 ps.length 7 none) (knM g k) 0 false] false)),(6,some (.cells (ps.map encP) false))],7⟩
def fS(s:List Fd)(gs:List Int)(l:List Vl)(ls:List Lf)(a i:Nat)(g:Int)(rs:List Rw)(k:Nat)(cs:List Ck)(w sz cr:Int)(ps:List Pg)(b:Bool):St:=⟨[(1,vI gs),(2,vV l),(6,.ptr 1 0 0),(7,.ptr 0 0 0),(8,vL ls),(9,.int .i64 a),(10,.int .i64 i),(11,.ptr 2 0 0),(12,.int .i64 k),(13,.ptr 4 0 0),(166,.bool b)],[(0,some (.cells [QE (vF s) (Zd rs+nM g) (ZT 3 2 rs)] false)),(1,some (.cells [QE .nils 0 .nils] false)),(3,Y7 encR rs),(2,some (.cells [Zs (nM g) (ZT 5 11 cs)] false)),(5,Y7 encC cs),(4,some (.cells [XQ w sz cr (.vs 7 (ps.map encP)) (knM g k) 0 false] false))],7⟩
theorem hfz{n m:Nat}{rows:List (List AVal)}{H t:Heap}{ob:Option Blk}(hm:m≠n)(h:H.get m=ob)(ht:FzH n rows H t):FzH n rows H ((m,ob)::t):=by
 cases ob with
 |none=>exact ht
 |some b=>exact⟨⟨hm,_,h,.same _⟩,ht⟩
theorem DG[Syms]{N:Nat}(s:List Fd)(gs:List Int)(l:List Vl)(ls:List Lf)(a i:Nat)(g:Int)(rs:List Rw)(k:Nat)(cs:List Ck)(w sz cr:Int)(ps:List Pg)(b:Bool)(hp:0<ps.length):Reb 0 N (eS2 s gs l ls a i g rs k cs w sz cr ps b) (fS s gs l ls a i g rs k cs w sz cr ps b):=by
 have hcut:((ps.map encP).drop 0).take ps.length=ps.map encP:=by rw[List.drop_zero,List.take_of_length_le (by simp)]
 have hs:FzV 6 (ps.map encP) (.slice 6 0 ps.length 7 none) (.vs 7 (ps.map encP)):=by
  have:=FzV.sl (n:=6) (rows:=ps.map encP) 0 ps.length 7 none hp (by simp)
  rwa [hcut]at this
 refine QV (n:=6) (rows:=ps.map encP) rfl (fP ps) ⟨.same _,.same _,.same _,.same _,.same _,.same _,.same _,.same _,.same _,.same _,.same _,trivial⟩ ?_
 refine hfz (by decide) rfl (hfz (by decide) rfl (hfz (by decide) rfl (hfz (by decide) rfl (hfz (by decide) rfl ⟨⟨by decide,_,rfl,.cells [XQ w sz cr (.slice 6 0 ps.length 7 none) (knM g k) 0 false] [XQ w sz cr (.vs 7 (ps.map encP)) (knM g k) 0 false] false rfl (fun j r r' h h'=>?_)⟩,trivial⟩))))
 cases j with
 |zero=>
  cases h;cases h'
  exact⟨.same _,.same _,.same _,hs,.same _,.same _,.same _,.same _,.same _,.same _,.same _,trivial⟩
 |succ j=>simp at h
theorem CT(g:Int)(l:List Vl)(ks:List Int)(a:Nat):∀k,(Wk g l ks a k).1.length=k
 |0=>rfl
 |k+1=>by rw[Wk,List.length_append,CT g l ks a k];rfl
abbrev mhd(s:List Fd)(N:Int)(rs:List Rw):List AVal:=QE (vF s) N (ZT 3 2 rs)
theorem ZY[Syms]{N nx:Nat}{e e3:Env}{H rest:Heap}{s:List Fd}{M:Int}{rs:List Rw}{row:List AVal}(q:List Nat)(hl:q.length=7)(h0:q.getD 0 0=0)(h1:q.getD 1 0=1)(h3:q.getD 3 0=3)(hn:QG 0 nx q=true)(he:GQ (rho q nx) e e3)
 (H0:H.get 0=some (.cells [row] false)) (hrow:∀ρ:Nat→Nat,ρ 3=3→Ww row (AVal.renL ρ (mhd s M rs))) (H1:H.get 1=some (.cells [QE .nils 0 .nils] false)) (H3:H.get 3=Y7 encR rs) (hr:XZ (rho q nx) 7 H rest):
 Reb 0 N ⟨e,H,nx⟩ ⟨e3,(0,some (.cells [mhd s M rs] false))::(1,some (.cells [QE .nils 0 .nils] false))::(3,Y7 encR rs)::rest,7⟩:=by
 have r0:rho q nx 0=0:=by rw[Wg (by omega)];exact h0
 have r1:rho q nx 1=1:=by rw[Wg (by omega)];exact h1
 have r3:rho q nx 3=3:=by rw[Wg (by omega)];exact h3
 have:=Q0 (na:=0) (N:=N) (s:=⟨e,H,nx⟩) (e3:=e3) (H3:=(0,some (.cells [mhd s M rs] false))::(1,some (.cells [QE .nils 0 .nils] false))::(3,Y7 encR rs)::rest) q hn he
  ⟨⟨by omega,_,(by show H.get (rho q nx 0)=_;rw[r0];exact H0),QB (hrow _ r3)⟩,⟨by omega,_,(by show H.get (rho q nx 1)=_;rw[r1];exact H1),.refl _⟩,Y8 (fR rs) (by omega) (by show H.get (rho q nx 3)=_;rw[r3];exact H3) (by rw[hl];exact hr)⟩
 rw[hl]at this
 exact this
theorem R9[Syms]{N nx K:Nat}{e e3:Env}{H rest:Heap}{s:List Fd}{M:Int}{rs:List Rw}{row:List AVal}{rows:List (List AVal)}(q:List Nat)(hl:q.length=7)(h0:q.getD 0 0=0)(h1:q.getD 1 0=1)(h3:q.getD 3 0=K)(hn:QG 0 nx q=true)(he:GQ (rho q nx) e e3)
 (H0:H.get 0=some (.cells [row] false)) (hrow:∀ρ:Nat→Nat,ρ 3=K→Ww row (AVal.renL ρ (mhd s M rs))) (H1:H.get 1=some (.cells [QE .nils 0 .nils] false)) (H3:H.get K=some (.cells rows false)) (hrs:rows=rs.map encR) (hpos:0<rs.length) (hr:XZ (rho q nx) 7 H rest):
 Reb 0 N ⟨e,H,nx⟩ ⟨e3,(0,some (.cells [mhd s M rs] false))::(1,some (.cells [QE .nils 0 .nils] false))::(3,Y7 encR rs)::rest,7⟩:=by
 have r0:rho q nx 0=0:=by rw[Wg (by omega)];exact h0
 have r1:rho q nx 1=1:=by rw[Wg (by omega)];exact h1
 have r3:rho q nx 3=K:=by rw[Wg (by omega)];exact h3
 have:=Q0 (na:=0) (N:=N) (s:=⟨e,H,nx⟩) (e3:=e3) (H3:=(0,some (.cells [mhd s M rs] false))::(1,some (.cells [QE .nils 0 .nils] false))::(3,Y7 encR rs)::rest) q hn he
  ⟨⟨by omega,_,(by show H.get (rho q nx 0)=_;rw[r0];exact H0),QB (hrow _ r3)⟩,⟨by omega,_,(by show H.get (rho q nx 1)=_;rw[r1];exact H1),.refl _⟩,V3 (fR rs) (by omega) (by show H.get (rho q nx 3)=_;rw[r3];exact H3) hrs hpos (by rw[hl];exact hr)⟩
 rw[hl]at this
 exact this
def h1S(s:List Fd)(gs:List Int)(l:List Vl)(ls:List Lf)(a i:Nat)(g:Int)(rs:List Rw)(cs:List Ck):St:=⟨[(1,vI gs),(2,vV l),(6,.ptr 1 0 0),(7,.ptr 0 0 0),(8,vL ls),(9,.int .i64 a),(10,.int .i64 i),(11,.ptr 2 0 0),(50,.bool false)],[(0,some (.cells [QE (vF s) (Zd rs+nM g) (ZT 3 2 rs)] false)),(1,some (.cells [QE .nils 0 .nils] false)),(3,Y7 encR rs),(2,some (.cells [Zs (nM g) (ZT 5 11 cs)] false)),(5,Y7 encC cs)],7⟩
def hS(s:List Fd)(gs:List Int)(l:List Vl)(ls:List Lf)(a i:Nat)(g:Int)(rs:List Rw)(cs:List Ck):St:=⟨[(1,vI gs),(2,vV l),(6,.ptr 1 0 0),(7,.ptr 0 0 0),(8,vL ls),(9,.int .i64 a),(10,.int .i64 i),(11,.ptr 2 0 0),(50,.bool false)],[(0,some (.cells [QE (vF s) (Zd rs+nM g) (ZT 3 2 rs)] false)),(1,some (.cells [QE .nils 0 .nils] false)),(3,Y7 encR rs),(2,some (.cells [encR ⟨nM g,cs⟩] false))],7⟩
theorem Q0h[Syms]{N:Nat}(s:List Fd)(gs:List Int)(l:List Vl)(ls:List Lf)(a i:Nat)(g:Int)(rs:List Rw)(cs:List Ck):Reb 0 N (h1S s gs l ls a i g rs cs) (hS s gs l ls a i g rs cs):=by
 cases cs with
 |nil=>exact ZY [0,1,2,3,4,5,6] rfl rfl rfl rfl (by exact rfl) ⟨.refl _,.refl _,.refl _,.refl _,.refl _,.refl _,.refl _,.refl _,.refl _,trivial⟩ rfl (fun ρ hρ=>⟨.refl _,.refl _,ZA hρ,trivial⟩) rfl rfl ⟨⟨by decide,_,rfl,QB (row:=encR ⟨nM g,[]⟩) ⟨.refl _,.zero _ _ rfl,trivial⟩⟩,trivial⟩
 |cons c0 ct=>
  have hcut:(((c0::ct).map encC).drop 0).take (c0::ct).length=(c0::ct).map encC:=by rw[List.drop_zero,List.take_of_length_le (by simp)]
  have hs:FzV 5 ((c0::ct).map encC) (.slice 5 0 (c0::ct).length 11 none) (.vs 11 ((c0::ct).map encC)):=by
   have:=FzV.sl (n:=5) (rows:=(c0::ct).map encC) 0 (c0::ct).length 11 none (by simp) (by simp)
   rwa [hcut]at this
  refine QV (n:=5) (rows:=(c0::ct).map encC) rfl (fC _) ⟨.same _,.same _,.same _,.same _,.same _,.same _,.same _,.same _,.same _,trivial⟩ ?_
  refine hfz (by decide) rfl (hfz (by decide) rfl (hfz (by decide) rfl ⟨⟨by decide,_,rfl,.cells [Zs (nM g) (.slice 5 0 (c0::ct).length 11 none)] [encR ⟨nM g,c0::ct⟩] false rfl (fun j r r' h h'=>?_)⟩,trivial⟩))
  cases j with
  |zero=>
   cases h;cases h'
   exact⟨.same _,hs,trivial⟩
  |succ j=>simp at h
theorem T8(ps:List Rw)(p:Rw):List.take ps.length (List.drop 0 (ps.map encR))++[encR p]=(ps++[p]).map encR:=by
 rw[List.drop_zero,List.take_of_length_le (by simp),List.map_append];rfl
def z1S(s:List Fd)(rs:List Rw):St:=⟨[(6,.ptr 1 0 0),(7,.ptr 0 0 0),(31,.bool false)],[(0,some (.cells [QE (vF s) (Zd rs) (ZT 3 2 rs)] false)),(1,some (.cells [QE .nils 0 .nils] false)),(3,Y7 encR rs)],7⟩
def zS(s:List Fd)(rs:List Rw):St:=⟨[(6,.ptr 1 0 0),(7,.ptr 0 0 0),(31,.bool false)],[(0,some (.cells [QE (vF s) (Zd rs) (.vs 2 (rs.map encR))] false)),(1,some (.cells [QE .nils 0 .nils] false))],7⟩
theorem m_fz[Syms]{N:Nat}(s:List Fd)(rs:List Rw):Reb 0 N (z1S s rs) (zS s rs):=by
 cases rs with
 |nil=>exact Q0 [0,1,2,3,4,5,6] (by exact rfl) ⟨.refl _,.refl _,.refl _,trivial⟩ ⟨⟨by decide,_,rfl,QB (row:=QE (vF s) 0 (.vs 2 [])) ⟨.refl _,.refl _,.zero _ _ rfl,trivial⟩⟩,⟨by decide,_,rfl,.refl _⟩,trivial⟩
 |cons c0 ct=>
  have hcut:(((c0::ct).map encR).drop 0).take (c0::ct).length=(c0::ct).map encR:=by rw[List.drop_zero,List.take_of_length_le (by simp)]
  have hs:FzV 3 ((c0::ct).map encR) (.slice 3 0 (c0::ct).length 2 none) (.vs 2 ((c0::ct).map encR)):=by
   have:=FzV.sl (n:=3) (rows:=(c0::ct).map encR) 0 (c0::ct).length 2 none (by simp) (by simp)
   rwa [hcut]at this
  refine QV (n:=3) (rows:=(c0::ct).map encR) rfl (fR _) ⟨.same _,.same _,.same _,trivial⟩ ?_
  refine⟨⟨by decide,_,rfl,.cells [QE (vF s) (Zd (c0::ct)) (.slice 3 0 (c0::ct).length 2 none)] [QE (vF s) (Zd (c0::ct)) (.vs 2 ((c0::ct).map encR))] false rfl (fun j r r' h h'=>?_)⟩,hfz (by decide) rfl trivial⟩
  cases j with
  |zero=>
   cases h;cases h'
   exact⟨.same _,.same _,hs,trivial⟩
  |succ j=>simp at h
theorem CD(ks:List Int)(l:List Vl)(gs:List Int):∀i:Nat,0≤Zd (YJ ks l gs i).1∧Zd (YJ ks l gs i).1≤40*(i:Int)
 |0=>⟨Int.le_refl 0,Int.le_refl 0⟩
 |i+1=>by
  have ih:=CD ks l gs i
  have h1:=US (gs.getD i 0)
  have h2:Zd (YJ ks l gs (i+1)).1=Zd (YJ ks l gs i).1+nM (gs.getD i 0):=by show Zd ((YJ ks l gs i).1++[_])=_;simp only[KF,Zd,Int.add_zero]
  rw[h2];omega
theorem CE(ks:List Int)(l:List Vl)(gs:List Int):∀i:Nat,(YJ ks l gs i).1.length=i
 |0=>rfl
 |i+1=>by rw[YJ,List.length_append,CE ks l gs i];rfl
theorem O2[Syms](ns gs:List Int)(l:List Vl)(hn:ns.length≤9223372036854775807)(hgl:gs.length≤9223372036854775807)(hll:l.length≤9223372036854775807)(hg:∀g∈gs,I64 g):
 fnT cMk cMk (Qv fns) (Qn tys) plMk 100 11 [vI ns,vI gs,vV l] [] 0 (Vt (fun v H _=>v= .agg (QT (KU ns gs l))∧H=[])):=by
 repeat' first|refine And.intro ?_ ?_|(intro h;try first|exact dzq|replace h:=cvq)
 all_goals try exact cz
 refine⟨ns,rfl,hn,?_⟩
 have hfs:=I4 ns
 have hmk:KU ns gs l=⟨QW ns,Zd (YJ (Q5 (Qu (QW ns))) l gs (gs.take 4).length).1,(YJ (Q5 (Qu (QW ns))) l gs (gs.take 4).length).1⟩:=by
  have h4:(gs.take 4).length≤gs.length:=by rw[List.length_take];omega
  rw[Ia _ _ _ _ h4,List.length_take,show gs.take (min 4 gs.length)=gs.take 4 from by rw[←List.take_take,List.take_length]]
  rfl
 rw[hmk]
 clear hmk
 generalize QW ns=s at *
 repeat' first|refine And.intro ?_ ?_|(intro h;try first|exact dzq|replace h:=cvq)
 all_goals try exact cz
 refine⟨⟨[(1,vI gs),(2,vV l),(6,.ptr 1 0 0),(7,.ptr 0 0 0)],[(0,some (.cells [mhd s 0 []] false)),(1,some (.cells [QE .nils 0 .nils] false))],2⟩,Q0 [1,0] (by exact rfl) ⟨.refl _,.refl _,.refl _,.refl _,trivial⟩ ⟨⟨by decide,_,rfl,.refl _⟩,⟨by decide,_,rfl,.refl _⟩,trivial⟩,?_⟩
 repeat' first|refine And.intro ?_ ?_|(intro h;try first|exact dzq|replace h:=cvq)
 all_goals try exact cz
 refine⟨s,rfl,hfs,?_⟩
 have hlb:(Qu s).length≤1000:=by have h1:(Qu s).length≤s.length:=Zu _ _ _;have h2:=hfs.len;omega
 generalize Qu s=ls at *
 repeat' first|refine And.intro ?_ ?_|(intro h;try first|exact dzq|replace h:=cvq)
 all_goals try exact cz
 refine⟨fun m st=>∃i:Nat,(i≤(gs.take 4).length∧m=(gs.take 4).length-i)∧st=oS s gs l ls (YJ (Q5 ls) l gs i).2 i (Zd (YJ (Q5 ls) l gs i).1) (YJ (Q5 ls) l gs i).1,⟨_,oS s gs l ls 0 0 0 [],(SQ (nx':=7) (by omega)).trans (ZY [0,1,2,3,4,5,6] rfl rfl rfl rfl (by exact rfl) ⟨.refl _,.refl _,.refl _,.refl _,.refl _,.refl _,.refl _,trivial⟩ rfl (fun ρ hρ=>⟨.refl _,.refl _,ZA hρ,trivial⟩) rfl rfl trivial),0,⟨by omega,rfl⟩,rfl⟩,?_⟩
 rintro m st ⟨i,⟨hi,rfl⟩,rfl⟩
 have hi4:(gs.take 4).length=min 4 gs.length:=List.length_take
 by_cases h1:i<gs.length∧i<4
 ·obtain⟨h1,h2⟩:=h1
  have hgi:I64 (gs.getD i 0):=by
   rw[List.getD_eq_getElem?_getD,List.getElem?_eq_getElem h1];exact hg _ (List.getElem_mem h1)
  have hat:=Ib (Q5 ls) l gs i
  have hsm:=CD (Q5 ls) l gs i
  have hrl:=CE (Q5 ls) l gs i
  have hst:YJ (Q5 ls) l gs (i+1)=((YJ (Q5 ls) l gs i).1++[⟨nM (gs.getD i 0),(Z7 (gs.getD i 0) l (Q5 ls) 0 (YJ (Q5 ls) l gs i).2).1⟩],(Z7 (gs.getD i 0) l (Q5 ls) 0 (YJ (Q5 ls) l gs i).2).2):=rfl
  generalize YJ (Q5 ls) l gs i=qa at *
  obtain⟨rs,a⟩:=qa
  dsimp only at hst hat hsm hrl
  generalize hge:gs.getD i 0=g at *
  have hnM:=US g
  have hsr:0≤Zd rs∧Zd rs≤1000000:=by omega
  have hd2:wr .i64 ((gs.getD i 0).tdiv 2)=dv g 2:=by rw[hge];rfl
  have hd5:wr .i64 ((gs.getD i 0).tdiv 5)=dv g 5:=by rw[hge];rfl
  have hd7:wr .i64 ((gs.getD i 0).tdiv 7)=dv g 7:=by rw[hge];rfl
  have hd9:wr .i64 ((gs.getD i 0).tdiv 9)=dv g 9:=by rw[hge];rfl
  have hd11:wr .i64 ((gs.getD i 0).tdiv 11)=dv g 11:=by rw[hge];rfl
  have hd13:wr .i64 ((gs.getD i 0).tdiv 13)=dv g 13:=by rw[hge];rfl
  have hwn:wr .i64 (1+wi g 40)=nM g:=by rw[wrI (by have:=Yp (a:=g) (n:=40) (by decide);omega)];rfl
  rcases rs with _|⟨r0,rt⟩
  rotate_left
  let rz:List Rw:=r0::rt
  have hrz:rz.length=i:=hrl
  have hsz:0≤Zd rz∧Zd rz≤1000000:=hsr
  rotate_left
  let rz:List Rw:=[]
  have hrz:rz.length=i:=hrl
  have hsz:0≤Zd rz∧Zd rz≤1000000:=hsr
  all_goals(
   repeat' first|refine And.intro ?_ ?_|(intro h;try first|exact dzq|replace h:=cvq)
   all_goals try exact czq
   refine⟨_,.refl _ _ _,?_⟩
   repeat' first|refine And.intro ?_ ?_|(intro h;try first|exact dzq|replace h:=cvq)
   all_goals try exact czq
   refine⟨g,40,congrArg (fun z=>[AVal.int .i64 z,AVal.int .i64 40]) hge,by decide,?_⟩
   repeat' first|refine And.intro ?_ ?_|(intro h;try first|exact dzq|replace h:=cvq)
   all_goals try exact czq
   refine⟨gS0 s gs l ls a i g rz,ZY [0,1,7,3,4,5,6] rfl rfl rfl rfl (by exact rfl) ⟨.refl _,.refl _,.refl _,.refl _,.refl _,.refl _,.refl _,.refl _,trivial⟩ rfl (fun ρ hρ=>⟨.refl _,.refl _,ZA hρ,trivial⟩) rfl rfl ⟨⟨by decide,_,rfl,QB (row:=Zs (nM g) .nils) ⟨Qp hwn,.refl _,trivial⟩⟩,trivial⟩,?_⟩
   have hb1:-9223372036854775808≤Zd rz+nM g∧Zd rz+nM g≤9223372036854775807:=by omega
   repeat' first|refine And.intro ?_ ?_|(intro h;try first|exact dzq|replace h:=cvq)
   all_goals try exact czq
   all_goals(try first|exact hb1.1|exact hb1.2)
   refine⟨fun m st=>∃k:Nat,(k≤ls.length∧m=ls.length-k)∧st=iS s gs l ls (Wk g l (Q5 ls) a k).2 i g rz k (Wk g l (Q5 ls) a k).1,⟨_,iS s gs l ls a i g rz 0 [],ZY [0,1,2,3,4,5,6] rfl rfl rfl rfl (by exact rfl) ⟨.refl _,.refl _,.refl _,.refl _,.refl _,.refl _,.refl _,.refl _,.refl _,trivial⟩ rfl (fun ρ hρ=>⟨.refl _,.refl _,ZA hρ,trivial⟩) rfl rfl ⟨⟨by decide,_,rfl,QB (row:=Zs (nM g) .nils) ⟨.refl _,.refl _,trivial⟩⟩,trivial⟩,0,⟨by omega,rfl⟩,rfl⟩,?_⟩
   rintro m st ⟨k,⟨hk,rfl⟩,rfl⟩
   have hkl:(Q5 ls).length=ls.length:=List.length_map ..
   by_cases hk1:k<ls.length
   ·have hct:=Im g l (Q5 ls) a k
    have hcs:Wk g l (Q5 ls) a (k+1)=((Wk g l (Q5 ls) a k).1++[(ZF g k ((Q5 ls).getD k 0) l (Wk g l (Q5 ls) a k).2).1],(ZF g k ((Q5 ls).getD k 0) l (Wk g l (Q5 ls) a k).2).2):=rfl
    have hkd:(Q5 ls).getD k 0=(ls.getD k default).kind:=by
     rw[List.getD_eq_getElem?_getD,List.getD_eq_getElem?_getD,List.getElem?_map,List.getElem?_eq_getElem hk1];rfl
    rw[hkd]at hcs
    clear hkd
    generalize hqc:Wk g l (Q5 ls) a k=qc at *
    obtain⟨cs,a'⟩:=qc
    dsimp only at hct hcs
    have hcl:cs.length≤1000:=by
     have h1:=CT g l (Q5 ls) a k
     rw[hqc]at h1
     have h2:cs.length=k:=h1
     omega
    clear hqc
    rcases cs with _|⟨c0,ct⟩
    rotate_left
    let cw:List Ck:=c0::ct
    have hcw:cw.length≤1000:=hcl
    rotate_left
    let cw:List Ck:=[]
    have hcw:cw.length≤1000:=hcl
    all_goals(
     repeat' first|refine And.intro ?_ ?_|(intro h;try first|exact dzq|replace h:=cvq)
     all_goals try exact czq
     refine⟨_,.refl _ _ _,?_⟩
     repeat' first|refine And.intro ?_ ?_|(intro h;try first|exact dzq|replace h:=cvq)
     all_goals try exact czq
     have hdk:wr .i64 (wr .i64 ((gs.getD i 0).tdiv 3)+((k:Nat):Int))=dv g 3+k:=by
      rw[hge]
      have:=Q0j hgi 3 (by decide)
      exact wrI (show -9223372036854775808≤dv g 3+(k:Int)∧dv g 3+(k:Int)≤9223372036854775807 by omega)
     refine⟨dv g 3+k,3,congrArg (fun z=>[AVal.int .i64 z,AVal.int .i64 3]) hdk,by decide,?_⟩
     repeat' first|refine And.intro ?_ ?_|(intro h;try first|exact dzq|replace h:=cvq)
     all_goals try exact czq
     refine⟨gS1 s gs l ls a' i g rz k cw,ZY [0,1,2,3,7,5,6] rfl rfl rfl rfl (by exact rfl) ⟨.refl _,.refl _,.refl _,.refl _,.refl _,.refl _,.refl _,.refl _,.refl _,.refl _,trivial⟩ rfl (fun ρ hρ=>⟨.refl _,.refl _,ZA hρ,trivial⟩) rfl rfl ⟨⟨by decide,_,rfl,QB (row:=Zs (nM g) (ZT 5 11 cw)) ⟨.refl _,ZA rfl,trivial⟩⟩,Y8 (fC cw) (by decide) rfl ⟨⟨by decide,_,rfl,QB (row:=XQ 0 0 0 .nils (knM g k) 0 false) ⟨.refl _,.refl _,.refl _,.refl _,.refl _,.refl _,.refl _,.refl _,.refl _,.refl _,.refl _,trivial⟩⟩,trivial⟩⟩,?_⟩
     repeat' first|refine And.intro ?_ ?_|(intro h;try first|exact dzq|replace h:=cvq)
     all_goals try exact czq
     refine⟨fun m st=>∃(left:Int) (f:Nat) (ps:List Pg),(m=left.toNat∧0≤left∧left≤f∧left≤40∧ps++ZX g f left=ZX g 40 (nM g))∧st=pS s gs l ls a' i g rz k cw left ps,⟨_,pS s gs l ls a' i g rz k cw (nM g) [],ZY [0,1,2,3,4,5,6] rfl rfl rfl rfl (by exact rfl) ⟨.refl _,.refl _,.refl _,.refl _,.refl _,.refl _,.refl _,.refl _,.refl _,.refl _,.refl _,trivial⟩ rfl (fun ρ hρ=>⟨.refl _,.refl _,ZA hρ,trivial⟩) rfl rfl ⟨⟨by decide,_,rfl,QB (row:=Zs (nM g) (ZT 5 11 cw)) ⟨.refl _,ZA rfl,trivial⟩⟩,Y8 (fC cw) (by decide) rfl ⟨⟨by decide,_,rfl,QB (row:=XQ 0 0 0 .nils (knM g k) 0 false) ⟨.refl _,.refl _,.refl _,.refl _,.refl _,.refl _,.refl _,.refl _,.refl _,.refl _,.refl _,trivial⟩⟩,trivial⟩⟩,nM g,40,[],⟨rfl,by omega,by omega,by omega,rfl⟩,rfl⟩,?_⟩
     rintro m st ⟨left,f,ps,⟨rfl,hl0,hlf,hl4,hpg⟩,rfl⟩
     by_cases hl1:0<left
     ·obtain⟨f,rfl⟩:∃f',f=f'+1:=⟨f-1,by omega⟩
      rw[V1 hl1]at hpg
      have hsp:=GZ (g:=g) hl1
      have hpl:ps.length≤40:=by
       have h1:=congrArg List.length hpg
       have h2:=WL g 40 (nM g)
       rw[List.length_append]at h1
       omega
      rcases ps with _|⟨p0,pt⟩
      rotate_left
      let pw:List Pg:=p0::pt
      have hpw:pw.length≤40:=hpl
      rotate_left
      let pw:List Pg:=[]
      have hpw:pw.length≤40:=hpl
      all_goals(
       repeat' first|refine And.intro ?_ ?_|(intro h;try first|exact dzq|replace h:=cvq)
       all_goals try exact czq
       refine⟨dv g 7,20,congrArg (fun z=>[AVal.int .i64 z,AVal.int .i64 20]) hd7,by decide,?_⟩
       repeat' first|refine And.intro ?_ ?_|(intro h;try first|exact dzq|replace h:=cvq)
       all_goals try exact czq
       have hw9:=Yp (a:=g) (n:=9) (by decide)
       have hst:(if wr .i64 (1+wi (dv g 7) 20)<left then wr .i64 (1+wi (dv g 7) 20)else left)=YF g left:=by
        rw[wrI (by have:=Yp (a:=dv g 7) (n:=20) (by decide);omega)];rfl
       refine⟨pR s gs l ls a' i g rz k cw left pw,ZY [0,1,2,3,4,5,6] rfl rfl rfl rfl (by exact rfl) ⟨.refl _,.refl _,.refl _,.refl _,.refl _,.refl _,.refl _,.refl _,.refl _,.refl _,.refl _,Qp hst,trivial⟩ rfl (fun ρ hρ=>⟨.refl _,.refl _,ZA hρ,trivial⟩) rfl rfl ⟨⟨by decide,_,rfl,QB (row:=Zs (nM g) (ZT 5 11 cw)) ⟨.refl _,ZA rfl,trivial⟩⟩,Y8 (fC cw) (by decide) rfl ⟨⟨by decide,_,rfl,QB (row:=XQ 0 0 0 (ZT 6 7 pw) (knM g k) 0 false) ⟨.refl _,.refl _,.refl _,ZA rfl,.refl _,.refl _,.refl _,.refl _,.refl _,.refl _,.refl _,trivial⟩⟩,Y8 (fP pw) (by decide) rfl trivial⟩⟩,?_⟩
       repeat' first|refine And.intro ?_ ?_|(intro h;try first|exact dzq|replace h:=cvq)
       all_goals try exact czq
       refine⟨g,9,congrArg (fun z=>[AVal.int .i64 z,AVal.int .i64 9]) hge,by decide,?_⟩
       repeat' first|refine And.intro ?_ ?_|(intro h;try first|exact dzq|replace h:=cvq)
       all_goals try exact czq
       refine⟨g,2,congrArg (fun z=>[AVal.int .i64 z,AVal.int .i64 2]) hge,by decide,?_⟩
       repeat' first|refine And.intro ?_ ?_|(intro h;try first|exact dzq|replace h:=cvq)
       all_goals try exact czq
       refine⟨dv g 2,300,congrArg (fun z=>[AVal.int .i64 z,AVal.int .i64 300]) hd2,by decide,?_⟩
       repeat' first|refine And.intro ?_ ?_|(intro h;try first|exact dzq|replace h:=cvq)
       all_goals try exact czq
       refine⟨dv g 5,300,congrArg (fun z=>[AVal.int .i64 z,AVal.int .i64 300]) hd5,by decide,?_⟩
       repeat' first|refine And.intro ?_ ?_|(intro h;try first|exact dzq|replace h:=cvq)
       all_goals try exact czq
       refine⟨dv g 9,3000,congrArg (fun z=>[AVal.int .i64 z,AVal.int .i64 3000]) hd9,by decide,?_⟩
       repeat' first|refine And.intro ?_ ?_|(intro h;try first|exact dzq|replace h:=cvq)
       all_goals try exact czq
       all_goals(try((with_reducible show(_:Nat)≤_);first|(show(pw.length+1)*56≤_;omega)|(show pw.length+1≤_;omega)))
       exact⟨_,pS s gs l ls a' i g rz k cw (left-YF g left) (pw++[pgM g (YF g left)]),ZY [0,1,2,3,4,5,7+41*RR] rfl rfl rfl rfl (by kernel_rfl) ⟨.refl _,.refl _,.refl _,.refl _,.refl _,.refl _,.refl _,.refl _,.refl _,.refl _,.refl _,trivial⟩ rfl (fun ρ hρ=>⟨.refl _,.refl _,ZA hρ,trivial⟩) rfl rfl ⟨⟨by decide,_,rfl,QB (row:=Zs (nM g) (ZT 5 11 cw)) ⟨.refl _,ZA rfl,trivial⟩⟩,Y8 (fC cw) (by decide) rfl ⟨⟨by decide,_,rfl,QB (row:=XQ 0 0 0 (ZT 6 7 (pw++[pgM g (YF g left)])) (knM g k) 0 false) ⟨.refl _,.refl _,.refl _,U5 rfl (by simp;try rfl) (by simp;try rfl),.refl _,.refl _,.refl _,.refl _,.refl _,.refl _,.refl _,trivial⟩⟩,V3 (fP (pw++[pgM g (YF g left)])) (by decide) rfl (by first|exact SY hge|exact SX hge) (by simp;try rfl) trivial⟩⟩,⟨left-YF g left,f,pw++[pgM g (YF g left)],⟨rfl,by omega,by omega,by omega,by rw[←hpg,List.append_assoc];rfl⟩,rfl⟩,by omega⟩
       skip)
     ·have hpe:ps=ZX g 40 (nM g):=by rw[←hpg,MP hl1,List.append_nil]
      have hp0:0<ps.length:=by rw[hpe,show(40:Nat)=39+1 from rfl,V1 (by omega)];simp
      have hpl:ps.length≤40:=by rw[hpe];exact WL g 40 (nM g)
      clear hpg
      rcases ps with _|⟨p0,pt⟩
      ·cases hp0
      · repeat' first|refine And.intro ?_ ?_|(intro h;try first|exact dzq|replace h:=cvq)
        all_goals try exact czq
        refine⟨dv g 11,3,congrArg (fun z=>[AVal.int .i64 z,AVal.int .i64 3]) hd11,by decide,?_⟩
        by_cases hd:wi (dv g 11) 3=0
        · repeat' first|refine And.intro ?_ ?_|(intro h;try first|exact dzq|replace h:=cvq)
          all_goals try exact czq
          refine⟨fun m st=>∃j:Nat,(j≤(p0::pt).length∧m=(p0::pt).length-j)∧st=dS s gs l ls a' i g rz k cw (p0::pt) j,⟨_,dS s gs l ls a' i g rz k cw (p0::pt) 0,ZY [0,1,2,3,4,5,6] rfl rfl rfl rfl (by exact rfl) ⟨.refl _,.refl _,.refl _,.refl _,.refl _,.refl _,.refl _,.refl _,.refl _,.refl _,.refl _,trivial⟩ rfl (fun ρ hρ=>⟨.refl _,.refl _,ZA hρ,trivial⟩) rfl rfl ⟨⟨by decide,_,rfl,QB (row:=Zs (nM g) (ZT 5 11 cw)) ⟨.refl _,ZA rfl,trivial⟩⟩,Y8 (fC cw) (by decide) rfl ⟨⟨by decide,_,rfl,QB (row:=XQ 0 0 0 (.slice 6 0 (p0::pt).length 7 none) (knM g k) 0 false) ⟨.refl _,.refl _,.refl _,.refl _,.refl _,.refl _,.refl _,.refl _,.refl _,.refl _,.refl _,trivial⟩⟩,⟨⟨by decide,_,rfl,Qb (fP _)⟩,trivial⟩⟩⟩,0,⟨by omega,rfl⟩,rfl⟩,?_⟩
          rintro m st ⟨j,⟨hj,rfl⟩,rfl⟩
          by_cases hj1:j<(p0::pt).length
          · repeat' first|refine And.intro ?_ ?_|(intro h;try first|exact dzq|replace h:=cvq)
            all_goals try exact czq
            ·rw[List.length_map,G8];simp only[Int.toNat_natCast];omega
            ·rw[Nat.zero_add,Int.toNat_natCast,Wf encP default (by rw[G8];omega)];exact Nat.le_of_ble_eq_true rfl
            exact⟨_,dS s gs l ls a' i g rz k cw (p0::pt) (j+1),ZY [0,1,2,3,4,5,6] rfl rfl rfl rfl (by exact rfl) ⟨.refl _,.refl _,.refl _,.refl _,.refl _,.refl _,.refl _,.refl _,.refl _,.refl _,Qp (by omega),trivial⟩ rfl (fun ρ hρ=>⟨.refl _,.refl _,ZA hρ,trivial⟩) rfl rfl ⟨⟨by decide,_,rfl,QB (row:=Zs (nM g) (ZT 5 11 cw)) ⟨.refl _,ZA rfl,trivial⟩⟩,Y8 (fC cw) (by decide) rfl ⟨⟨by decide,_,rfl,QB (row:=XQ 0 0 0 (.slice 6 0 (p0::pt).length 7 none) (knM g k) 0 false) ⟨.refl _,.refl _,.refl _,.refl _,.refl _,.refl _,.refl _,.refl _,.refl _,.refl _,.refl _,trivial⟩⟩,⟨⟨by decide,_,rfl,Q1 (Ti hj1) (fP _)⟩,trivial⟩⟩⟩,⟨j+1,⟨by omega,rfl⟩,rfl⟩,by omega⟩
          ·obtain rfl:j=(p0::pt).length:=by omega
           have hde:=LH (p0::pt)
           repeat' first|refine And.intro ?_ ?_|(intro h;try first|exact dzq|replace h:=cvq)
           all_goals try exact czq
           have hcrc:wr .u32 (gs.getD i 0)=wr .u32 g:=by rw[hge]
           have hck:Wl g k=⟨wi g 257,wi (dv g 13) 9000,wr .u32 g,(p0::pt).map d2,knM g k,default⟩:=by unfold Wl;rw[if_pos hd,←hpe];rfl
           refine⟨eS s gs l ls a' i g rz k cw (wi g 257) (wi (dv g 13) 9000) (wr .u32 g) (p0::pt).length ((p0::pt).map d2),?_,?_⟩
           · repeat' first|refine And.intro ?_ ?_|(intro h;try first|exact dzq|replace h:=cvq)
             all_goals try exact czq
             all_goals(first|refine⟨g,257,congrArg (fun z=>[AVal.int .i64 z,AVal.int .i64 257]) hge,by decide,?_⟩|refine⟨dv g 13,9000,congrArg (fun z=>[AVal.int .i64 z,AVal.int .i64 9000]) hd13,by decide,?_⟩)
             repeat' first|refine And.intro ?_ ?_|(intro h;try first|exact dzq|replace h:=cvq)
             all_goals try exact czq
             all_goals(first|refine⟨g,257,congrArg (fun z=>[AVal.int .i64 z,AVal.int .i64 257]) hge,by decide,?_⟩|refine⟨dv g 13,9000,congrArg (fun z=>[AVal.int .i64 z,AVal.int .i64 9000]) hd13,by decide,?_⟩)
             repeat' first|refine And.intro ?_ ?_|(intro h;try first|exact dzq|replace h:=cvq)
             all_goals try exact czq
             all_goals exact Exists.intro () (ZY [0,1,2,3,4,5,6] rfl rfl rfl rfl (by exact rfl) ⟨.refl _,.refl _,.refl _,.refl _,.refl _,.refl _,.refl _,.refl _,.refl _,.refl _,trivial⟩ rfl (fun ρ hρ=>⟨.refl _,.refl _,ZA hρ,trivial⟩) rfl rfl ⟨⟨by decide,_,rfl,QB (row:=Zs (nM g) (ZT 5 11 cw)) ⟨.refl _,ZA rfl,trivial⟩⟩,Y8 (fC cw) (by decide) rfl ⟨⟨by decide,_,rfl,QB (row:=XQ (wi g 257) (wi (dv g 13) 9000) (wr .u32 g) (.slice 6 0 (p0::pt).length 7 none) (knM g k) 0 false) ⟨.refl _,.refl _,Qp hcrc,.refl _,.refl _,.refl _,.refl _,.refl _,.refl _,.refl _,.refl _,trivial⟩⟩,⟨⟨by decide,_,rfl,Q1 (congrArg (List.map encP) hde) (fP _)⟩,trivial⟩⟩⟩)
           ·have hp6:0<(((p0::pt).map d2)).length:=by simp
            have hp7:(p0::pt).length=(((p0::pt).map d2)).length:=by simp
            by_cases hkn:0<wi (dv g 3+k) 3
            ·by_cases hll0:0<l.length
             · repeat' first|refine And.intro ?_ ?_|(intro h;try first|exact dzq|replace h:=cvq)
               all_goals try exact czq
               refine⟨fS s gs l ls a' i g rz k cw (wi g 257) (wi (dv g 13) 9000) (wr .u32 g) ((p0::pt).map d2) true,Reb.trans (s':=eS2 s gs l ls a' i g rz k cw (wi g 257) (wi (dv g 13) 9000) (wr .u32 g) ((p0::pt).map d2) true) (ZY [0,1,2,3,4,5,6] rfl rfl rfl rfl (by exact rfl) ⟨.refl _,.refl _,.refl _,.refl _,.refl _,.refl _,.refl _,.refl _,.refl _,.refl _,ZV (by rw[if_pos rfl,decide_eq_true (by omega)]),trivial⟩ rfl (fun ρ hρ=>⟨.refl _,.refl _,ZA hρ,trivial⟩) rfl rfl ⟨⟨by decide,_,rfl,QB (row:=Zs (nM g) (ZT 5 11 cw)) ⟨.refl _,ZA rfl,trivial⟩⟩,Y8 (fC cw) (by decide) rfl ⟨⟨by decide,_,rfl,QB (row:=XQ (wi g 257) (wi (dv g 13) 9000) (wr .u32 g) (.slice 6 0 (((p0::pt).map d2)).length 7 none) (knM g k) 0 false) ⟨.refl _,.refl _,.refl _,Q8 hp7,.refl _,.refl _,.refl _,.refl _,.refl _,.refl _,.refl _,trivial⟩⟩,⟨⟨by decide,_,rfl,Qb (fP _)⟩,trivial⟩⟩⟩) (DG s gs l ls a' i g rz k cw (wi g 257) (wi (dv g 13) 9000) (wr .u32 g) ((p0::pt).map d2) true hp6),?_⟩
               have hmi:((a':Nat):Int).tmod ((l.length:Nat):Int)=((a'%l.length:Nat):Int):=(Int.ofNat_tmod ..).symm
               have hmlt:=Nat.mod_lt a' hll0
               repeat' first|refine And.intro ?_ ?_|(intro h;try first|exact dzq|replace h:=cvq)
               all_goals try exact czq
               refine⟨(ls.getD k default).kind,l.getD (a'%l.length) default,?_,?_⟩
               ·rw[hmi];rfl
               have ha9:a'≤5000:=by
                have h1:(Q5 ls).length≤1000:=by omega
                have h2:=Nat.mul_le_mul (show i≤4 by omega) h1
                omega
               repeat' first|refine And.intro ?_ ?_|(intro h;try first|exact dzq|replace h:=cvq)
               all_goals try exact czq
               refine⟨g,nM g+1,(by show[AVal.int .i64 (gs.getD i 0),_]=_;rw[hge];rfl),by omega,?_⟩
               repeat' first|refine And.intro ?_ ?_|(intro h;try first|exact dzq|replace h:=cvq)
               all_goals try exact czq
               have hcm:ZF g k (ls.getD k default).kind l a'=(⟨(wi g 257),(wi (dv g 13) 9000),(wr .u32 g),((p0::pt).map d2),knM g k,⟨wi g (nM g+1),true,ZQ (ls.getD k default).kind (l.getD (a'%l.length) default),ZQ (ls.getD k default).kind (l.getD (a'%l.length) default)⟩⟩,a'+1):=by
                unfold ZF
                rw[hck,if_pos ⟨decide_eq_true hkn,hll0⟩]
               have hcs':Wk g l (Q5 ls) a (k+1)=((cw++[(⟨(wi g 257),(wi (dv g 13) 9000),(wr .u32 g),((p0::pt).map d2),knM g k,⟨wi g (nM g+1),true,ZQ (ls.getD k default).kind (l.getD (a'%l.length) default),ZQ (ls.getD k default).kind (l.getD (a'%l.length) default)⟩⟩:Ck)]),a'+1):=hcs.trans (by rw[hcm])
               repeat' first|refine And.intro ?_ ?_|(intro h;try first|exact dzq|replace h:=cvq)
               all_goals try exact czq
               all_goals(try((with_reducible show(_:Nat)≤_);first|(show(cw.length+1)*120≤_;omega)|(show cw.length+1≤_;omega)))
               refine⟨_,iS s gs l ls (a'+1) i g rz (k+1) (cw++[(⟨(wi g 257),(wi (dv g 13) 9000),(wr .u32 g),((p0::pt).map d2),knM g k,⟨wi g (nM g+1),true,ZQ (ls.getD k default).kind (l.getD (a'%l.length) default),ZQ (ls.getD k default).kind (l.getD (a'%l.length) default)⟩⟩:Ck)]),?_,⟨k+1,⟨by omega,rfl⟩,by rw[hcs']⟩,by omega⟩
               refine ZY [0,1,2,3,4,7+14*RR+1+10*RR+1+1,6] rfl rfl rfl rfl (by kernel_rfl) ⟨.refl _,.refl _,.refl _,.refl _,.refl _,Qp (by omega),.refl _,.refl _,Qp (by omega),trivial⟩ rfl (fun ρ hρ=>⟨.refl _,.refl _,ZA hρ,trivial⟩) rfl rfl ⟨⟨by decide,_,rfl,QB (row:=Zs (nM g) (ZT 5 11 (cw++[(⟨(wi g 257),(wi (dv g 13) 9000),(wr .u32 g),((p0::pt).map d2),knM g k,⟨wi g (nM g+1),true,ZQ (ls.getD k default).kind (l.getD (a'%l.length) default),ZQ (ls.getD k default).kind (l.getD (a'%l.length) default)⟩⟩:Ck)]))) ⟨.refl _,U5 rfl (by simp;try rfl) (by simp;try rfl),trivial⟩⟩,?_⟩
               exact V3 (fC (cw++[(⟨(wi g 257),(wi (dv g 13) 9000),(wr .u32 g),((p0::pt).map d2),knM g k,⟨wi g (nM g+1),true,ZQ (ls.getD k default).kind (l.getD (a'%l.length) default),ZQ (ls.getD k default).kind (l.getD (a'%l.length) default)⟩⟩:Ck)])) (by decide) rfl (by rw[hmi];first|rfl|exact Xd _ (⟨(wi g 257),(wi (dv g 13) 9000),(wr .u32 g),((p0::pt).map d2),knM g k,⟨wi g (nM g+1),true,ZQ (ls.getD k default).kind (l.getD (a'%l.length) default),ZQ (ls.getD k default).kind (l.getD (a'%l.length) default)⟩⟩:Ck)|(show List.take cw.length (List.drop 0 (cw.map encC))++[encC (⟨(wi g 257),(wi (dv g 13) 9000),(wr .u32 g),((p0::pt).map d2),knM g k,⟨wi g (nM g+1),true,ZQ (ls.getD k default).kind (l.getD (a'%l.length) default),ZQ (ls.getD k default).kind (l.getD (a'%l.length) default)⟩⟩:Ck)]=_;exact Xd _ _)) (by simp;try rfl) trivial
             ·have hcm:ZF g k (ls.getD k default).kind l a'=(⟨(wi g 257),(wi (dv g 13) 9000),(wr .u32 g),((p0::pt).map d2),knM g k,default⟩,a'):=by
               unfold ZF
               rw[hck,if_neg (fun hh=>hll0 hh.2)]
              repeat' first|refine And.intro ?_ ?_|(intro h;try first|exact dzq|replace h:=cvq)
              all_goals try exact czq
              refine⟨fS s gs l ls a' i g rz k cw (wi g 257) (wi (dv g 13) 9000) (wr .u32 g) ((p0::pt).map d2) false,Reb.trans (s':=eS2 s gs l ls a' i g rz k cw (wi g 257) (wi (dv g 13) 9000) (wr .u32 g) ((p0::pt).map d2) false) (ZY [0,1,2,3,4,5,6] rfl rfl rfl rfl (by exact rfl) ⟨.refl _,.refl _,.refl _,.refl _,.refl _,.refl _,.refl _,.refl _,.refl _,.refl _,ZV (by first|rfl|rw[if_pos rfl,decide_eq_false (by omega)]),trivial⟩ rfl (fun ρ hρ=>⟨.refl _,.refl _,ZA hρ,trivial⟩) rfl rfl ⟨⟨by decide,_,rfl,QB (row:=Zs (nM g) (ZT 5 11 cw)) ⟨.refl _,ZA rfl,trivial⟩⟩,Y8 (fC cw) (by decide) rfl ⟨⟨by decide,_,rfl,QB (row:=XQ (wi g 257) (wi (dv g 13) 9000) (wr .u32 g) (.slice 6 0 (((p0::pt).map d2)).length 7 none) (knM g k) 0 false) ⟨.refl _,.refl _,.refl _,Q8 hp7,.refl _,.refl _,.refl _,.refl _,.refl _,.refl _,.refl _,trivial⟩⟩,⟨⟨by decide,_,rfl,Qb (fP _)⟩,trivial⟩⟩⟩) (DG s gs l ls a' i g rz k cw (wi g 257) (wi (dv g 13) 9000) (wr .u32 g) ((p0::pt).map d2) false hp6),?_⟩
              rw[hcm]at hcs
              have hcs':Wk g l (Q5 ls) a (k+1)=((cw++[(⟨(wi g 257),(wi (dv g 13) 9000),(wr .u32 g),((p0::pt).map d2),knM g k,default⟩:Ck)]),a'):=hcs
              repeat' first|refine And.intro ?_ ?_|(intro h;try first|exact dzq|replace h:=cvq)
              all_goals try exact czq
              all_goals(try((with_reducible show(_:Nat)≤_);first|(show(cw.length+1)*120≤_;omega)|(show cw.length+1≤_;omega)))
              exact⟨_,iS s gs l ls a' i g rz (k+1) (cw++[(⟨(wi g 257),(wi (dv g 13) 9000),(wr .u32 g),((p0::pt).map d2),knM g k,default⟩:Ck)]),ZY [0,1,2,3,4,8,6] rfl rfl rfl rfl (by exact rfl) ⟨.refl _,.refl _,.refl _,.refl _,.refl _,.refl _,.refl _,.refl _,Qp (by omega),trivial⟩ rfl (fun ρ hρ=>⟨.refl _,.refl _,ZA hρ,trivial⟩) rfl rfl ⟨⟨by decide,_,rfl,QB (row:=Zs (nM g) (ZT 5 11 (cw++[(⟨(wi g 257),(wi (dv g 13) 9000),(wr .u32 g),((p0::pt).map d2),knM g k,default⟩:Ck)]))) ⟨.refl _,U5 rfl (by simp;try rfl) (by simp;try rfl),trivial⟩⟩,V3 (fC (cw++[(⟨(wi g 257),(wi (dv g 13) 9000),(wr .u32 g),((p0::pt).map d2),knM g k,default⟩:Ck)])) (by decide) rfl (by first|rfl|exact Xd _ ⟨(wi g 257),(wi (dv g 13) 9000),(wr .u32 g),((p0::pt).map d2),knM g k,default⟩|(show List.take cw.length (List.drop 0 (cw.map encC))++[encC ⟨(wi g 257),(wi (dv g 13) 9000),(wr .u32 g),((p0::pt).map d2),knM g k,default⟩]=_;exact Xd _ _)) (by simp;try rfl) trivial⟩,⟨k+1,⟨by omega,rfl⟩,by rw[hcs']⟩,by omega⟩
            ·have hcm:ZF g k (ls.getD k default).kind l a'=(⟨(wi g 257),(wi (dv g 13) 9000),(wr .u32 g),((p0::pt).map d2),knM g k,default⟩,a'):=by
              unfold ZF
              rw[hck,if_neg (fun hh=>by have h1:knM g k=true:=hh.1;unfold knM at h1;rw[decide_eq_false hkn]at h1;cases h1)]
             repeat' first|refine And.intro ?_ ?_|(intro h;try first|exact dzq|replace h:=cvq)
             all_goals try exact czq
             refine⟨fS s gs l ls a' i g rz k cw (wi g 257) (wi (dv g 13) 9000) (wr .u32 g) ((p0::pt).map d2) false,Reb.trans (s':=eS2 s gs l ls a' i g rz k cw (wi g 257) (wi (dv g 13) 9000) (wr .u32 g) ((p0::pt).map d2) false) (ZY [0,1,2,3,4,5,6] rfl rfl rfl rfl (by exact rfl) ⟨.refl _,.refl _,.refl _,.refl _,.refl _,.refl _,.refl _,.refl _,.refl _,.refl _,ZV (by first|rfl|rw[if_pos rfl,decide_eq_false (by omega)]),trivial⟩ rfl (fun ρ hρ=>⟨.refl _,.refl _,ZA hρ,trivial⟩) rfl rfl ⟨⟨by decide,_,rfl,QB (row:=Zs (nM g) (ZT 5 11 cw)) ⟨.refl _,ZA rfl,trivial⟩⟩,Y8 (fC cw) (by decide) rfl ⟨⟨by decide,_,rfl,QB (row:=XQ (wi g 257) (wi (dv g 13) 9000) (wr .u32 g) (.slice 6 0 (((p0::pt).map d2)).length 7 none) (knM g k) 0 false) ⟨.refl _,.refl _,.refl _,Q8 hp7,.refl _,.refl _,.refl _,.refl _,.refl _,.refl _,.refl _,trivial⟩⟩,⟨⟨by decide,_,rfl,Qb (fP _)⟩,trivial⟩⟩⟩) (DG s gs l ls a' i g rz k cw (wi g 257) (wi (dv g 13) 9000) (wr .u32 g) ((p0::pt).map d2) false hp6),?_⟩
             rw[hcm]at hcs
             have hcs':Wk g l (Q5 ls) a (k+1)=((cw++[(⟨(wi g 257),(wi (dv g 13) 9000),(wr .u32 g),((p0::pt).map d2),knM g k,default⟩:Ck)]),a'):=hcs
             repeat' first|refine And.intro ?_ ?_|(intro h;try first|exact dzq|replace h:=cvq)
             all_goals try exact czq
             all_goals(try((with_reducible show(_:Nat)≤_);first|(show(cw.length+1)*120≤_;omega)|(show cw.length+1≤_;omega)))
             exact⟨_,iS s gs l ls a' i g rz (k+1) (cw++[(⟨(wi g 257),(wi (dv g 13) 9000),(wr .u32 g),((p0::pt).map d2),knM g k,default⟩:Ck)]),ZY [0,1,2,3,4,8,6] rfl rfl rfl rfl (by exact rfl) ⟨.refl _,.refl _,.refl _,.refl _,.refl _,.refl _,.refl _,.refl _,Qp (by omega),trivial⟩ rfl (fun ρ hρ=>⟨.refl _,.refl _,ZA hρ,trivial⟩) rfl rfl ⟨⟨by decide,_,rfl,QB (row:=Zs (nM g) (ZT 5 11 (cw++[(⟨(wi g 257),(wi (dv g 13) 9000),(wr .u32 g),((p0::pt).map d2),knM g k,default⟩:Ck)]))) ⟨.refl _,U5 rfl (by simp;try rfl) (by simp;try rfl),trivial⟩⟩,V3 (fC (cw++[(⟨(wi g 257),(wi (dv g 13) 9000),(wr .u32 g),((p0::pt).map d2),knM g k,default⟩:Ck)])) (by decide) rfl (by first|rfl|exact Xd _ ⟨(wi g 257),(wi (dv g 13) 9000),(wr .u32 g),((p0::pt).map d2),knM g k,default⟩|(show List.take cw.length (List.drop 0 (cw.map encC))++[encC ⟨(wi g 257),(wi (dv g 13) 9000),(wr .u32 g),((p0::pt).map d2),knM g k,default⟩]=_;exact Xd _ _)) (by simp;try rfl) trivial⟩,⟨k+1,⟨by omega,rfl⟩,by rw[hcs']⟩,by omega⟩
        ·have hck:Wl g k=⟨0,0,0,p0::pt,knM g k,default⟩:=by unfold Wl;rw[if_neg hd,←hpe];rfl
         have hp6:0<((p0::pt)).length:=by simp
         have hp7:(p0::pt).length=((p0::pt)).length:=by simp
         by_cases hkn:0<wi (dv g 3+k) 3
         ·by_cases hll0:0<l.length
          · repeat' first|refine And.intro ?_ ?_|(intro h;try first|exact dzq|replace h:=cvq)
            all_goals try exact czq
            refine⟨fS s gs l ls a' i g rz k cw 0 0 0 (p0::pt) true,Reb.trans (s':=eS2 s gs l ls a' i g rz k cw 0 0 0 (p0::pt) true) (ZY [0,1,2,3,4,5,6] rfl rfl rfl rfl (by exact rfl) ⟨.refl _,.refl _,.refl _,.refl _,.refl _,.refl _,.refl _,.refl _,.refl _,.refl _,ZV (by rw[if_pos rfl,decide_eq_true (by omega)]),trivial⟩ rfl (fun ρ hρ=>⟨.refl _,.refl _,ZA hρ,trivial⟩) rfl rfl ⟨⟨by decide,_,rfl,QB (row:=Zs (nM g) (ZT 5 11 cw)) ⟨.refl _,ZA rfl,trivial⟩⟩,Y8 (fC cw) (by decide) rfl ⟨⟨by decide,_,rfl,QB (row:=XQ 0 0 0 (.slice 6 0 ((p0::pt)).length 7 none) (knM g k) 0 false) ⟨.refl _,.refl _,.refl _,Q8 hp7,.refl _,.refl _,.refl _,.refl _,.refl _,.refl _,.refl _,trivial⟩⟩,⟨⟨by decide,_,rfl,Qb (fP _)⟩,trivial⟩⟩⟩) (DG s gs l ls a' i g rz k cw 0 0 0 (p0::pt) true hp6),?_⟩
            have hmi:((a':Nat):Int).tmod ((l.length:Nat):Int)=((a'%l.length:Nat):Int):=(Int.ofNat_tmod ..).symm
            have hmlt:=Nat.mod_lt a' hll0
            repeat' first|refine And.intro ?_ ?_|(intro h;try first|exact dzq|replace h:=cvq)
            all_goals try exact czq
            refine⟨(ls.getD k default).kind,l.getD (a'%l.length) default,?_,?_⟩
            ·rw[hmi];rfl
            have ha9:a'≤5000:=by
             have h1:(Q5 ls).length≤1000:=by omega
             have h2:=Nat.mul_le_mul (show i≤4 by omega) h1
             omega
            repeat' first|refine And.intro ?_ ?_|(intro h;try first|exact dzq|replace h:=cvq)
            all_goals try exact czq
            refine⟨g,nM g+1,(by show[AVal.int .i64 (gs.getD i 0),_]=_;rw[hge];rfl),by omega,?_⟩
            repeat' first|refine And.intro ?_ ?_|(intro h;try first|exact dzq|replace h:=cvq)
            all_goals try exact czq
            have hcm:ZF g k (ls.getD k default).kind l a'=(⟨0,0,0,(p0::pt),knM g k,⟨wi g (nM g+1),true,ZQ (ls.getD k default).kind (l.getD (a'%l.length) default),ZQ (ls.getD k default).kind (l.getD (a'%l.length) default)⟩⟩,a'+1):=by
             unfold ZF
             rw[hck,if_pos ⟨decide_eq_true hkn,hll0⟩]
            have hcs':Wk g l (Q5 ls) a (k+1)=((cw++[(⟨0,0,0,(p0::pt),knM g k,⟨wi g (nM g+1),true,ZQ (ls.getD k default).kind (l.getD (a'%l.length) default),ZQ (ls.getD k default).kind (l.getD (a'%l.length) default)⟩⟩:Ck)]),a'+1):=hcs.trans (by rw[hcm])
            repeat' first|refine And.intro ?_ ?_|(intro h;try first|exact dzq|replace h:=cvq)
            all_goals try exact czq
            all_goals(try((with_reducible show(_:Nat)≤_);first|(show(cw.length+1)*120≤_;omega)|(show cw.length+1≤_;omega)))
            refine⟨_,iS s gs l ls (a'+1) i g rz (k+1) (cw++[(⟨0,0,0,(p0::pt),knM g k,⟨wi g (nM g+1),true,ZQ (ls.getD k default).kind (l.getD (a'%l.length) default),ZQ (ls.getD k default).kind (l.getD (a'%l.length) default)⟩⟩:Ck)]),?_,⟨k+1,⟨by omega,rfl⟩,by rw[hcs']⟩,by omega⟩
            refine ZY [0,1,2,3,4,7+14*RR+1+10*RR+1+1,6] rfl rfl rfl rfl (by kernel_rfl) ⟨.refl _,.refl _,.refl _,.refl _,.refl _,Qp (by omega),.refl _,.refl _,Qp (by omega),trivial⟩ rfl (fun ρ hρ=>⟨.refl _,.refl _,ZA hρ,trivial⟩) rfl rfl ⟨⟨by decide,_,rfl,QB (row:=Zs (nM g) (ZT 5 11 (cw++[(⟨0,0,0,(p0::pt),knM g k,⟨wi g (nM g+1),true,ZQ (ls.getD k default).kind (l.getD (a'%l.length) default),ZQ (ls.getD k default).kind (l.getD (a'%l.length) default)⟩⟩:Ck)]))) ⟨.refl _,U5 rfl (by simp;try rfl) (by simp;try rfl),trivial⟩⟩,?_⟩
            exact V3 (fC (cw++[(⟨0,0,0,(p0::pt),knM g k,⟨wi g (nM g+1),true,ZQ (ls.getD k default).kind (l.getD (a'%l.length) default),ZQ (ls.getD k default).kind (l.getD (a'%l.length) default)⟩⟩:Ck)])) (by decide) rfl (by rw[hmi];first|rfl|exact Xd _ (⟨0,0,0,(p0::pt),knM g k,⟨wi g (nM g+1),true,ZQ (ls.getD k default).kind (l.getD (a'%l.length) default),ZQ (ls.getD k default).kind (l.getD (a'%l.length) default)⟩⟩:Ck)|(show List.take cw.length (List.drop 0 (cw.map encC))++[encC (⟨0,0,0,(p0::pt),knM g k,⟨wi g (nM g+1),true,ZQ (ls.getD k default).kind (l.getD (a'%l.length) default),ZQ (ls.getD k default).kind (l.getD (a'%l.length) default)⟩⟩:Ck)]=_;exact Xd _ _)) (by simp;try rfl) trivial
          ·have hcm:ZF g k (ls.getD k default).kind l a'=(⟨0,0,0,(p0::pt),knM g k,default⟩,a'):=by
            unfold ZF
            rw[hck,if_neg (fun hh=>hll0 hh.2)]
           repeat' first|refine And.intro ?_ ?_|(intro h;try first|exact dzq|replace h:=cvq)
           all_goals try exact czq
           refine⟨fS s gs l ls a' i g rz k cw 0 0 0 (p0::pt) false,Reb.trans (s':=eS2 s gs l ls a' i g rz k cw 0 0 0 (p0::pt) false) (ZY [0,1,2,3,4,5,6] rfl rfl rfl rfl (by exact rfl) ⟨.refl _,.refl _,.refl _,.refl _,.refl _,.refl _,.refl _,.refl _,.refl _,.refl _,ZV (by first|rfl|rw[if_pos rfl,decide_eq_false (by omega)]),trivial⟩ rfl (fun ρ hρ=>⟨.refl _,.refl _,ZA hρ,trivial⟩) rfl rfl ⟨⟨by decide,_,rfl,QB (row:=Zs (nM g) (ZT 5 11 cw)) ⟨.refl _,ZA rfl,trivial⟩⟩,Y8 (fC cw) (by decide) rfl ⟨⟨by decide,_,rfl,QB (row:=XQ 0 0 0 (.slice 6 0 ((p0::pt)).length 7 none) (knM g k) 0 false) ⟨.refl _,.refl _,.refl _,Q8 hp7,.refl _,.refl _,.refl _,.refl _,.refl _,.refl _,.refl _,trivial⟩⟩,⟨⟨by decide,_,rfl,Qb (fP _)⟩,trivial⟩⟩⟩) (DG s gs l ls a' i g rz k cw 0 0 0 (p0::pt) false hp6),?_⟩
           rw[hcm]at hcs
           have hcs':Wk g l (Q5 ls) a (k+1)=((cw++[(⟨0,0,0,(p0::pt),knM g k,default⟩:Ck)]),a'):=hcs
           repeat' first|refine And.intro ?_ ?_|(intro h;try first|exact dzq|replace h:=cvq)
           all_goals try exact czq
           all_goals(try((with_reducible show(_:Nat)≤_);first|(show(cw.length+1)*120≤_;omega)|(show cw.length+1≤_;omega)))
           exact⟨_,iS s gs l ls a' i g rz (k+1) (cw++[(⟨0,0,0,(p0::pt),knM g k,default⟩:Ck)]),ZY [0,1,2,3,4,8,6] rfl rfl rfl rfl (by exact rfl) ⟨.refl _,.refl _,.refl _,.refl _,.refl _,.refl _,.refl _,.refl _,Qp (by omega),trivial⟩ rfl (fun ρ hρ=>⟨.refl _,.refl _,ZA hρ,trivial⟩) rfl rfl ⟨⟨by decide,_,rfl,QB (row:=Zs (nM g) (ZT 5 11 (cw++[(⟨0,0,0,(p0::pt),knM g k,default⟩:Ck)]))) ⟨.refl _,U5 rfl (by simp;try rfl) (by simp;try rfl),trivial⟩⟩,V3 (fC (cw++[(⟨0,0,0,(p0::pt),knM g k,default⟩:Ck)])) (by decide) rfl (by first|rfl|exact Xd _ ⟨0,0,0,(p0::pt),knM g k,default⟩|(show List.take cw.length (List.drop 0 (cw.map encC))++[encC ⟨0,0,0,(p0::pt),knM g k,default⟩]=_;exact Xd _ _)) (by simp;try rfl) trivial⟩,⟨k+1,⟨by omega,rfl⟩,by rw[hcs']⟩,by omega⟩
         ·have hcm:ZF g k (ls.getD k default).kind l a'=(⟨0,0,0,(p0::pt),knM g k,default⟩,a'):=by
           unfold ZF
           rw[hck,if_neg (fun hh=>by have h1:knM g k=true:=hh.1;unfold knM at h1;rw[decide_eq_false hkn]at h1;cases h1)]
          repeat' first|refine And.intro ?_ ?_|(intro h;try first|exact dzq|replace h:=cvq)
          all_goals try exact czq
          refine⟨fS s gs l ls a' i g rz k cw 0 0 0 (p0::pt) false,Reb.trans (s':=eS2 s gs l ls a' i g rz k cw 0 0 0 (p0::pt) false) (ZY [0,1,2,3,4,5,6] rfl rfl rfl rfl (by exact rfl) ⟨.refl _,.refl _,.refl _,.refl _,.refl _,.refl _,.refl _,.refl _,.refl _,.refl _,ZV (by first|rfl|rw[if_pos rfl,decide_eq_false (by omega)]),trivial⟩ rfl (fun ρ hρ=>⟨.refl _,.refl _,ZA hρ,trivial⟩) rfl rfl ⟨⟨by decide,_,rfl,QB (row:=Zs (nM g) (ZT 5 11 cw)) ⟨.refl _,ZA rfl,trivial⟩⟩,Y8 (fC cw) (by decide) rfl ⟨⟨by decide,_,rfl,QB (row:=XQ 0 0 0 (.slice 6 0 ((p0::pt)).length 7 none) (knM g k) 0 false) ⟨.refl _,.refl _,.refl _,Q8 hp7,.refl _,.refl _,.refl _,.refl _,.refl _,.refl _,.refl _,trivial⟩⟩,⟨⟨by decide,_,rfl,Qb (fP _)⟩,trivial⟩⟩⟩) (DG s gs l ls a' i g rz k cw 0 0 0 (p0::pt) false hp6),?_⟩
          rw[hcm]at hcs
          have hcs':Wk g l (Q5 ls) a (k+1)=((cw++[(⟨0,0,0,(p0::pt),knM g k,default⟩:Ck)]),a'):=hcs
          repeat' first|refine And.intro ?_ ?_|(intro h;try first|exact dzq|replace h:=cvq)
          all_goals try exact czq
          all_goals(try((with_reducible show(_:Nat)≤_);first|(show(cw.length+1)*120≤_;omega)|(show cw.length+1≤_;omega)))
          exact⟨_,iS s gs l ls a' i g rz (k+1) (cw++[(⟨0,0,0,(p0::pt),knM g k,default⟩:Ck)]),ZY [0,1,2,3,4,8,6] rfl rfl rfl rfl (by exact rfl) ⟨.refl _,.refl _,.refl _,.refl _,.refl _,.refl _,.refl _,.refl _,Qp (by omega),trivial⟩ rfl (fun ρ hρ=>⟨.refl _,.refl _,ZA hρ,trivial⟩) rfl rfl ⟨⟨by decide,_,rfl,QB (row:=Zs (nM g) (ZT 5 11 (cw++[(⟨0,0,0,(p0::pt),knM g k,default⟩:Ck)]))) ⟨.refl _,U5 rfl (by simp;try rfl) (by simp;try rfl),trivial⟩⟩,V3 (fC (cw++[(⟨0,0,0,(p0::pt),knM g k,default⟩:Ck)])) (by decide) rfl (by first|rfl|exact Xd _ ⟨0,0,0,(p0::pt),knM g k,default⟩|(show List.take cw.length (List.drop 0 (cw.map encC))++[encC ⟨0,0,0,(p0::pt),knM g k,default⟩]=_;exact Xd _ _)) (by simp;try rfl) trivial⟩,⟨k+1,⟨by omega,rfl⟩,by rw[hcs']⟩,by omega⟩
     skip)
   ·obtain rfl:k=ls.length:=by omega
    have hce:Z7 g l (Q5 ls) 0 a=Wk g l (Q5 ls) a ls.length:=by rw[Il _ _ _ _ _ (by omega),←hkl,List.take_length]
    rw[hce]at hst
    generalize Wk g l (Q5 ls) a ls.length=qc at *
    obtain⟨cs,a'⟩:=qc
    dsimp only at hst
    clear hce
    repeat' first|refine And.intro ?_ ?_|(intro h;try first|exact dzq|replace h:=cvq)
    all_goals try exact czq
    refine⟨hS s gs l ls a' i g rz cs,Reb.trans (s':=h1S s gs l ls a' i g rz cs) (ZY [0,1,2,3,4,5,6] rfl rfl rfl rfl (by exact rfl) ⟨.refl _,.refl _,.refl _,.refl _,.refl _,.refl _,.refl _,.refl _,ZV (by rw[decide_eq_false (by omega)]),trivial⟩ rfl (fun ρ hρ=>⟨.refl _,.refl _,ZA hρ,trivial⟩) rfl rfl ⟨⟨by decide,_,rfl,QB (row:=Zs (nM g) (ZT 5 11 cs)) ⟨.refl _,ZA rfl,trivial⟩⟩,Y8 (fC cs) (by decide) rfl trivial⟩) (Q0h s gs l ls a' i g rz cs),?_⟩
    repeat' first|refine And.intro ?_ ?_|(intro h;try first|exact dzq|replace h:=cvq)
    all_goals try exact czq
    all_goals(try((with_reducible show(_:Nat)≤_);first|omega|(show((rz).length+1)*16≤_;omega)|(show(rz).length+1≤_;omega)))
    have hsn:Zd (rz++[(⟨nM g,cs⟩:Rw)])=Zd rz+nM g:=by simp only[KF,Zd,Int.add_zero]
    exact⟨_,oS s gs l ls a' (i+1) (Zd (rz++[(⟨nM g,cs⟩:Rw)])) (rz++[(⟨nM g,cs⟩:Rw)]),R9 (K:=8) [0,1,2,8,4,5,6] rfl rfl rfl rfl (by exact rfl) ⟨.refl _,.refl _,.refl _,.refl _,.refl _,.refl _,Qp (by omega),trivial⟩ rfl (fun ρ hρ=>⟨.refl _,Qp hsn.symm,U5 hρ (by simp;try rfl) (by simp;try rfl),trivial⟩) rfl rfl (by first|rfl|exact T8 _ _) (by simp;try rfl) trivial,⟨i+1,⟨by omega,rfl⟩,by rw[hst]⟩,by omega⟩
   skip)
 ·obtain rfl:i=(gs.take 4).length:=by omega
  generalize YJ (Q5 ls) l gs (gs.take 4).length=qa at *
  obtain⟨rs,a⟩:=qa
  dsimp only
  repeat' first|refine And.intro ?_ ?_|(intro h;try first|exact dzq|replace h:=cvq)
  all_goals try exact czq
  all_goals refine⟨zS s rs,Reb.trans (s':=z1S s rs) (ZY [0,1,2,3,4,5,6] rfl rfl rfl rfl (by exact rfl) ⟨.refl _,.refl _,ZV (by first|(simp;done)|(simp;omega)),trivial⟩ rfl (fun ρ hρ=>⟨.refl _,.refl _,ZA hρ,trivial⟩) rfl rfl trivial) (m_fz s rs),?_⟩
  repeat' first|refine And.intro ?_ ?_|(intro h;try first|exact dzq|replace h:=cvq)
  all_goals try exact czq
  all_goals exact⟨⟨[(6,.ptr 1 0 0)],[(0,some (.cells [QE (vF s) (Zd rs) (.vs 2 (rs.map encR))] false)),(1,some (.cells [QT ⟨s,Zd rs,rs⟩] false))],2⟩,Q0 [0,1] (by exact rfl) ⟨.refl _,trivial⟩ ⟨⟨by decide,_,rfl,.refl _⟩,⟨by decide,_,rfl,QM (row:=QT ⟨s,Zd rs,rs⟩) ⟨.un rfl,.refl _,.refl _,trivial⟩ (eM _)⟩,trivial⟩,_,rfl,[],fun n b h=>(by rw[Heap.get_nil]at h;cases h),rfl,rfl⟩
def S_makeM:SpecI:=fun args K=>∃ns gs l,args=[vI ns,vI gs,vV l]∧(ns.length≤9223372036854775807∧gs.length≤9223372036854775807∧l.length≤9223372036854775807∧ ∀g∈gs,I64 g)∧K (.agg (QT (KU ns gs l)))
theorem O1[Syms]:Zx Try.prog 11 S_makeM:=by
 rintro args K ⟨ns,gs,l,rfl,⟨h1,h2,h3,h4⟩,hk⟩
 exact⟨rfl,_,rfl,hk,XB.forget (Qg Qh Qi Iw Iw.ok Qt (O2 ns gs l h1 h2 h3 h4))⟩
end
section
set_option maxRecDepth 100000
set_option maxHeartbeats 4000000
end
section
set_option maxRecDepth 100000
set_option maxHeartbeats 4000000
def RwS(x:Rw):Prop:=x.chunks.length≤1000000∧ ∀c∈x.chunks,c.pages.length≤1000000
structure MtS(m:Mt):Prop where
 s:m.s.length≤1000000
 len:m.groups.length≤1000000
 groups:∀g∈m.groups,RwS g
end
section
set_option maxRecDepth 100000
set_option maxHeartbeats 4000000
theorem Sz[Syms]{N k2 k3 n0 n1 nx:Nat}{es:Env}{e:Env}{H:Heap}{ra rb ra' rb':List AVal}(hk:k3≠k2)(h2:e.get k2= .ptr n0 0 0)(h3:e.get k3= .ptr n1 0 0)(hne:n1≠n0)(H0:H.get n0=some (.cells [ra'] false))(H1:H.get n1=some (.cells [rb'] false))(ha:GW ra' ra)(hb:GW rb' rb)(fa:∀x∈ra',x.flat=true)(fb:∀x∈rb',x.flat=true)(e1:FzE n0 [ra'] e es)(e2:FzE n1 [rb'] ((k2,.vp ra 0)::(k3,.ptr n1 0 0)::es) es):Reb 0 N ⟨e,H,nx⟩ ⟨(k2,.vp ra 0)::(k3,.vp rb 0)::es,[],nx⟩:=by
 have r1:Reb 0 N ⟨e,H,nx⟩ ⟨(k2,.vp ra 0)::(k3,.ptr n1 0 0)::es,[(n1,some (.cells [rb'] false))],nx⟩:=by
  refine QV (n:=n0) (rows:=[ra']) H0 (Xe fa QK) ⟨?_,?_,e1⟩ ⟨⟨hne,_,H1,.same _⟩,trivial⟩
  ·rw[h2];exact .pt 0 0 ra' ra rfl ha
  ·rw[h3];exact .same _
 refine r1.trans (QV (n:=n1) (rows:=[rb']) ?_ (Xe fb QK) ⟨?_,?_,e2⟩ trivial)
 ·rw[Heap.get_cons,Nat.beq_refl];rfl
 ·rw[Env.get_cons,Nat.beq_refl];exact .same _
 ·rw[Env.get_cons,QS hk,Env.get_cons,Nat.beq_refl];exact .pt 0 0 rb' rb rfl hb
theorem sqm:(∀m,(QT m).getD 0 .any= .vs 4 (m.s.map encF))∧(∀m,(QT m).getD 1 .any= .int .i64 m.n)∧(∀m,(QT m).getD 2 .any= .vs 2 (m.groups.map encR))∧(∀m,(QT m).getD (0+0) .any= .vs 4 (m.s.map encF))∧(∀m,(QT m).getD (0+1) .any= .int .i64 m.n)∧(∀m,(QT m).getD (0+2) .any= .vs 2 (m.groups.map encR))∧(∀l:List Rw,(l.map encR).length=l.length)∧(∀l:List Ck,(l.map encC).length=l.length):=
 ⟨fun _=>rfl,fun _=>rfl,fun _=>rfl,fun _=>rfl,fun _=>rfl,fun _=>rfl,fun _=>List.length_map ..,fun _=>List.length_map ..⟩
end
def Wc(x:Int):Prop:=0≤x∧x≤1048576
theorem X5{x:Int}(h:Wc x)(r:List UInt8):plainR ⟨nuB [x]++r,0⟩=(x.toNat,⟨r,0⟩):=by
 obtain⟨h1,h2⟩:=h
 have:=Uf (n:=x.toNat) (most:=1048576) 14 r (by omega) (by decide)
 unfold plainR
 rw[nuB,nuB,List.append_nil]
 exact this
theorem KQ{n most:Nat}(w:Int)(r:List UInt8)(h:n≤most)(hm:most<128^8):Qx most w ⟨nuB [(n:Int)]++r,0⟩=(n,⟨r,0⟩):=by
 have:=Uf (n:=n) (most:=most) w r h hm
 rw[nuB,nuB,List.append_nil,Int.toNat_natCast]
 exact this
theorem I6:∀(n v:Nat),leV (leB n v)=v%256^n
 |0,v=>by rw[leB,leV,Nat.pow_zero,Nat.mod_one]
 |n+1,v=>by
  have ih:=I6 n (v/256)
  rw[leB,leV,ih,W4 (Nat.mod_lt _ (by decide)),Nat.pow_succ,Nat.mul_comm (256^n) 256,Nat.mod_mul]
theorem J2(n v:Nat)(r:List UInt8):Z0 n ⟨leB n v++r,0⟩=(v%256^n,⟨r,0⟩):=by
 have:=Wy (leB n v) r
 rw[XH]at this
 unfold Z0
 rw[this,I6]
theorem VI(b:Bool)(r:List UInt8):truthR ⟨flB b++r,0⟩=(if b=true then 1 else 0,⟨r,0⟩):=by
 have h:flB b=leB 1 (if b=true then 1 else 0):=by cases b<;>rfl
 have:=J2 1 (if b=true then 1 else 0) r
 unfold truthR
 rw[h,this]
 cases b<;>rfl
structure PgG(p:Pg):Prop where
 n1:Wc p.rows
 n2:Wc p.cells
 n3:Wc p.enc
 n4:Wc p.rlen
 n5:Wc p.dlen
 n6:Wc p.vlen
 crc:JC p.crc
theorem Zq(x:Int)(l:List Int):nuB (x::l)=nuB [x]++nuB l:=by rw[nuB,nuB,nuB,List.append_nil]
theorem CK{x:Int}(h:JC x)(r:List UInt8):Z0 4 ⟨leB 4 x.toNat++r,0⟩=(x.toNat,⟨r,0⟩):=by
 rw[J2,Nat.mod_eq_of_lt (by have:=h.2;have:=h.1;omega)]
theorem Lb{p:Pg}(h:PgG p)(r:List UInt8):pageR ⟨pgB p++r,0⟩=(p,⟨r,0⟩):=by
 obtain⟨h1,h2,h3,h4,h5,h6,h7⟩:=h
 unfold pageR pgB
 rw[Zq,Zq p.cells,Zq p.enc,Zq p.rlen,Zq p.dlen]
 simp only[List.append_assoc]
 rw[X5 h1]
 simp only
 rw[X5 h2]
 simp only
 rw[X5 h3]
 simp only
 rw[X5 h4]
 simp only
 rw[X5 h5]
 simp only
 rw[X5 h6]
 simp only
 rw[CK h7]
 simp only[Int.toNat_of_nonneg h1.1,Int.toNat_of_nonneg h2.1,Int.toNat_of_nonneg h3.1,Int.toNat_of_nonneg h4.1,Int.toNat_of_nonneg h5.1,Int.toNat_of_nonneg h6.1,Int.toNat_of_nonneg h7.1]
theorem MO:∀(l s:List Pg) (r:List UInt8),(∀p∈l,PgG p)→ZC l.length ⟨Y6 l++r,0⟩ s=(s++l,⟨r,0⟩)
 |[],s,r,_=>by rw[List.append_nil];rfl
 |p::l,s,r,h=>by
  have hp:=Lb (h p (List.mem_cons_self ..)) (Y6 l++r)
  rw[List.length_cons,ZC,Y6,List.append_assoc,hp,if_neg (by simp),MO l _ r fun g hg=>h g (List.mem_cons_of_mem _ hg)]
  simp
def VlG(k:Int)(v:Vl):Prop:=(k=1∧(v.n=0∨v.n=1)∧v.s=[])∨(k=2∧(-2147483648≤v.n∧v.n≤2147483647)∧v.s=[])∨(k=3∧(-9223372036854775808≤v.n∧v.n≤9223372036854775807)∧v.s=[])∨((k≠1∧k≠2∧k≠3)∧v.n=0∧v.s.length≤100)
theorem Sc(x:Int)(h:-9223372036854775808≤x∧x≤9223372036854775807):(wr .u64 x).toNat=(x%18446744073709551616).toNat:=by
 unfold wr
 split
 ·rename_i h1
  have h2:(0:Int)≤x:=h1.1
  omega
 ·show(if(false&&decide (x%(2^64:Int)≥(2^63:Int)))=true then x%(2^64:Int)-(2^64:Int)else x%(2^64:Int)).toNat=_
  simp
theorem Su(x:Int)(h:-9223372036854775808≤x∧x≤9223372036854775807):wr .i64 ((x%18446744073709551616).toNat:Nat)=x:=by
 unfold wr
 split
 ·rename_i h1
  have h2:(((x%18446744073709551616).toNat:Nat):Int)≤9223372036854775807:=h1.2
  omega
 ·rename_i h1
  have h2:¬(((x%18446744073709551616).toNat:Nat):Int)≤9223372036854775807:=fun hh=>h1 ⟨by show(-9223372036854775808:Int)≤_;omega,hh⟩
  show(if(true&&decide ((((x%18446744073709551616).toNat:Nat):Int)%(2^64:Int)≥(2^63:Int)))=true then(((x%18446744073709551616).toNat:Nat):Int)%(2^64:Int)-(2^64:Int)else(((x%18446744073709551616).toNat:Nat):Int)%(2^64:Int))=x
  split<;>rename_i h3
  ·omega
  ·simp at h3
   omega
theorem Sv(x:Int)(h:-2147483648≤x∧x≤2147483647):wr .i32 (((x%18446744073709551616).toNat%256^4:Nat):Int)=x:=by
 unfold wr
 split
 ·rename_i h1
  have h2:(((x%18446744073709551616).toNat%256^4:Nat):Int)≤2147483647:=h1.2
  omega
 ·rename_i h1
  have h2:¬(((x%18446744073709551616).toNat%256^4:Nat):Int)≤2147483647:=fun hh=>h1 ⟨by show(-2147483648:Int)≤_;omega,hh⟩
  show(if(true&&decide ((((x%18446744073709551616).toNat%256^4:Nat):Int)%(2^32:Int)≥(2^31:Int)))=true then(((x%18446744073709551616).toNat%256^4:Nat):Int)%(2^32:Int)-(2^32:Int)else(((x%18446744073709551616).toNat%256^4:Nat):Int)%(2^32:Int))=x
  split<;>rename_i h3
  ·omega
  ·simp at h3
   omega
theorem BP{k:Int}{v:Vl}(h:VlG k v)(r:List UInt8):Ym k ⟨vlB k v++r,0⟩=(v,⟨r,0⟩):=by
 obtain⟨n,s⟩:=v
 rcases h with⟨rfl,h1,h2⟩|⟨rfl,h1,h2⟩|⟨rfl,h1,h2⟩|⟨h0,h1,h2⟩
 ·have h2:s=[]:=h2
  subst h2
  have h1:n=0∨n=1:=h1
  rcases h1 with rfl|rfl
  ·rw[Ek]
   have:=VI false r
   rw[show vlB 1 ⟨0,[]⟩=flB false from rfl,this]
   rfl
  ·rw[Ek]
   have:=VI true r
   rw[show vlB 1 ⟨1,[]⟩=flB true from rfl,this]
   rfl
 ·have h2:s=[]:=h2
  subst h2
  have h1:-2147483648≤n∧n≤2147483647:=h1
  rw[N3,show vlB 2 ⟨n,[]⟩=leB 4 (wr .u64 n).toNat from rfl,J2,Sc n (by omega)]
  simp only[Sv n h1]
 ·have h2:s=[]:=h2
  subst h2
  have h1:-9223372036854775808≤n∧n≤9223372036854775807:=h1
  rw[N2,show vlB 3 ⟨n,[]⟩=leB 8 (wr .u64 n).toNat from rfl,J2,Sc n h1,Nat.mod_eq_of_lt (by omega)]
  simp only[Su n h1]
 ·have h1:n=0:=h1
  subst h1
  have h2:s.length≤100:=h2
  have hv:vlB k ⟨0,s⟩=nuB [(s.length:Int)]++s:=by unfold vlB;rw[if_neg h0.1,if_neg h0.2.1,if_neg h0.2.2]
  rw[DY h0,hv,List.append_assoc,KQ (most:=100) 5 _ h2 (by decide)]
  simp only[Wy]
structure CkG(k:Int)(c:Ck):Prop where
 n1:Wc c.words
 n2:Wc c.size
 crc:JC c.crc
 len:c.pages.length≤200
 pages:∀p∈c.pages,PgG p
 st0:c.known=false→c.st=default
 nulls:c.known=true→Wc c.st.nulls
 has0:c.known=true→c.st.has=false→c.st.mn=default∧c.st.mx=default
 has1:c.known=true→c.st.has=true→VlG k c.st.mn∧VlG k c.st.mx
theorem Ha{k:Int}{c:Ck}(h:CkG k c)(r:List UInt8):Zl k ⟨ckB k c++r,0⟩=(c,⟨r,0⟩):=by
 obtain⟨w,sz,cr,pg,kn,st⟩:=c
 obtain⟨h1,h2,h3,h4,h5,h6,h7,h8,h9⟩:=h
 simp only at h1 h2 h3 h4 h5 h6 h7 h8 h9
 unfold Zl ckR0 ckB
 rw[Zq]
 simp only[List.append_assoc]
 rw[X5 h1]
 simp only
 rw[X5 h2]
 simp only
 rw[CK h3]
 simp only
 rw[KQ (most:=200) 4 _ h4 (by decide)]
 simp only
 rw[MO pg [] _ h5]
 simp only[List.nil_append]
 have hk:YC k ⟨flB kn++((if kn=true then stB k st else[])++r),0⟩=((kn,st),⟨r,0⟩):=by
  unfold YC
  rw[VI]
  cases kn
  ·rw[h6 rfl]
   simp
  ·simp only[if_true]
   have h7:=h7 rfl
   have h8:=h8 rfl
   have h9:=h9 rfl
   obtain⟨nu,ha,mn,mx⟩:=st
   simp only at h7 h8 h9
   have h7n:0≤nu:=h7.1
   unfold stB
   simp only[List.append_assoc]
   rw[X5 h7]
   simp only
   rw[VI]
   cases ha
   ·obtain⟨e1,e2⟩:=h8 rfl
    subst e1 e2
    simp<;>omega
   ·obtain⟨e1,e2⟩:=h9 rfl
    simp only[if_true,List.append_assoc]
    rw[BP e1]
    simp only
    rw[BP e2]
    simp<;>omega
 rw[hk]
 simp only[Int.toNat_of_nonneg h1.1,Int.toNat_of_nonneg h2.1,Int.toNat_of_nonneg h3.1]
theorem GH:∀(ks:List Int) (cs s:List Ck) (r:List UInt8),cs.length=ks.length→(∀i,i<cs.length→CkG (ks.getD i 0) (cs.getD i default))→Z6 ks ⟨YM ks cs++r,0⟩ s=(s++cs,⟨r,0⟩)
 |[],[],s,r,_,_=>by rw[List.append_nil];rfl
 |[],_::_,s,r,h,_=>by simp at h
 |_::_,[],s,r,h,_=>by simp at h
 |k::ks,c::cs,s,r,hl,h=>by
  have hc:=Ha (h 0 (by simp)) (YM ks cs++r)
  have e1:(k::ks).getD 0 0=k:=rfl
  have e2:(c::cs).getD 0 default=c:=rfl
  rw[e1,e2]at hc
  rw[Z6,YM,List.append_assoc,hc,if_neg (by simp),GH ks cs _ r (by simpa using hl) fun i hi=>h (i+1) (by simpa using hi)]
  simp
structure RwG(ks:List Int)(g:Rw):Prop where
 n:Wc g.n
 len:g.chunks.length=ks.length
 chunks:∀i,i<g.chunks.length→CkG (ks.getD i 0) (g.chunks.getD i default)
theorem ET{ks:List Int}{g:Rw}(h:RwG ks g)(r:List UInt8):Ze ks ⟨rwB ks g++r,0⟩=(g,⟨r,0⟩):=by
 obtain⟨n,cs⟩:=g
 obtain⟨h1,h2,h3⟩:=h
 simp only at h1 h2 h3
 unfold Ze rwB
 simp only[List.append_assoc]
 rw[X5 h1]
 simp only
 rw[GH ks cs [] r h2 h3]
 simp only[Int.toNat_of_nonneg h1.1,List.nil_append]
theorem Gy(ks:List Int):∀(l s:List Rw) (r:List UInt8),(∀g∈l,RwG ks g)→Z3 ks l.length ⟨XP ks l++r,0⟩ s=(s++l,⟨r,0⟩)
 |[],s,r,_=>by rw[List.append_nil];rfl
 |p::l,s,r,h=>by
  have hp:=ET (h p (List.mem_cons_self ..)) (XP ks l++r)
  rw[List.length_cons,Z3,XP,List.append_assoc,hp,if_neg (by simp),Gy ks l _ r fun g hg=>h g (List.mem_cons_of_mem _ hg)]
  simp
structure MtG(m:Mt):Prop where
 sb:∀f∈m.s,SbOk f
 s40:m.s.length≤40
 chk:QZ m.s=0
 sl:(sbF m.s).length≤2000
 n:Wc m.n
 len:m.groups.length≤200
 groups:∀g∈m.groups,RwG (QR m.s) g
theorem Li{m:Mt}(h:MtG m)(r:List UInt8):WM ⟨mtB m++r,0⟩=(m,⟨r,0⟩):=by
 obtain⟨s,n,gs⟩:=m
 obtain⟨h1,h2,h3,h4,h5,h6,h7⟩:=h
 simp only at h1 h2 h3 h4 h5 h6 h7
 unfold WM mtB
 rw[Zq n]
 simp only[List.append_assoc]
 rw[KQ (most:=2000) 5 _ h4 (by decide)]
 simp only[Wy]
 rw[if_neg (by simp),Ci h1 h2 h3]
 simp only
 rw[show Qs ⟨nuB [n]++(nuB [(gs.length:Int)]++(XP (QR s) gs++r)),0⟩ 0=⟨nuB [n]++(nuB [(gs.length:Int)]++(XP (QR s) gs++r)),0⟩ from rfl,X5 h5]
 simp only
 rw[KQ (most:=200) 4 _ h6 (by decide)]
 simp only
 rw[Gy (QR s) gs [] r h7]
 simp only[Int.toNat_of_nonneg h5.1,List.nil_append]
def WX(fs:List Fd)(i:Nat):Int:=YG fs (Qf fs) i ((X0 fs).getD i 0)
def YI(fs:List Fd):Nat→Nat→Int
 |_,0=>1
 |i,n+1=>if WX fs i≠0 then WX fs i else YI fs (i+1) n
def VZ(fs:List Fd):Nat→Nat→Int→Int
 |_,0,kids=>if kids≠fs.length-1 then 1 else 0
 |i,n+1,kids=>if WX fs i≠0 then WX fs i else if 40<(fs.getD i default).kids then YI fs (i+1) n else VZ fs (i+1) n (kids+(fs.getD i default).kids)
def VM(fs:List Fd):Int:=if fs.length<1∨40<fs.length then 4 else VZ fs 0 fs.length 0
theorem Cy{fs:List Fd}{i:Nat}(h:i<fs.length):YI fs i (fs.length-i)=if WX fs i≠0 then WX fs i else YI fs (i+1) (fs.length-(i+1)):=by
 rw[show fs.length-i=(fs.length-(i+1))+1 by omega,YI]
theorem ED{fs:List Fd}{i:Nat}{kids:Int}(h:i<fs.length):VZ fs i (fs.length-i) kids=if WX fs i≠0 then WX fs i else if 40<(fs.getD i default).kids then YI fs (i+1) (fs.length-(i+1))else VZ fs (i+1) (fs.length-(i+1)) (kids+(fs.getD i default).kids):=by
 rw[show fs.length-i=(fs.length-(i+1))+1 by omega,VZ]
theorem UJ{f:Fd}{i:Nat}{par dep:Int}{nm tw:Bool}(h:Bs f i par dep nm tw=0):(0<i→0≤par)∧dep≤8∧nm=true∧tw=false∧0≤f.rep∧f.rep≤2∧0≤f.kind∧f.kind≤4∧(i=0→f.rep=0∧f.kind=0)∧(f.kind=0→1≤f.kids)∧(f.kind≠0→f.kids=0):=by
 unfold Bs at h
 repeat' split at h
 all_goals first
  |omega
  |(cases nm<;>cases tw<;>simp at * <;>omega)
theorem DJ{fs:List Fd}{i:Nat}(h:WX fs i=0):0≤(fs.getD i default).kids:=by
 obtain⟨_,_,_,_,_,_,_,_,_,h1,h2⟩:=UJ h
 by_cases hk:(fs.getD i default).kind=0
 ·have:=h1 hk;omega
 ·have:=h2 hk;omega
def XO:Stk→Int
 |[]=>0
 |(_,k)::t=>(if 0<k then k else 0)+XO t
theorem JG:∀st:Stk,0≤XO st
 |[]=>Int.le_refl _
 |(a,k)::t=>by have:=JG t;rw[XO];split<;>omega
theorem D3:∀st:Stk,XO (Zp st)=XO st
 |[]=>rfl
 |(a,k)::t=>by
  rw[Zp]
  split
  ·rw[D3 t,XO,if_neg (by omega)];omega
  ·rfl
theorem L5{st:Stk}{a k:Int}{t:Stk}(h:Zp st=(a,k)::t):0<k:=by
 induction st with
 |nil=>cases h
 |cons q s ih=>
  obtain⟨b,j⟩:=q
  rw[Zp]at h
  split at h
  ·exact ih h
  ·cases h;omega
theorem Dj:∀st:Stk,Yc st=true↔0<XO st
 |[]=>by simp[Yc,XO]
 |(a,k)::t=>by
  have ih:=Dj t
  have:=JG t
  simp only[Yc,List.any_cons,Bool.or_eq_true,decide_eq_true_eq]at ih ⊢
  rw[ih,XO]
  split<;>omega
def JH(l:List Fd):Int:=(l.map Fd.kids).sum
def Of:List Fd→Nat→Stk→Prop
 |[],_,_=>True
 |f::l,i,st=>0≤U0 (Zp st)∧(f.kind=0→1≤f.kids)∧(f.kind≠0→f.kids=0)∧Of l (i+1) (Zm i f (XL (Zp st)))
theorem Ds:∀(l:List Fd) (i:Nat) (st:Stk),Of l i st→XO (Yl l i st)=XO st+JH l-l.length
 |[],_,st,_=>by simp[Yl,JH]
 |f::l,i,st,⟨h1,h2,h3,h4⟩=>by
  rw[Yl,Ds l _ _ h4]
  have hs:=D3 st
  cases hp:Zp st with
  |nil=>rw[hp]at h1;exact absurd h1 (by decide)
  |cons q t=>
   obtain⟨a,k⟩:=q
   have hk:=L5 hp
   rw[hp]at hs
   have hd:XO (XL ((a,k)::t))=XO st-1:=by
    rw[←hs,XL,XO,XO,if_pos hk]
    split<;>omega
   have hpu:XO (Zm i f (XL ((a,k)::t)))=XO st-1+f.kids:=by
    unfold Zm
    split
    ·rename_i hf
     have:=h2 hf
     rw[XO,if_pos (by omega),hd];omega
    ·rename_i hf
     rw[hd,h3 hf];omega
   rw[hpu]
   simp only[JH,List.map_cons,List.sum_cons,List.length_cons]
   omega
theorem IJ{fs:List Fd}{i:Nat}{st:Stk}(h:i<fs.length)(hw:Xb (fs.drop i) i st=(Xb fs 0 []).drop i):(Qf fs).getD i 0=U0 (Zp st)∧Xb (fs.drop (i+1)) (i+1) (Zm i (fs.getD i default) (XL (Zp st)))=(Xb fs 0 []).drop (i+1):=by
 have hl:i<(Xb fs 0 []).length:=by rw[Yo];exact h
 have e1:fs.drop i=fs.getD i default::fs.drop (i+1):=by rw[List.drop_eq_getElem_cons h];simp[h]
 rw[e1,Xb,List.drop_eq_getElem_cons hl]at hw
 injection hw with h1 h2
 refine⟨?_,h2⟩
 rw[Qf,List.getD_eq_getElem?_getD,List.getElem?_map,List.getElem?_eq_getElem hl,←h1];rfl
theorem Ji{fs:List Fd}:∀(n i:Nat),Za fs i n=0→ ∀j,i≤j→j<i+n→WX fs j=0
 |0,i,_,j,h1,h2=>by omega
 |n+1,i,h,j,h1,h2=>by
  rw[Za]at h
  split at h
  ·rename_i hne;exact absurd h hne
  ·rename_i hne
   by_cases hj:j=i
   ·subst hj;exact Decidable.not_not.1 hne
   ·exact Ji n (i+1) h j (by omega) (by omega)
theorem DI(fs:List Fd)(i n:Nat):Za fs i (n+1)=if WX fs i≠0 then WX fs i else Za fs (i+1) n:=rfl
theorem DK{fs:List Fd}{i:Nat}(h:WX fs i=0):(0<i→0≤(Qf fs).getD i 0)∧(i=0→(fs.getD i default).rep=0∧(fs.getD i default).kind=0)∧((fs.getD i default).kind=0→1≤(fs.getD i default).kids)∧((fs.getD i default).kind≠0→(fs.getD i default).kids=0):=by
 obtain⟨z1,_,_,_,_,_,_,_,z2,z3,z4⟩:=UJ h
 exact⟨z1,z2,z3,z4⟩
theorem Ic{fs:List Fd}(h:∀j,j<fs.length→WX fs j=0):∀(m i:Nat) (st:Stk),0<i→i+m=fs.length→Xb (fs.drop i) i st=(Xb fs 0 []).drop i→Of (fs.drop i) i st
 |0,i,st,_,hm,_=>by rw[List.drop_of_length_le (by omega)];exact trivial
 |m+1,i,st,hi,hm,hw=>by
  obtain⟨h1,h2⟩:=IJ (by omega) hw
  obtain⟨z1,_,z2,z3⟩:=DK (h i (by omega))
  have e1:fs.drop i=fs.getD i default::fs.drop (i+1):=by rw[List.drop_eq_getElem_cons (by omega)];simp[show i<fs.length by omega]
  rw[e1]
  refine⟨?_,z2,z3,Ic h m (i+1) _ (by omega) (by omega) h2⟩
  rw[←h1];exact z1 hi
theorem NL{fs:List Fd}(hn:0<fs.length)(h:∀j,j<fs.length→WX fs j=0):XO (Yl fs 0 [])=JH fs-(fs.length-1):=by
 cases fs with
 |nil=>simp at hn
 |cons f l=>
  obtain⟨_,z1,z2,z3⟩:=DK (h 0 hn)
  have hk:f.kind=0:=(z1 rfl).2
  have hki:1≤f.kids:=z2 hk
  have hg:=Ic h l.length 1 [((0:Nat),f.kids)] (by omega) (by simp;omega) (by
   show Xb l 1 _=Xb l (0+1) (Zm 0 f (XL (Zp [])))
   rw[Zm,if_pos hk];rfl)
  have:=Ds l 1 _ hg
  have hw:Yl (f::l) 0 []=Yl l 1 [((0:Nat),f.kids)]:=by
   show Yl l (0+1) (Zm 0 f (XL (Zp [])))=_
   rw[Zm,if_pos hk];rfl
  rw[hw,this,XO,if_pos (by omega)]
  simp only[JH,XO,List.map_cons,List.sum_cons,List.length_cons]
  omega
theorem Dq(fs:List Fd):∀n i,YI fs i n=if Za fs i n≠0 then Za fs i n else 1
 |0,_=>by simp[YI,Za]
 |n+1,i=>by
  rw[YI,DI,Dq fs n]
  by_cases h:WX fs i=0
  ·simp[h]
  ·simp[h]
def S6(l:List Fd):Bool:=l.any fun f=>decide (40<f.kids)
theorem C8(fs:List Fd):∀n i k,i+n=fs.length→VZ fs i n k=if Za fs i n≠0 then Za fs i n else if S6 (fs.drop i)=true∨k+JH (fs.drop i)≠fs.length-1 then 1 else 0
 |0,i,k,h=>by
  rw[List.drop_of_length_le (by omega)]
  simp[S6,JH,VZ,Za]
 |n+1,i,k,h=>by
  have e1:fs.drop i=fs.getD i default::fs.drop (i+1):=by rw[List.drop_eq_getElem_cons (by omega)];simp[show i<fs.length by omega]
  rw[VZ,DI,C8 fs n (i+1) _ (by omega),Dq,e1]
  have hs:JH (fs.getD i default::fs.drop (i+1))=(fs.getD i default).kids+JH (fs.drop (i+1)):=rfl
  have hb:S6 (fs.getD i default::fs.drop (i+1))=(decide (40<(fs.getD i default).kids)||S6 (fs.drop (i+1))):=rfl
  rw[hs,hb]
  by_cases h0:WX fs i=0
  ·by_cases h1:Za fs (i+1) n=0
   ·by_cases h2:40<(fs.getD i default).kids
    ·simp only[h0,h1,ne_eq,not_true_eq_false,if_false,h2,decide_true,Bool.true_or,true_or,if_true]
    ·simp only[h0,h1,ne_eq,not_true_eq_false,if_false,h2,decide_false,Bool.false_or,Int.add_assoc]
   ·simp only[h0,h1,ne_eq,not_true_eq_false,not_false_eq_true,if_false,if_true]
    split<;>rfl
  ·simp only[h0,ne_eq,not_false_eq_true,if_true]
theorem Pw{fs:List Fd}(h:∀f∈fs,0≤f.kids):0≤JH fs∧ ∀f∈fs,f.kids≤JH fs:=by
 induction fs with
 |nil=>exact⟨Int.le_refl _,fun f hf=>nomatch hf⟩
 |cons g l ih=>
  obtain⟨h1,h2⟩:=ih fun f hf=>h f (List.mem_cons_of_mem _ hf)
  have hg:=h g (List.mem_cons_self ..)
  have e:JH (g::l)=g.kids+JH l:=rfl
  refine⟨by omega,fun f hf=>?_⟩
  rcases List.mem_cons.1 hf with rfl|hf
  ·omega
  ·have:=h2 f hf;omega
theorem L4(fs:List Fd):VM fs=QZ fs:=by
 unfold VM QZ
 by_cases hn:fs.length<1∨40<fs.length
 ·rw[if_pos hn,if_pos hn]
 rw[if_neg hn,if_neg hn,C8 fs _ 0 0 (by omega),List.drop_zero]
 by_cases h0:Za fs 0 fs.length=0
 ·have hz:∀j,j<fs.length→WX fs j=0:=fun j hj=>Ji _ 0 h0 j (by omega) (by omega)
  have hs:=NL (by omega) hz
  have hp:=JG (Yl fs 0 [])
  have hkk:∀f∈fs,0≤f.kids:=fun f hf=>by
   obtain⟨j,hj,rfl⟩:=List.getElem_of_mem hf
   have:=DJ (hz j hj)
   rwa [List.getD_eq_getElem?_getD,List.getElem?_eq_getElem hj]at this
  obtain⟨hk0,hk1⟩:=Pw hkk
  have ho:=Dj (Yl fs 0 [])
  simp only[h0,ne_eq,not_true_eq_false,if_false]
  by_cases hop:Yc (Yl fs 0 [])=true
  ·rw[if_pos hop,if_pos]
   right
   have:=ho.1 hop
   omega
  ·rw[if_neg hop,if_neg]
   have hsp:XO (Yl fs 0 [])=0:=by
    have:¬0<XO (Yl fs 0 []):=fun h=>hop (ho.2 h)
    omega
   rintro(hbig|hne)
   ·obtain⟨f,hm,h40⟩:=List.any_eq_true.1 hbig
    have:=hk1 f hm
    have:=of_decide_eq_true h40
    omega
   ·omega
 ·simp only[h0,ne_eq,not_false_eq_true,if_true]
abbrev Wd:=List UInt8
def Si(c:UInt8):Bool:=decide (c.toNat=123)||decide (c.toNat=125)||decide (c.toNat=59)
def Sx(w:Wd):Prop:=w≠[]∧((∀c∈w,Mo c=true)∨ ∃c,w=[c]∧Si c=true)
def T7:List Wd:=[[114,101,113,117,105,114,101,100],[111,112,116,105,111,110,97,108],[114,101,112,101,97,116,101,100]]
def Rg:List Wd:=[[103,114,111,117,112],[98,111,111,108],[105,110,116,51,50],[105,110,116,54,52],[98,121,116,101,115]]
def Q0g:Wd:=[109,101,115,115,97,103,101]
def NT(w:Wd):Bool:=match w with
 |[]=>false
 |c::_=>YB c&&decide (w.length≤12)
theorem NS{w:Wd}(h:Sx w):NT w=Yd w:=by
 cases w with
 |nil=>exact absurd rfl h.1
 |cons c t=>
  show(YB c&&decide ((c::t).length≤12))=(decide (1≤(c::t).length)&&decide ((c::t).length≤12)&&YB c&&(c::t).all Mo)
  rw[decide_eq_true (show 1≤(c::t).length by simp)]
  rcases h.2 with h|⟨d,hd,hm⟩
  ·rw[List.all_eq_true.2 h]
   cases YB c<;>cases decide ((c::t).length≤12)<;>rfl
  ·cases hd
   have:YB c=false:=by
    cases hl:YB c with
    |false=>rfl
    |true=>
     simp only[YB,Si,Bool.and_eq_true,Bool.or_eq_true,decide_eq_true_eq]at hl hm
     omega
   rw[this];simp
structure PS where
 ws:List Wd
 fs:List Fd
 e:Int
 deriving Inhabited
def Iy(d:Nat):List UInt8:=List.replicate (2*d) 32
def Oj(d:Nat)(f:Fd):List UInt8:=if d=0 then Q0g++[32]else Iy d++T7.getD f.rep.toNat []++[32]++Rg.getD f.kind.toNat []++[32]
def Sj(d:Nat)(f:Fd):List UInt8:=Oj d f++f.name++[59,10]
def Sg(d:Nat)(f:Fd):List UInt8:=Oj d f++f.name++[32,123,10]
def OK(d:Nat):List UInt8:=Iy d++[125,10]
inductive PrT(s:List Fd):Nat→Nat→Nat→Nat→List UInt8→Nat→Prop
 |nil {n i d:Nat}:PrT s n 0 i d [] i
 |leaf {n k i d j:Nat} {t:List UInt8} (hi:i<s.length) (hk:(s.getD i default).kind≠0) (h:PrT s n k (i+1) d t j):PrT s n (k+1) i d (Sj d (s.getD i default)++t) j
 |group {n k m i i1 d j:Nat} {t1 t2:List UInt8} (hi:i<s.length) (hk:(s.getD i default).kind=0) (hm:(s.getD i default).kids=m) (h1:PrT s n m (i+1) (d+1) t1 i1) (h2:PrT s (n+1) k i1 d t2 j):
   PrT s (n+1) (k+1) i d (Sg d (s.getD i default)++t1++OK d++t2) j
theorem PrT.split{s:List Fd}{n k i d j:Nat}{t:List UInt8}(h:PrT s n (k+1) i d t j):∃t1 i1 t2,PrT s n 1 i d t1 i1∧PrT s n k i1 d t2 j∧t=t1++t2:=by
 cases h with
 |leaf hi hk h=>exact⟨_,_,_,.leaf hi hk .nil,h,by simp⟩
 |group hi hk hm h1 h2=>exact⟨_,_,_,.group hi hk hm h1 .nil,h2,by simp⟩
theorem PrT.one{s:List Fd}{n i d j:Nat}{t:List UInt8}(h:PrT s n 1 i d t j):i<s.length∧
 (((s.getD i default).kind≠0∧t=Sj d (s.getD i default)∧j=i+1)∨
   (∃n' m t1,(s.getD i default).kind=0∧n=n'+1∧(s.getD i default).kids=(m:Nat)∧PrT s n' m (i+1) (d+1) t1 j∧t=Sg d (s.getD i default)++t1++OK d)):=by
 cases h with
 |leaf hi hk h=>
  cases h with
  |nil=>exact⟨hi,.inl ⟨hk,by simp,rfl⟩⟩
 |group hi hk hm h1 h2=>
  cases h2 with
  |nil=>exact⟨hi,.inr ⟨_,_,_,hk,rfl,hm,h1,by simp⟩⟩
theorem PrT.pos{s:List Fd}{n k i d j:Nat}{t:List UInt8}(h:PrT s n k i d t j):i≤j:=by
 induction h with
 |nil=>exact Nat.le_refl _
 |leaf _ _ _ ih=>omega
 |group _ _ _ _ _ ih1 ih2=>omega
structure PrOk(s:List Fd):Prop where
 len:s.length<1000
 rep:∀i,i<s.length→0≤(s.getD i default).rep∧(s.getD i default).rep≤2
 kind:∀i,i<s.length→0≤(s.getD i default).kind∧(s.getD i default).kind≤4
structure FOk(f:Fd):Prop where
 rep:0≤f.rep∧f.rep≤2
 kind:0≤f.kind∧f.kind≤4
 name:NT f.name=true
 sign:∀c∈f.name,Mo c=true
inductive Fo:Nat→Nat→List Fd→Prop
 |nil {d:Nat}:Fo d 0 []
 |leaf {d k:Nat} {f:Fd} {l:List Fd} (hd:d≤8) (hf:FOk f) (hk:f.kind≠0) (h0:f.kids=0) (h:Fo d k l):Fo d (k+1) (f::l)
 |group {d k m:Nat} {f:Fd} {l1 l2:List Fd} (hd:d≤8) (hf:FOk f) (hk:f.kind=0) (hm:f.kids=(m:Nat)) (hp:0<m) (h1:Fo (d+1) m l1) (h2:Fo d k l2):Fo d (k+1) (f::(l1++l2))
theorem Fo.snoc{d k:Nat}{l x:List Fd}(h:Fo d k l)(hx:Fo d 1 x):Fo d (k+1) (l++x):=by
 induction h with
 |nil=>exact hx
 |leaf hd hf hk h0 _ ih=>exact .leaf hd hf hk h0 (ih hx)
 |group hd hf hk hm hp h1 _ _ ih=>
  rw[List.cons_append,List.append_assoc]
  exact .group hd hf hk hm hp h1 (ih hx)
inductive Sp:List Int→List Fd→Prop
 |root {f:Fd} {l:List Fd} {k:Nat} (hf:FOk f) (hk:f.kind=0) (hr:f.rep=0) (hm:f.kids=(k:Nat)) (h:Fo 1 k l):Sp [0] (f::l)
 |push {a:Int} {t:List Int} {fs:List Fd} {f:Fd} {l:List Fd} {k:Nat} (h:Sp (a::t) fs) (hd:t.length+1≤8) (hf:FOk f) (hk:f.kind=0) (hm:f.kids=(k:Nat)) (hl:Fo (t.length+2) k l):
   Sp ((fs.length:Int)::a::t) (XK fs a.toNat++f::l)
theorem Sp.ne{op:List Int}{fs:List Fd}(h:Sp op fs):∃a t,op=a::t∧fs≠[]:=by
 cases h with
 |root=>exact⟨_,_,rfl,by simp⟩
 |push=>exact⟨_,_,rfl,by simp⟩
theorem Sp.top{a:Int}{t:List Int}{fs:List Fd}(h:Sp (a::t) fs):a.toNat<fs.length∧0≤a∧ ∃k:Nat,(fs.getD a.toNat default).kids=(k:Nat):=by
 cases h with
 |root hf hk hr hm h=>exact⟨by simp,by omega,_,hm⟩
 |push h hd hf hk hm hl=>
  rename_i k
  refine⟨by simp[Qe],by omega,k,?_⟩
  rw[Int.toNat_natCast,List.getD_eq_getElem?_getD,List.getElem?_append_right (by rw[Qe];exact Nat.le_refl _),Qe,Nat.sub_self]
  exact hm
theorem O9{fs:List Fd}{f:Fd}{l:List Fd}{n:Nat}(h:n=fs.length):XK (fs++f::l) n=fs++{f with kids:=f.kids+1}::l:=by
 subst h
 unfold XK
 have e:(fs++f::l).getD fs.length default=f:=by
  rw[List.getD_eq_getElem?_getD,List.getElem?_append_right (Nat.le_refl _),Nat.sub_self];rfl
 rw[e]
 simp only[List.set_append,Nat.lt_irrefl,if_false,Nat.sub_self,List.set_cons_zero]
theorem Sp.add{a:Int}{t:List Int}{fs x:List Fd}(h:Sp (a::t) fs)(hx:Fo (t.length+1) 1 x):Sp (a::t) (XK fs a.toNat++x):=by
 generalize hop:a::t=op at h
 cases h with
 |root hf hk hr hm h=>
  cases hop
  rename_i f l k
  have e:XK (f::l) (0:Int).toNat={f with kids:=f.kids+1}::l:=O9 (fs:=[]) rfl
  rw[e]
  exact .root (f:={f with kids:=f.kids+1}) (k:=k+1) ⟨hf.rep,hf.kind,hf.name,hf.sign⟩ hk hr (by show f.kids+1=_;rw[hm];rfl) (h.snoc hx)
 |push h hd hf hk hm hl=>
  cases hop
  rename_i a' t' fs' f l k
  rw[O9 (by rw[Qe,Int.toNat_natCast]),List.append_assoc]
  exact .push (f:={f with kids:=f.kids+1}) (k:=k+1) h hd ⟨hf.rep,hf.kind,hf.name,hf.sign⟩ hk (by show f.kids+1=_;rw[hm];rfl) (hl.snoc hx)
theorem Sp.pop{b a:Int}{t:List Int}{fs:List Fd}(h:Sp (b::a::t) fs)(hk:0<(fs.getD b.toNat default).kids):Sp (a::t) fs∧0<(fs.getD a.toNat default).kids:=by
 generalize hop:b::a::t=op at h
 cases h with
 |root=>cases hop
 |push h hd hf hk' hm hl=>
  cases hop
  rename_i fs' f l k
  rw[Int.toNat_natCast,List.getD_eq_getElem?_getD,List.getElem?_append_right (by rw[Qe];exact Nat.le_refl _),Qe,Nat.sub_self]at hk
  have hk:0<f.kids:=hk
  obtain⟨h1,h2,k',h3⟩:=h.top
  refine⟨h.add ?_,?_⟩
  ·have:=Fo.group (d:=t.length+1) (k:=0) (m:=k) hd hf hk' hm (by omega) hl .nil
   rwa [List.append_nil]at this
  ·have e:(XK fs' a.toNat++f::l).getD a.toNat default={fs'.getD a.toNat default with kids:=(fs'.getD a.toNat default).kids+1}:=by
    rw[List.getD_eq_getElem?_getD,List.getElem?_append_left (by rw[Qe];exact h1),XK,List.getElem?_set_self (by exact h1)];rfl
   rw[e]
   show 0<(fs'.getD a.toNat default).kids+1
   omega
theorem Sp.pops{fs:List Fd}:∀(k:Nat) (op:List Int),Sp op fs→Sp (Ua fs k op) fs∧(Ua fs k op).length≤op.length
 |0,op,h=>⟨h,Nat.le_refl _⟩
 |k+1,[],h=>⟨h,Nat.le_refl _⟩
 |k+1,[a],h=>⟨h,Nat.le_refl _⟩
 |k+1,a::b::t,h=>by
  rw[Ua]
  split
  ·rename_i hk
   obtain⟨h1,h2⟩:=Sp.pops k (b::t) (h.pop hk).1
   exact⟨h1,by simp at h2 ⊢;omega⟩
  ·exact⟨h,Nat.le_refl _⟩
theorem Sp.close:∀(op:List Int) (fs:List Fd),Sp op fs→0<(fs.getD (Xh op).toNat default).kids→ ∃(f:Fd) (l:List Fd) (k:Nat),fs=f::l∧FOk f∧f.kind=0∧f.rep=0∧f.kids=(k:Nat)∧0<k∧Fo 1 k l
 |[],fs,h,_=>by cases h
 |[a],fs,h,hk=>by
  generalize hop:[a]=op at h
  cases h with
  |root hf hkk hr hm h=>
   rename_i f l k
   have hk:0<f.kids:=by cases hop;exact hk
   exact⟨_,_,_,rfl,hf,hkk,hr,hm,by omega,h⟩
  |push=>cases hop
 |b::a::t,fs,h,hk=>by
  obtain⟨h1,h2⟩:=h.pop hk
  exact Sp.close (a::t) fs h1 h2
theorem Q0c:∀i,i<12→NT (nmM i)=true∧ ∀c∈nmM i,Mo c=true:=by decide
theorem Tc(op:List Int){i:Nat}(hi:i<12)(x:Int):FOk (EW op i x)∧(EW op i x).kids=0:=by
 have h1:=Vr (a:=wr .i64 (x.tdiv 8)) (n:=3) (by omega)
 have h2:=Vr (a:=x) (n:=8) (by omega)
 obtain⟨h3,h4⟩:=Q0c i hi
 refine⟨⟨⟨h1.1,by show wi _ 3≤2;omega⟩,?_,h3,h4⟩,rfl⟩
 show 0≤Ye op x∧Ye op x≤4
 unfold Ye
 have h5:=Int.tmod_lt_of_pos (wi x 8) (show(0:Int)<5 by decide)
 have h6:=Int.tmod_nonneg 5 h2.1
 split<;>omega
theorem Lq{op:List Int}{x:Int}(h:Ye op x=0):op.length≤4:=by
 unfold Ye at h
 split at h
 ·omega
 ·rename_i hn
  exact Nat.le_of_not_lt fun hl=>hn ⟨hl,h⟩
theorem Sp.step{fs:List Fd}{op:List Int}{i:Nat}{x:Int}(h:Sp op fs)(hl:op.length≤5)(hi:i<12):Sp (Ya fs op i x).2 (Ya fs op i x).1∧(Ya fs op i x).2.length≤5:=by
 obtain⟨h1,h2⟩:=Sp.pops (wi (wr .i64 (x.tdiv 64)) 3).toNat op h
 unfold Ya
 simp only
 generalize Ua fs (wi (wr .i64 (x.tdiv 64)) 3).toNat op=o at *
 obtain⟨a,t,rfl,hne⟩:=h1.ne
 obtain⟨hf,hk0⟩:=Tc (a::t) hi x
 have ht:Xh (a::t)=a:=rfl
 rw[ht]
 split
 ·rename_i hk
  have h4:=Lq (show Ye (a::t) x=0 from hk)
  simp at h4 h2
  exact⟨.push (k:=0) h1 (by omega) hf hk (by rw[hk0];rfl) .nil,by simp;omega⟩
 ·rename_i hk
  simp at h2
  exact⟨h1.add (.leaf (by omega) hf hk hk0 .nil),by simp;omega⟩
theorem Nm{ns:List Int}:∀(n i:Nat) (fs:List Fd) (op:List Int),Sp op fs→op.length≤5→Sp (Yb ns n i fs op).2 (Yb ns n i fs op).1∧(Yb ns n i fs op).2.length≤5
 |0,i,fs,op,h,hl=>⟨h,hl⟩
 |n+1,i,fs,op,h,hl=>by
  rw[Yb]
  split
  ·rename_i hi
   have hs:=Sp.step (x:=ns.getD i 0) h hl hi.2
   exact Nm n (i+1) _ _ hs.1 hs.2
  ·exact⟨h,hl⟩
theorem I5(ns:List Int):∃(f:Fd) (l:List Fd) (k:Nat),QW ns=f::l∧FOk f∧f.kind=0∧f.rep=0∧f.kids=(k:Nat)∧0<k∧Fo 1 k l:=by
 have h0:Sp [0] fs0:=.root (k:=0) ⟨by decide,by decide,by decide,by decide⟩ rfl rfl rfl .nil
 have h:=Nm (ns:=ns) 12 0 fs0 [0] h0 (by decide)
 rw[QW]
 generalize(Yb ns 12 0 [⟨[109],0,0,0⟩] [0])=r at *
 have hl5:(r.2).length≤5:=h.2
 have h:Sp r.2 r.1:=h.1
 rw[YL]
 obtain⟨a,t,ho,hne⟩:=h.ne
 rw[ho]at h
 obtain⟨h1,h2,k,h3⟩:=h.top
 have ht:Xh r.2=a:=by rw[ho];rfl
 rw[ht]
 split
 ·rename_i hk
  have hz:FOk ⟨[122],0,4,0⟩:=⟨by decide,by decide,by decide,by decide⟩
  have hd:t.length+1≤8:=by rw[ho]at hl5;simp at hl5;omega
  have ha:=h.add (.leaf (f:=⟨[122],0,4,0⟩) hd hz (by decide) rfl .nil)
  refine Sp.close (a::t) _ ha ?_
  show 0<((XK r.1 a.toNat++[_]).getD a.toNat default).kids
  rw[List.getD_eq_getElem?_getD,List.getElem?_append_left (by rw[Qe];exact h1),XK,List.getElem?_set_self (by exact h1)]
  show 0<(r.1.getD a.toNat default).kids+1
  omega
 ·rename_i hk
  refine Sp.close (a::t) _ h ?_
  show 0<(r.1.getD a.toNat default).kids
  omega
theorem Fo.all{d k:Nat}{l:List Fd}(h:Fo d k l):∀f∈l,FOk f:=by
 induction h with
 |nil=>intro f hf;cases hf
 |leaf hd hf hk h0 h ih=>
  intro f h
  rcases List.mem_cons.1 h with rfl|h
  ·exact hf
  ·exact ih f h
 |group hd hf hk hm hp h1 h2 ih1 ih2=>
  intro f h
  rcases List.mem_cons.1 h with rfl|h
  ·exact hf
  ·rcases List.mem_append.1 h with h|h
   ·exact ih1 f h
   ·exact ih2 f h
structure PrS(s:List Fd)(t:List UInt8):Prop where
 pr:PrT s 9 1 0 0 t s.length
 ok:PrOk s
 len:t.length≤64*s.length
theorem Nc(fs:List Fd)(op:List Int)(i:Nat)(x:Int):(Ya fs op i x).1.length=fs.length+1:=by
 simp[Ya,Qe]
theorem HH{ns:List Int}:∀(n i:Nat) (fs:List Fd) (op:List Int),(Yb ns n i fs op).1.length≤fs.length+n
 |0,_,_,_=>Nat.le_refl _
 |n+1,i,fs,op=>by
  rw[Yb]
  split
  ·have:=HH (ns:=ns) n (i+1) (Ya fs op i (ns.getD i 0)).1 (Ya fs op i (ns.getD i 0)).2
   rw[Nc]at this
   show(Yb ns n (i+1) (Ya fs op i (ns.getD i 0)).1 (Ya fs op i (ns.getD i 0)).2).1.length≤_
   omega
  ·show fs.length≤_;omega
theorem KT(ns:List Int):(QW ns).length≤14:=by
 have h:=HH (ns:=ns) 12 0 [⟨[109],0,0,0⟩] [0]
 rw[QW]
 generalize(Yb ns 12 0 [⟨[109],0,0,0⟩] [0])=r at *
 have h:r.1.length≤13:=h
 show(YL r.1 r.2).length≤14
 unfold YL
 split
 ·simp[Qe];omega
 ·omega
theorem ML{a c:Int}{t:Stk}(h:0<c):Zp ((a,c)::t)=(a,c)::t:=by rw[Zp,if_neg (by omega)]
theorem MM{a c:Int}{t:Stk}(h:c≤0):Zp ((a,c)::t)=Zp t:=by rw[Zp,if_pos h]
theorem Cc:∀{st:Stk},Zp st=[]→Yc st=false
 |[],_=>rfl
 |(a,c)::t,h=>by
  by_cases hc:0<c
  ·rw[ML hc]at h;cases h
  ·rw[MM (by omega)]at h
   have:=Cc h
   rw[Yc]at this ⊢
   rw[List.any_cons,this,decide_eq_false hc];rfl
theorem Rn{d k:Nat}{l:List Fd}(h:Fo d k l):∀(i:Nat) (a c:Int) (st' st:Stk) (rest:List Fd),(k:Int)≤c→0≤a→d=st'.length+1→Zp st=Zp ((a,c)::st')→
 ∃rows st2,Xb (l++rest) i st=rows++Xb rest (i+l.length) st2∧(∀p∈rows,(0:Int)≤p.1∧p.2≤8)∧Yl (l++rest) i st=Yl rest (i+l.length) st2∧Zp st2=Zp ((a,c-k)::st'):=by
 induction h with
 |nil=>
  intro i a c st' st rest hc ha hd hp
  exact⟨[],st,rfl,fun p hp=>(nomatch hp),rfl,by rw[hp];simp⟩
 |leaf hd hf hk h0 h ih=>
  rename_i d k f l
  intro i a c st' st rest hc ha hdl hp
  have hc0:0<c:=by omega
  rw[ML hc0]at hp
  obtain⟨rows,st2,h1,h2,h3,h4⟩:=ih (i+1) a (c-1) st' ((a,c-1)::st') rest (by omega) ha hdl rfl
  refine⟨(a,(st'.length:Int)+1)::rows,st2,?_,?_,?_,?_⟩
  ·rw[List.cons_append,Xb,hp,Zm,if_neg hk]
   show(a,(((a,c)::st').length:Int))::Xb (l++rest) (i+1) ((a,c-1)::st')=_
   rw[h1,List.length_cons,List.length_cons,show i+1+l.length=i+(l.length+1) by omega]
   simp
  ·intro p hp
   rcases List.mem_cons.1 hp with rfl|hp
   ·exact⟨ha,by simp only;omega⟩
   ·exact h2 p hp
  ·rw[List.cons_append,Yl,hp,Zm,if_neg hk]
   show Yl (l++rest) (i+1) ((a,c-1)::st')=_
   rw[h3,List.length_cons,show i+1+l.length=i+(l.length+1) by omega]
  ·rw[h4,show c-1-(k:Int)=c-((k+1:Nat):Int) by omega]
 |group hd hf hk hm hpos h1 h2 ih1 ih2=>
  rename_i d k m f l1 l2
  intro i a c st' st rest hc ha hdl hp
  have hc0:0<c:=by omega
  rw[ML hc0]at hp
  obtain⟨r1,s1,a1,a2,a3,a4⟩:=ih1 (i+1) i m ((a,c-1)::st') (((i:Int),(m:Int))::(a,c-1)::st') (l2++rest) (Int.le_refl _) (by omega) (by simp;omega) rfl
  rw[MM (by omega)]at a4
  obtain⟨r2,s2,b1,b2,b3,b4⟩:=ih2 (i+1+l1.length) a (c-1) st' s1 rest (by omega) ha hdl a4
  refine⟨(a,(st'.length:Int)+1)::(r1++r2),s2,?_,?_,?_,?_⟩
  ·rw[List.cons_append,Xb,hp,Zm,if_pos hk,hm]
   show(a,(((a,c)::st').length:Int))::Xb (l1++l2++rest) (i+1) (((i:Int),(m:Int))::(a,c-1)::st')=_
   rw[List.append_assoc,a1,b1,List.length_cons,List.length_cons,List.length_append,show i+1+l1.length+l2.length=i+(l1.length+l2.length+1) by omega]
   simp
  ·intro p hp
   rcases List.mem_cons.1 hp with rfl|hp
   ·exact⟨ha,by simp only;omega⟩
   ·rcases List.mem_append.1 hp with hp|hp
    ·exact a2 p hp
    ·exact b2 p hp
  ·rw[List.cons_append,Yl,hp,Zm,if_pos hk,hm]
   show Yl (l1++l2++rest) (i+1) (((i:Int),(m:Int))::(a,c-1)::st')=_
   rw[List.append_assoc,a3,b3,List.length_cons,List.length_append,show i+1+l1.length+l2.length=i+(l1.length+l2.length+1) by omega]
  ·rw[b4,show c-1-(k:Int)=c-((k+1:Nat):Int) by omega]
theorem F3(fs:List Fd)(a:Nat):(XK fs a).map (·.name)=fs.map (·.name):=by
 unfold XK
 apply List.ext_getElem?
 intro i
 simp only[List.getElem?_map,List.getElem?_set]
 by_cases h:a=i
 ·subst h
  by_cases hl:a<fs.length
  ·simp[hl]
  ·simp[hl]
 ·simp[h]
def Lh(j:Nat):List UInt8:=if j=0 then[109]else nmM (j-1)
theorem D7{ns:List Int}:∀(n i:Nat) (fs:List Fd) (op:List Int),fs.map (·.name)=(List.range (i+1)).map Lh→i≤12→ ∃m,m≤13∧(Yb ns n i fs op).1.map (·.name)=(List.range m).map Lh
 |0,i,fs,op,h,hi=>⟨i+1,by omega,h⟩
 |n+1,i,fs,op,h,hi=>by
  rw[Yb]
  split
  ·rename_i hc
   refine D7 n (i+1) _ _ ?_ (by omega)
   show(Ya fs op i (ns.getD i 0)).1.map (·.name)=_
   unfold Ya
   simp only[List.map_append,F3,h]
   rw[List.range_succ (n:=i+1),List.map_append]
   rfl
  ·exact⟨i+1,by omega,h⟩
theorem EN(ns:List Int):∃m,m≤13∧((QW ns).map (·.name)=(List.range m).map Lh∨(QW ns).map (·.name)=(List.range m).map Lh++[[122]]):=by
 obtain⟨m,hm,h⟩:=D7 (ns:=ns) 12 0 [⟨[109],0,0,0⟩] [0] rfl (by decide)
 refine⟨m,hm,?_⟩
 rw[QW]
 generalize(Yb ns 12 0 [⟨[109],0,0,0⟩] [0])=r at *
 show(YL r.1 r.2).map _=_∨(YL r.1 r.2).map _=_
 unfold YL
 split
 ·right
  rw[List.map_append,F3,h];rfl
 ·left;exact h
theorem NQ:∀m,m≤13→((List.range m).map Lh).Nodup∧((List.range m).map Lh++[[122]]).Nodup:=by decide
theorem Cn{fs:List Fd}(h:(fs.map (·.name)).Nodup){i k:Nat}(hi:i<fs.length)(hk:k<i):(fs.getD k default).name≠(fs.getD i default).name:=by
 intro e
 have hkl:k<fs.length:=by omega
 have:=List.pairwise_iff_getElem.1 h k i (by rw[List.length_map];exact hkl) (by rw[List.length_map];exact hi) hk
 apply this
 simp only[List.getElem_map]
 simp only[List.getD_eq_getElem?_getD,List.getElem?_eq_getElem hkl,List.getElem?_eq_getElem hi,Option.getD_some]at e
 exact e
theorem Ru(s t:List UInt8):eqb s t=decide (s=t):=by
 letI:Syms:=⟨fun _=>.int .i64 0,fun _=>⟨rfl,rfl⟩,fun _=>⟨_,rfl⟩⟩
 exact Fl s t
theorem GL{fs:List Fd}:∀n i,(∀j,i≤j→j<i+n→YG fs (Qf fs) j ((X0 fs).getD j 0)=0)→Za fs i n=0
 |0,_,_=>rfl
 |n+1,i,h=>by
  have h0:=h i (Nat.le_refl _) (by omega)
  rw[Za,if_neg (fun x=>x h0)]
  exact GL n (i+1) fun j h1 h2=>h j (by omega) (by omega)
theorem Oo{f:Fd}(h:FOk f):Yd f.name=true:=by
 have hne:f.name≠[]:=fun e=>by have:=h.name;rw[e]at this;cases this
 rw[←NS ⟨hne,.inl h.sign⟩]
 exact h.name
theorem Fo.kids{d k:Nat}{l:List Fd}(h:Fo d k l):∀f∈l,(f.kind=0→1≤f.kids)∧(f.kind≠0→f.kids=0):=by
 induction h with
 |nil=>intro f hf;cases hf
 |leaf hd hf hk h0 h ih=>
  intro g hg
  rcases List.mem_cons.1 hg with rfl|hg
  ·exact⟨fun h=>absurd h hk,fun _=>h0⟩
  ·exact ih g hg
 |group hd hf hk hm hp h1 h2 ih1 ih2=>
  intro g hg
  rcases List.mem_cons.1 hg with rfl|hg
  ·exact⟨fun _=>by omega,fun h=>absurd hk h⟩
  ·rcases List.mem_append.1 hg with hg|hg
   ·exact ih1 g hg
   ·exact ih2 g hg
theorem MW(ns:List Int):QZ (QW ns)=0:=by
 obtain⟨f,l,k,hs,hf,hk,hr,hm,hp,h⟩:=I5 ns
 have hl:=KT ns
 obtain⟨m,hm13,hnm⟩:=EN ns
 have hnd:((QW ns).map (·.name)).Nodup:=by
  obtain⟨h1,h2⟩:=NQ m hm13
  rcases hnm with e|e
  ·rw[e];exact h1
  ·rw[e];exact h2
 clear hnm
 have hT:Fo 0 1 (f::l):=by
  have:=Fo.group (d:=0) (k:=0) (by decide) hf hk hm hp h .nil
  rwa [List.append_nil]at this
 rw[hs]at hl hnd ⊢
 obtain⟨rows,st2,h1,h2,h3,h4⟩:=Rn h 1 0 k [] [(0,(k:Int))] [] (Int.le_refl _) (Int.le_refl _) rfl rfl
 rw[List.append_nil]at h1 h3
 rw[MM (by omega)]at h4
 have hw:Xb (f::l) 0 []=(-1,0)::rows:=by
  rw[Xb]
  show(-1,0)::Xb l 1 (Zm 0 f [])=_
  rw[Zm,if_pos hk,hm]
  show(-1,0)::Xb l 1 [(0,(k:Int))]=_
  rw[h1];simp[Xb]
 have hfin:Yl (f::l) 0 []=st2:=by
  rw[Yl]
  show Yl l 1 (Zm 0 f [])=_
  rw[Zm,if_pos hk,hm]
  show Yl l 1 [(0,(k:Int))]=_
  rw[h3];rfl
 have hrl:rows.length=l.length:=by
  have:=Yo (f::l) 0 []
  rw[hw]at this
  simpa using this
 have hat:∀i,i<(f::l).length→(f::l).getD i default∈f::l:=fun i hi=>by rw[List.getD_eq_getElem?_getD,List.getElem?_eq_getElem hi];exact List.getElem_mem _
 unfold QZ
 rw[if_neg (by simp at hl ⊢;omega)]
 have hz:Za (f::l) 0 (f::l).length=0:=by
  refine GL _ _ fun j _ hj=>?_
  rw[Nat.zero_add]at hj
  have hfo:=hT.all _ (hat j hj)
  have hkd:=hT.kids _ (hat j hj)
  have htw:WF (f::l) (Qf (f::l)) j=false:=by
   unfold WF
   rw[List.any_eq_false]
   intro q hq
   have hq:=List.mem_range.1 hq
   have hne:=Cn hnd hj hq
   unfold Xu
   rw[Ru,decide_eq_false hne]
   simp
  have hpd:(0<j→0≤(Qf (f::l)).getD j 0)∧(X0 (f::l)).getD j 0≤8:=by
   rw[Qf,X0,hw]
   cases j with
   |zero=>exact⟨fun h=>absurd h (by decide),show(0:Int)≤8 by decide⟩
   |succ j=>
    have hjr:j<rows.length:=by rw[hrl];simpa using hj
    have hmem:rows[j]∈rows:=List.getElem_mem _
    have:=h2 _ hmem
    simp only[List.map_cons,List.getD_cons_succ]
    simp only[List.getD_eq_getElem?_getD,List.getElem?_map,List.getElem?_eq_getElem hjr,Option.map_some,Option.getD_some]
    exact⟨fun _=>this.1,this.2⟩
  have h0:j=0→((f::l).getD j default).rep=0∧((f::l).getD j default).kind=0:=fun e=>by subst e;exact⟨hr,hk⟩
  unfold YG
  rw[htw,Oo hfo]
  have hR:=hfo.rep
  have hK:=hfo.kind
  generalize(f::l).getD j default=F at *
  unfold Bs
  rw[if_neg (by omega),if_neg (by omega),if_neg (by simp),if_neg (by omega),if_neg (by omega),if_neg (by omega)]
 rw[hz,if_neg (fun h=>h rfl),hfin,Cc h4]
 rfl
theorem Fr(fs:List Fd):∀(n i:Nat),Za fs i n=0→ ∀j,i≤j→j<i+n→YG fs (Qf fs) j ((X0 fs).getD j 0)=0
 |0,i,_,j,h1,h2=>by omega
 |n+1,i,h,j,h1,h2=>by
  rw[Za]at h
  split at h
  ·rename_i hne;exact absurd h hne
  ·rename_i he
   rcases Nat.lt_or_ge i j with h3|h3
   ·exact Fr fs n (i+1) h j (by omega) (by omega)
   ·obtain rfl:j=i:=by omega
    exact Decidable.not_not.1 he
theorem RG{f:Fd}{i:Nat}{par dep:Int}{nm tw:Bool}(h:Bs f i par dep nm tw=0):nm=true∧(0≤f.rep∧f.rep≤2)∧(0≤f.kind∧f.kind≤4)∧0≤f.kids:=by
 unfold Bs at h
 split at h
 ·cases h
 split at h
 ·cases h
 split at h
 ·cases h
 rename_i h1
 split at h
 ·cases h
 rename_i h2
 split at h
 ·cases h
 split at h
 ·cases h
 rename_i h3
 refine⟨?_,?_,?_,?_⟩
 ·cases nm
  ·exact absurd (.inl rfl) h1
  ·rfl
 ·omega
 ·omega
 ·by_cases hk:f.kind=0<;>omega
theorem Bc(ns:List Int):∀f∈QW ns,SbOk f:=by
 have hc:=MW ns
 have hl:=KT ns
 have hfrom:Za (QW ns) 0 (QW ns).length=0:=by
  unfold QZ at hc
  split at hc
  ·cases hc
  ·split at hc
   ·rename_i h;exact absurd hc h
   ·rename_i h;exact Decidable.not_not.1 h
 intro f hf
 obtain⟨i,hi,rfl⟩:=List.mem_iff_getElem.1 hf
 have:=Fr _ _ 0 hfrom i (Nat.zero_le _) (by omega)
 have hge:(QW ns).getD i default=(QW ns)[i]:=by rw[List.getD_eq_getElem?_getD,List.getElem?_eq_getElem hi];rfl
 have hk:=Dn ns i
 unfold YG at this
 rw[hge]at this hk
 obtain⟨h1,h2,h3,h4⟩:=RG this
 have hn:(QW ns)[i].name.length≤12:=by
  unfold Yd at h1
  simp only[Bool.and_eq_true,decide_eq_true_eq]at h1
  exact h1.1.1.2
 exact⟨⟨h2.1,by omega⟩,⟨h3.1,by omega⟩,⟨h4,by omega⟩,hn⟩
theorem Kz(n:Nat):(XI n).length≤10:=C9 9 n
theorem Nj{f:Fd}(h:SbOk f):(FU f).length≤34:=by
 have h1:=Kz f.kids.toNat
 have h2:=Kz f.name.length
 have h3:=h.name
 simp only[FU,List.length_append,XH];omega
theorem HF:∀{l:List Fd},(∀f∈l,SbOk f)→(sbL l).length≤34*l.length
 |[],_=>by simp[sbL]
 |f::l,h=>by
  have h1:=Nj (h f (List.mem_cons_self ..))
  have h2:=HF (l:=l) fun g hg=>h g (List.mem_cons_of_mem _ hg)
  rw[sbL,List.length_append,List.length_cons];omega
theorem Cq(ns:List Int):(sbF (QW ns)).length≤600:=by
 have h1:=HF (Bc ns)
 have h2:=KT ns
 have h3:=Kz (QW ns).length
 rw[sbF,List.length_append];omega
theorem u32R(x:Int):JC (wr .u32 x):=by
 unfold JC wr
 split
 ·rename_i h
  have h1:(0:Int)≤x:=h.1
  have h2:x≤(4294967295:Int):=h.2
  omega
 ·show(0:Int)≤(if(false&&decide (x%(2^32:Int)≥(2^31:Int)))=true then x%(2^32:Int)-(2^32:Int)else x%(2^32:Int))∧(if(false&&decide (x%(2^32:Int)≥(2^31:Int)))=true then x%(2^32:Int)-(2^32:Int)else x%(2^32:Int))<4294967296
  simp;omega
theorem i32R(x:Int):-2147483648≤wr .i32 x∧wr .i32 x≤2147483647:=by
 unfold wr
 split
 ·rename_i h
  have h1:(-2147483648:Int)≤x:=h.1
  have h2:x≤(2147483647:Int):=h.2
  omega
 ·show(-2147483648:Int)≤(if(true&&decide (x%(2^32:Int)≥(2^31:Int)))=true then x%(2^32:Int)-(2^32:Int)else x%(2^32:Int))∧(if(true&&decide (x%(2^32:Int)≥(2^31:Int)))=true then x%(2^32:Int)-(2^32:Int)else x%(2^32:Int))≤(2147483647:Int)
  split<;>rename_i h3<;>simp at h3<;>omega
theorem Q09(g:Int){r:Int}(h:1≤r∧r≤20):PgG (pgM g r):=by
 have h9:=Yp (a:=g) (n:=9) (by decide)
 have h2:=Yp (a:=g) (n:=2) (by decide)
 have h3:=Yp (a:=dv g 2) (n:=300) (by decide)
 have h4:=Yp (a:=dv g 5) (n:=300) (by decide)
 have h5:=Yp (a:=dv g 9) (n:=3000) (by decide)
 exact⟨⟨by show 0≤r;omega,by show r≤_;omega⟩,⟨by show 0≤r+wi g 9;omega,by show r+wi g 9≤_;omega⟩,⟨h2.1,by show wi g 2≤_;omega⟩,⟨h3.1,by show wi (dv g 2) 300≤_;omega⟩,⟨h4.1,by show wi (dv g 5) 300≤_;omega⟩,⟨h5.1,by show wi (dv g 9) 3000≤_;omega⟩,u32R _⟩
theorem K9(g:Int):∀(f:Nat) (left:Int),∀p∈ZX g f left,∃r,(1≤r∧r≤20)∧p=pgM g r
 |0,_,p,h=>nomatch h
 |f+1,left,p,h=>by
  rw[ZX]at h
  split at h
  ·rename_i hl
   have:=GZ (g:=g) hl
   rcases List.mem_cons.1 h with rfl|h
   ·exact⟨_,⟨this.1,this.2.2⟩,rfl⟩
   ·exact K9 g f _ p h
  ·exact nomatch h
theorem Gv(g:Int):∀(f:Nat) (left:Int),0≤left→left≤f→X4 (·.rows) (ZX g f left)=left∧left≤X4 (·.cells) (ZX g f left)
 |0,left,h1,h2=>by
  have:left=0:=by omega
  subst this;exact⟨rfl,Int.le_refl _⟩
 |f+1,left,h1,h2=>by
  by_cases hl:0<left
  ·have hs:=GZ (g:=g) hl
   obtain⟨i1,i2⟩:=Gv g f (left-YF g left) (by omega) (by omega)
   have h9:=Yp (a:=g) (n:=9) (by decide)
   rw[V1 hl]
   refine⟨?_,?_⟩
   ·show YF g left+X4 (·.rows) _=left
    rw[i1];omega
   ·show left≤YF g left+wi g 9+X4 (·.cells) _
    omega
  ·have:left=0:=by omega
   subst this
   rw[MP hl];exact⟨rfl,Int.le_refl _⟩
theorem GY(f:Pg→Int)(h:∀p,f (d2 p)=f p):∀l:List Pg,X4 f (l.map d2)=X4 f l
 |[]=>rfl
 |p::l=>by show f (d2 p)+X4 f (l.map d2)=_;rw[h,GY f h l];rfl
theorem d2_g{p:Pg}(h:PgG p):PgG (d2 p):=⟨h.n1,h.n2,⟨by show(0:Int)≤2;decide,by show(2:Int)≤1048576;decide⟩,h.n4,h.n5,h.n6,h.crc⟩
structure CkM(g:Int)(c:Ck):Prop where
 n1:0≤c.words∧c.words≤256
 n2:0≤c.size∧c.size≤9000
 crc:JC c.crc
 len:c.pages.length≤40
 pages:∀p∈c.pages,PgG p∧0<p.rows
 rows:X4 (·.rows) c.pages=nM g
 cells:nM g≤X4 (·.cells) c.pages
 dict:(∀p∈c.pages,p.enc=2)∨c.words=0∧c.size=0
theorem OR(g:Int)(k:Nat):CkM g (Wl g k)∧(Wl g k).st=default:=by
 have hn:=US g
 have hr:=Gv g 40 (nM g) (by omega) (by omega)
 have hm:=K9 g 40 (nM g)
 have hl:=WL g 40 (nM g)
 have h1:=Yp (a:=g) (n:=257) (by decide)
 have h2:=Yp (a:=dv g 13) (n:=9000) (by decide)
 have hg:∀p∈ZX g 40 (nM g),PgG p∧0<p.rows:=fun p hp=>by
  obtain⟨r,h,rfl⟩:=hm p hp
  exact⟨Q09 g h,show 0<r by omega⟩
 unfold Wl
 split
 ·refine⟨⟨⟨h1.1,by show wi g 257≤_;omega⟩,⟨h2.1,by show wi (dv g 13) 9000≤_;omega⟩,u32R _,by rw[List.length_map];exact hl,fun p hp=>?_,(GY (·.rows) (fun _=>rfl) _).trans hr.1,?_,.inl fun p hp=>?_⟩,rfl⟩
  ·obtain⟨q,hq,rfl⟩:=List.mem_map.1 hp
   exact⟨d2_g (hg q hq).1,(hg q hq).2⟩
  ·show nM g≤X4 (·.cells) ((ZX g 40 (nM g)).map d2)
   rw[GY (·.cells) (fun _=>rfl)];exact hr.2
  ·obtain⟨q,hq,rfl⟩:=List.mem_map.1 hp;rfl
 ·exact⟨⟨⟨Int.le_refl _,by show(0:Int)≤256;decide⟩,⟨Int.le_refl _,by show(0:Int)≤9000;decide⟩,⟨Int.le_refl _,by show(0:Int)<4294967296;decide⟩,hl,hg,hr.1,hr.2,.inr ⟨rfl,rfl⟩⟩,rfl⟩
theorem Rj(k:Int){v:Vl}(h:I64 v.n):VlG k (ZQ k v):=by
 unfold ZQ VlG
 split
 ·rename_i h1
  have:=Yp (a:=v.n) (n:=2) (by decide)
  exact .inl ⟨h1,by show wi v.n 2=0∨wi v.n 2=1;omega,rfl⟩
 ·split
  ·rename_i h1 h2;exact .inr (.inl ⟨h2,i32R _,rfl⟩)
  ·split
   ·rename_i h1 h2 h3;exact .inr (.inr (.inl ⟨h3,h,rfl⟩))
   ·rename_i h1 h2 h3;exact .inr (.inr (.inr ⟨⟨h1,h2,h3⟩,rfl,by show(v.s.take 100).length≤100;rw[List.length_take];omega⟩))
structure CkN(g kd:Int)(c:Ck):Prop where
 m:CkM g c
 st:c.st=default∨c.known=true∧(0≤c.st.nulls∧c.st.nulls≤nM g)∧c.st.has=true∧c.st.mn=c.st.mx∧VlG kd c.st.mn
theorem OQ(g:Int)(k:Nat)(kd:Int){l:List Vl}(hl:∀v∈l,I64 v.n)(a:Nat):CkN g kd (ZF g k kd l a).1:=by
 have h0:=OR g k
 have hn:=US g
 unfold ZF
 split
 ·rename_i h
  have hw:=Yp (a:=g) (n:=nM g+1) (by omega)
  refine⟨⟨h0.1.n1,h0.1.n2,h0.1.crc,h0.1.len,h0.1.pages,h0.1.rows,h0.1.cells,h0.1.dict⟩,.inr ⟨h.1,⟨hw.1,by show wi g (nM g+1)≤_;omega⟩,rfl,rfl,?_⟩⟩
  refine Rj kd ?_
  have hm:=Nat.mod_lt a h.2
  rw[List.getD_eq_getElem?_getD,List.getElem?_eq_getElem hm]
  exact hl _ (List.getElem_mem hm)
 ·exact⟨h0.1,.inl h0.2⟩
theorem G9(g:Int){l:List Vl}(hl:∀v∈l,I64 v.n):∀(ks:List Int) (k a i:Nat),i<ks.length→CkN g (ks.getD i 0) ((Z7 g l ks k a).1.getD i default)
 |[],k,a,i,h=>by simp at h
 |kd::ks,k,a,0,_=>OQ g k kd hl a
 |kd::ks,k,a,i+1,h=>G9 g hl ks (k+1) _ i (by simpa using h)
theorem V4(ks:List Int)(l:List Vl):∀(gs:List Int) (a:Nat),∀r∈(Zf ks l gs a).1,∃g a',r=⟨nM g,(Z7 g l ks 0 a').1⟩
 |[],a,r,h=>nomatch h
 |g::gs,a,r,h=>by
  rw[Zf]at h
  rcases List.mem_cons.1 h with rfl|h
  ·exact⟨g,a,rfl⟩
  ·exact V4 ks l gs _ r h
theorem Uj(ks:List Int)(l:List Vl):∀(gs:List Int) (a:Nat),(Zf ks l gs a).1.length=gs.length
 |[],a=>rfl
 |g::gs,a=>by rw[Zf,List.length_cons,Uj ks l gs,List.length_cons]
theorem Ui(ks:List Int)(l:List Vl):∀(gs:List Int) (a:Nat),(gs.length:Int)≤Zd (Zf ks l gs a).1∧Zd (Zf ks l gs a).1≤40*(gs.length:Int)
 |[],a=>⟨Int.le_refl 0,Int.le_refl 0⟩
 |g::gs,a=>by
  have ih:=Ui ks l gs (Z7 g l ks 0 a).2
  have:=US g
  rw[Zf,List.length_cons]
  show _≤nM g+Zd _∧nM g+Zd _≤_
  omega
theorem CkN.g{g kd:Int}{c:Ck}(h:CkN g kd c):CkG kd c:=by
 have hn:=US g
 obtain⟨hm,hs⟩:=h
 refine⟨⟨hm.n1.1,by have:=hm.n1.2;omega⟩,⟨hm.n2.1,by have:=hm.n2.2;omega⟩,hm.crc,by have:=hm.len;omega,fun p hp=>(hm.pages p hp).1,fun hk=>?_,fun hk=>?_,fun hk hh=>?_,fun hk hh=>?_⟩
 ·rcases hs with h|⟨h,_⟩
  ·exact h
  ·rw[hk]at h;cases h
 ·rcases hs with h|⟨_,h,_⟩
  ·rw[h];exact⟨Int.le_refl _,by show(0:Int)≤1048576;decide⟩
  ·exact⟨h.1,by omega⟩
 ·rcases hs with h|⟨_,_,h,_⟩
  ·rw[h];exact⟨rfl,rfl⟩
  ·rw[hh]at h;cases h
 ·rcases hs with h|⟨_,_,_,h1,h2⟩
  ·rw[h]at hh;cases hh
  ·exact⟨h2,h1▸h2⟩
theorem Ur:∀s:List UInt8,Op.bytesLess s s=false
 |[]=>rfl
 |a::s=>by
  have:=Ur s
  unfold Op.bytesLess
  simp[this]
theorem DD(kd:Int)(v:Vl):0≤UN kd v v:=by
 unfold UN
 split
 ·unfold U4
  rw[Ur,J6];decide
 ·unfold U3
  rw[if_neg (Int.lt_irrefl _),if_neg (Int.lt_irrefl _)];decide
theorem CkN.w{g kd:Int}{c:Ck}(h:CkN g kd c):Zg kd (nM g) c=true:=by
 obtain⟨hm,hs⟩:=h
 have hn:=US g
 have h1:c.pages.all (fun p=>decide (p.rows≠0))=true:=List.all_eq_true.2 fun p hp=>decide_eq_true (by have:=(hm.pages p hp).2;omega)
 have h2:(c.pages.all (fun p=>decide (p.enc=2))||decide (c.words=0∧c.size=0))=true:=by
  rcases hm.dict with h|h
  ·rw[List.all_eq_true.2 fun p hp=>decide_eq_true (h p hp)];rfl
  ·rw[decide_eq_true h,Bool.or_true]
 have h3:(decide (c.st.nulls≤X4 (·.cells) c.pages)&&decide (0≤UN kd c.st.mx c.st.mn))=true:=by
  have hc:=hm.cells
  rcases hs with h|⟨_,h,_,h4,_⟩
  ·rw[h,decide_eq_true (show(default:Sta).nulls≤_ from by show(0:Int)≤_;omega),decide_eq_true (show 0≤UN kd (default:Sta).mx (default:Sta).mn from DD kd _)];rfl
  ·rw[h4,decide_eq_true (by omega),decide_eq_true (DD kd _)];rfl
 unfold Zg
 rw[h1,h2,h3,decide_eq_true hm.rows,decide_eq_true hm.n1.2]
 simp
theorem Mm(n:Int):∀(ks:List Int) (cs:List Ck),(∀i,i<ks.length→i<cs.length→Zg (ks.getD i 0) n (cs.getD i default)=true)→Zn n ks cs=true
 |[],[],_=>rfl
 |[],_::_,_=>rfl
 |_::_,[],_=>rfl
 |k::ks,c::cs,h=>by
  have h0:=h 0 (by simp) (by simp)
  rw[Zn,show Zg k n c=true from h0,Mm n ks cs fun i h1 h2=>h (i+1) (by simpa using h1) (by simpa using h2)];rfl
theorem Rb(ns gs:List Int){l:List Vl}(hl:∀v∈l,I64 v.n):Zz (KU ns gs l)=true:=by
 have hs:=Ui (QR (QW ns)) l (gs.take 4) 0
 have h4:(gs.take 4).length≤4:=by rw[List.length_take];omega
 show(((Zf (QR (QW ns)) l (gs.take 4) 0).1.all fun g=>decide (g.n≠0)&&Zn g.n (QR (QW ns)) g.chunks)&&decide (Zd (Zf (QR (QW ns)) l (gs.take 4) 0).1=Zd (Zf (QR (QW ns)) l (gs.take 4) 0).1∧Zd (Zf (QR (QW ns)) l (gs.take 4) 0).1≤200))=true
 rw[decide_eq_true ⟨rfl,by omega⟩,Bool.and_true]
 refine List.all_eq_true.2 fun r hr=>?_
 obtain⟨g,a,rfl⟩:=V4 _ _ _ _ r hr
 have hn:=US g
 rw[decide_eq_true (show nM g≠0 by omega),Mm (nM g) _ (Z7 g l (QR (QW ns)) 0 a).1 fun i h1 h2=>(G9 g hl _ 0 a i h1).w]
 rfl
theorem Bd(ns gs:List Int){l:List Vl}(hl:∀v∈l,I64 v.n):MtG (KU ns gs l):=by
 have hs:=Ui (QR (QW ns)) l (gs.take 4) 0
 have h4:(gs.take 4).length≤4:=by rw[List.length_take];omega
 refine⟨Bc ns,by have:=KT ns;show(QW ns).length≤40;omega,MW ns,by have:=Cq ns;show(sbF (QW ns)).length≤2000;omega,⟨by show 0≤Zd (Zf (QR (QW ns)) l (gs.take 4) 0).1;omega,by show Zd (Zf (QR (QW ns)) l (gs.take 4) 0).1≤_;omega⟩,by show(Zf (QR (QW ns)) l (gs.take 4) 0).1.length≤200;rw[Uj];omega,fun r hr=>?_⟩
 obtain⟨g,a,rfl⟩:=V4 _ _ _ _ r hr
 have hn:=US g
 exact⟨⟨by show 0≤nM g;omega,by show nM g≤_;omega⟩,Up ..,fun i hi=>(G9 g hl _ 0 a i (by rw[Up]at hi;exact hi)).g⟩
theorem XT{x:Int}(h:Wc x):Wb x:=⟨h.1,Int.lt_of_le_of_lt h.2 (by show(1048576:Int)<128^9;decide)⟩
theorem Rc(ns gs:List Int){l:List Vl}(hl:∀v∈l,I64 v.n):MtB (KU ns gs l):=by
 have hg:=Bd ns gs hl
 have h4:(gs.take 4).length≤4:=by rw[List.length_take];omega
 refine⟨I4 ns,fun f hf=>by
  obtain⟨h1,h2,h3,h4⟩:=Bc ns f hf
  exact⟨⟨h1.1,by omega⟩,⟨h2.1,by omega⟩,h3.1,by omega⟩,XT hg.n,by have:=hg.len;omega,fun r hr=>?_⟩
 have hr2:=hg.groups r hr
 refine⟨XT hr2.n,?_,fun c hc=>?_⟩
 ·rw[hr2.len];exact Nat.le_of_eq (List.length_map ..)
 ·obtain⟨i,hi,rfl⟩:=List.mem_iff_getElem.1 hc
  have h:=hr2.chunks i hi
  rw[show r.chunks.getD i default=r.chunks[i] from by rw[List.getD_eq_getElem?_getD,List.getElem?_eq_getElem hi];rfl]at h
  refine⟨XT h.n1,XT h.n2,h.crc,?_,fun p hp=>?_,by have:=h.len;omega⟩
  ·cases hk:r.chunks[i].known with
   |false=>rw[h.st0 hk];exact⟨Int.le_refl _,by show(0:Int)<128^9;decide⟩
   |true=>exact XT (h.nulls hk)
  ·have:=h.pages p hp
   exact⟨XT this.n1,XT this.n2,XT this.n3,XT this.n4,XT this.n5,XT this.n6,this.crc⟩
theorem Wt:∀l:List Int,(nuB l).length≤10*l.length
 |[]=>Nat.le_refl _
 |x::l=>by
  have h1:=Kz x.toNat
  have h2:=Wt l
  rw[nuB,List.length_append,List.length_cons];omega
theorem Ch:∀l:List Pg,(Y6 l).length≤64*l.length
 |[]=>Nat.le_refl _
 |p::l=>by
  have h1:=Wt [p.rows,p.cells,p.enc,p.rlen,p.dlen,p.vlen]
  have h2:=Ch l
  rw[Y6,pgB,List.length_append,List.length_append,XH,List.length_cons]
  simp only[List.length_cons,List.length_nil]at h1
  omega
theorem Hx{k:Int}{v:Vl}(h:v.s.length≤100):(vlB k v).length≤110:=by
 unfold vlB
 split
 ·simp
 ·split
  ·rw[XH];omega
  ·split
   ·rw[XH];omega
   ·have h1:=Wt [(v.s.length:Int)]
    rw[List.length_append]
    simp only[List.length_cons,List.length_nil]at h1
    omega
theorem Hw{k:Int}{v:Vl}(h:VlG k v):v.s.length≤100:=by
 rcases h with⟨_,_,h⟩|⟨_,_,h⟩|⟨_,_,h⟩|⟨_,_,h⟩
 ·rw[h];simp
 ·rw[h];simp
 ·rw[h];simp
 ·exact h
theorem Ie(b:Bool):(flB b).length=1:=rfl
theorem CW:∀(ks:List Int) (cs:List Ck),(∀i,i<ks.length→i<cs.length→(ckB (ks.getD i 0) (cs.getD i default)).length≤2836)→(YM ks cs).length≤2836*cs.length
 |[],[],_=>Nat.le_refl _
 |[],_::_,_=>Nat.zero_le _
 |_::_,[],_=>Nat.le_refl _
 |k::ks,c::cs,h=>by
  have h0:=h 0 (by simp) (by simp)
  have h1:=CW ks cs fun i h1 h2=>h (i+1) (by simpa using h1) (by simpa using h2)
  have h0:(ckB k c).length≤2836:=h0
  rw[YM,List.length_append,List.length_cons];omega
theorem BZ(ks:List Int)(n:Nat):∀l:List Rw,(∀r∈l,(rwB ks r).length≤n)→(XP ks l).length≤n*l.length
 |[],_=>Nat.zero_le _
 |r::l,h=>by
  have h0:=h r (List.mem_cons_self ..)
  have h1:=BZ ks n l fun q hq=>h q (List.mem_cons_of_mem _ hq)
  rw[XP,List.length_append,List.length_cons,Nat.mul_add,Nat.mul_one];omega
end Go.Proofs.Ytajieadpaeggcaa
