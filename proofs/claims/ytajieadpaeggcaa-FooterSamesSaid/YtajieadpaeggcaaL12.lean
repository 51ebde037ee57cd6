/-
  Files' descriptions made of raw numbers:states,and how one is read as another one.
-/
import Derived.Test.YtajieadpaeggcaaL10
import Derived.Test.YtajieadpaeggcaaL11
set_option linter.unusedVariables false
set_option linter.unusedSimpArgs false
namespace Go.Proofs.Ytajieadpaeggcaa
open Go Go.Av
section
set_option maxRecDepth 100000
set_option maxHeartbeats 4000000
def Qx{α:Type}(n sz:Nat)(l:List α):AVal:=match l with
 |[]=>.nils
 |a::t=>.slice n 0 (a::t).length sz none
def Zb{α:Type}(enc:α→List AVal)(l:List α):Option Blk:=match l with
 |[]=>none
 |a::t=>some (.cells ((a::t).map enc) false)
theorem Mj{α:Type}(n sz:Nat){l:List α}(h:0<l.length):Qx n sz l= .slice n 0 l.length sz none:=by
 cases l with
 |nil=>cases h
 |cons a t=>rfl
theorem Ky{α:Type}(enc:α→List AVal){l:List α}(h:0<l.length):Zb enc l=some (.cells (l.map enc) false):=by
 cases l with
 |nil=>cases h
 |cons a t=>rfl
theorem Qi{α:Type}{ρ:Nat→Nat}{n sz:Nat}{l:List α}(h:ρ n=n):WkV (Qx n sz l) ((Qx n sz l).ren ρ):=by
 cases l with
 |nil=>exact .refl _
 |cons a t=>simp only[Qx,AVal.ren,h];exact .refl _
theorem ZE{α:Type}{ρ:Nat→Nat}{n K sz len:Nat}{cap:Option Nat}{l:List α}(h:ρ n=K)(hl:len=l.length)(h0:0<l.length):WkV (.slice K 0 len sz cap) ((Qx n sz l).ren ρ):=by
 rw[Mj n sz h0]
 subst hl h
 exact .cap _ _ _ _ _
theorem Ea{ρ:Nat→Nat}{n m:Nat}{H t:Heap}{ob:Option Blk}(hb:∀b,ob=some b→m<n∧ ∃b0,H.get (ρ m)=some b0∧WkB b0 (b.ren ρ))(ht:ZI ρ n H t):ZI ρ n H ((m,ob)::t):=by
 cases ob with
 |none=>exact ht
 |some b=>exact⟨hb b rfl,ht⟩
theorem Xx{α:Type}{ρ:Nat→Nat}{n m:Nat}{H t:Heap}{enc:α→List AVal}{l:List α}(hf:Qj (l.map enc))(hm:m<n)(h:H.get (ρ m)=Zb enc l)(ht:ZI ρ n H t):ZI ρ n H ((m,Zb enc l)::t):=by
 refine Ea (fun b hb=>⟨hm,b,h.trans hb,?_⟩) ht
 cases l with
 |nil=>cases hb
 |cons a q=>cases hb;exact Qd hf
theorem YS{α:Type}{ρ:Nat→Nat}{n m:Nat}{H t:Heap}{enc:α→List AVal}{l:List α}{rows:List (List AVal)}(hf:Qj (l.map enc))(hm:m<n)(h:H.get (ρ m)=some (.cells rows false))(hr:rows=l.map enc)(h0:0<l.length)(ht:ZI ρ n H t):ZI ρ n H ((m,Zb enc l)::t):=by
 subst hr
 rw[Ky enc h0]
 exact⟨⟨hm,_,h,Qd hf⟩,ht⟩
theorem Hf[Syms]{na N:Nat}{e:Env}{H:Heap}{nx nx':Nat}(h:nx≤nx'):Reb na N ⟨e,H,nx⟩ ⟨e,H,nx'⟩:=
 ⟨fun x=>Nat.le_trans x h,fun ι a w hS=>⟨ι,⟨hS.defers,hS.size,hS.env,hS.heap,fun n L hn=>⟨Nat.lt_of_lt_of_le (hS.bound n L hn).1 h,(hS.bound n L hn).2⟩⟩,.refl ..⟩⟩
theorem Nm{g:Int}(h:I64 g)(n:Int)(hn:2≤n):-4611686018427387904≤dv g n∧dv g n≤4611686018427387904:=by
 obtain⟨h1,h2⟩:=h
 have key:-4611686018427387904≤g.tdiv n∧g.tdiv n≤4611686018427387904:=by
  rcases Int.le_total 0 g with hg|hg
  ·rw[Int.tdiv_eq_ediv_of_nonneg hg]
   have e2:0≤g/n:=Int.ediv_nonneg hg (by omega)
   have e1:=Int.mul_le_mul_of_nonneg_left hn e2
   have e3:=Int.ediv_mul_le g (show n≠0 by omega)
   generalize g/n*n=z at *
   omega
  ·have hg':0≤ -g:=by omega
   have e0:g.tdiv n= -((-g).tdiv n):=by rw[Int.neg_tdiv];omega
   rw[e0,Int.tdiv_eq_ediv_of_nonneg hg']
   have e2:0≤ -g/n:=Int.ediv_nonneg hg' (by omega)
   have e1:=Int.mul_le_mul_of_nonneg_left hn e2
   have e3:=Int.ediv_mul_le (-g) (show n≠0 by omega)
   generalize -g/n*n=z at *
   omega
 unfold dv
 rw[wrI ⟨by omega,by omega⟩]
 exact key
abbrev cMk:CallT:=Qe 13 (DO G_wi) (Qe 20 (Xw S_make) (Qe 21 (Xw S_leaves) (Qe 22 (Xw S_good) Q9)))
theorem Jz[Syms]:cMk.det Try.prog:=VL BG (Y2 HG (Y2 DZ (Y2 Lr Q5)))
noncomputable def OI:Nat→Nat→Pl:=VZ [(11,1),(11,5),(11,7),(11,10),(11,12),(11,15),(11,23),(11,24)] (QV plt)
def oS(s:List Fd)(gs:List Int)(l:List Vl)(ls:List Lf)(a i:Nat)(N:Int)(rs:List Rw):St:=⟨[(1,vI gs),(2,vV l),(6,.ptr 1 0 0),(7,.ptr 0 0 0),(8,vL ls),(9,.int .i64 a),(10,.int .i64 i)],[(0,some (.cells [QK (vF s) N (Qx 3 2 rs)] false)),(1,some (.cells [QK .nils 0 .nils] false)),(3,Zb encR rs)],7⟩
def gS0(s:List Fd)(gs:List Int)(l:List Vl)(ls:List Lf)(a i:Nat)(g:Int)(rs:List Rw):St:=⟨[(1,vI gs),(2,vV l),(6,.ptr 1 0 0),(7,.ptr 0 0 0),(8,vL ls),(9,.int .i64 a),(10,.int .i64 i),(11,.ptr 2 0 0)],[(0,some (.cells [QK (vF s) (Z5 rs) (Qx 3 2 rs)] false)),(1,some (.cells [QK .nils 0 .nils] false)),(3,Zb encR rs),(2,some (.cells [QI (nM g) .nils] false))],7⟩
def iS(s:List Fd)(gs:List Int)(l:List Vl)(ls:List Lf)(a i:Nat)(g:Int)(rs:List Rw)(k:Nat)(cs:List Ck):St:=⟨[(1,vI gs),(2,vV l),(6,.ptr 1 0 0),(7,.ptr 0 0 0),(8,vL ls),(9,.int .i64 a),(10,.int .i64 i),(11,.ptr 2 0 0),(12,.int .i64 k)],[(0,some (.cells [QK (vF s) (Z5 rs+nM g) (Qx 3 2 rs)] false)),(1,some (.cells [QK .nils 0 .nils] false)),(3,Zb encR rs),(2,some (.cells [QI (nM g) (Qx 5 11 cs)] false)),(5,Zb encC cs)],7⟩
def knM(g:Int)(k:Nat):Bool:=decide (0<wi (dv g 3+k) 3)
def gS1(s:List Fd)(gs:List Int)(l:List Vl)(ls:List Lf)(a i:Nat)(g:Int)(rs:List Rw)(k:Nat)(cs:List Ck):St:=⟨[(1,vI gs),(2,vV l),(6,.ptr 1 0 0),(7,.ptr 0 0 0),(8,vL ls),(9,.int .i64 a),(10,.int .i64 i),(11,.ptr 2 0 0),(12,.int .i64 k),(13,.ptr 4 0 0)],[(0,some (.cells [QK (vF s) (Z5 rs+nM g) (Qx 3 2 rs)] false)),(1,some (.cells [QK .nils 0 .nils] false)),(3,Zb encR rs),(2,some (.cells [QI (nM g) (Qx 5 11 cs)] false)),(5,Zb encC cs),(4,some (.cells [Zq 0 0 0 .nils (knM g k) 0 false] false))],7⟩
def pS(s:List Fd)(gs:List Int)(l:List Vl)(ls:List Lf)(a i:Nat)(g:Int)(rs:List Rw)(k:Nat)(cs:List Ck)(left:Int)(ps:List Pg):St:=⟨[(1,vI gs),(2,vV l),(6,.ptr 1 0 0),(7,.ptr 0 0 0),(8,vL ls),(9,.int .i64 a),(10,.int .i64 i),(11,.ptr 2 0 0),(12,.int .i64 k),(13,.ptr 4 0 0),(14,.int .i64 left)],[(0,some (.cells [QK (vF s) (Z5 rs+nM g) (Qx 3 2 rs)] false)),(1,some (.cells [QK .nils 0 .nils] false)),(3,Zb encR rs),(2,some (.cells [QI (nM g) (Qx 5 11 cs)] false)),(5,Zb encC cs),(4,some (.cells [Zq 0 0 0 (Qx 6 7 ps) (knM g k) 0 false] false)),(6,Zb encP ps)],7⟩
def pR(s:List Fd)(gs:List Int)(l:List Vl)(ls:List Lf)(a i:Nat)(g:Int)(rs:List Rw)(k:Nat)(cs:List Ck)(left:Int)(ps:List Pg):St:=⟨[(1,vI gs),(2,vV l),(6,.ptr 1 0 0),(7,.ptr 0 0 0),(8,vL ls),(9,.int .i64 a),(10,.int .i64 i),(11,.ptr 2 0 0),(12,.int .i64 k),(13,.ptr 4 0 0),(14,.int .i64 left),(15,.int .i64 (Xp g left))],[(0,some (.cells [QK (vF s) (Z5 rs+nM g) (Qx 3 2 rs)] false)),(1,some (.cells [QK .nils 0 .nils] false)),(3,Zb encR rs),(2,some (.cells [QI (nM g) (Qx 5 11 cs)] false)),(5,Zb encC cs),(4,some (.cells [Zq 0 0 0 (Qx 6 7 ps) (knM g k) 0 false] false)),(6,Zb encP ps)],7⟩
theorem Hk{gs:List Int}{i:Nat}{g left:Int}(hge:gs.getD i 0=g):[[AVal.int .i64 (Xp g left),.int .i64 (Xp g left+wi g 9),.int .i64 (wi g 2),.int .i64 (wi (dv g 2) 300),.int .i64 (wi (dv g 5) 300),.int .i64 (wi (dv g 9) 3000),.int .u32 (wr .u32 (wr .u32 (gs.getD i 0)*77))]]=(([]:List Pg)++[pgM g (Xp g left)]).map encP:=by rw[hge];rfl
theorem Hj{gs:List Int}{i:Nat}{g left:Int}{p0:Pg}{pt:List Pg}(hge:gs.getD i 0=g):List.take (p0::pt).length (List.drop 0 ((p0::pt).map encP))++[[AVal.int .i64 (Xp g left),.int .i64 (Xp g left+wi g 9),.int .i64 (wi g 2),.int .i64 (wi (dv g 2) 300),.int .i64 (wi (dv g 5) 300),.int .i64 (wi (dv g 9) 3000),.int .u32 (wr .u32 (wr .u32 (gs.getD i 0)*77))]]=((p0::pt)++[pgM g (Xp g left)]).map encP:=by
 rw[hge,List.drop_zero,List.take_of_length_le (by simp),List.map_append];rfl
def W8(ps:List Pg)(j:Nat):List Pg:=(ps.take j).map d2++ps.drop j
theorem WP(ps:List Pg)(j:Nat):(W8 ps j).length=ps.length:=by simp[W8];omega
theorem Ij{ps:List Pg}{j:Nat}(h:j<ps.length):(W8 ps j).getD j default=ps.getD j default:=by
 have h1:((ps.take j).map d2).length=j:=by simp;omega
 rw[W8,List.getD_eq_getElem?_getD,List.getElem?_append_right (by omega),h1,Nat.sub_self,List.getElem?_drop,Nat.add_zero,List.getD_eq_getElem?_getD]
theorem Bk{ps:List Pg}{j:Nat}(h:j<ps.length):(W8 ps j).set j (d2 (ps.getD j default))=W8 ps (j+1):=by
 have h1:((ps.take j).map d2).length=j:=by simp;omega
 rw[W8,List.set_append_right _ _ (by omega),h1,Nat.sub_self,List.drop_eq_getElem_cons h,List.set_cons_zero,W8,List.take_add_one,List.getElem?_eq_getElem h,List.map_append,List.append_assoc]
 simp[h]
theorem MF(ps:List Pg):W8 ps ps.length=ps.map d2:=by simp[W8]
theorem Ii{ps:List Pg}{j:Nat}(h:j<ps.length):((W8 ps j).map encP).set (0+((j:Nat):Int).toNat) (Qy (((W8 ps j).map encP).getD (0+((j:Nat):Int).toNat) []) (0+2) [.int .i64 2])=(W8 ps (j+1)).map encP:=by
 rw[Nat.zero_add,Int.toNat_natCast,Vi encP default (by rw[WP];exact h),Ij h,←Bk h,List.map_set];rfl
def dS(s:List Fd)(gs:List Int)(l:List Vl)(ls:List Lf)(a i:Nat)(g:Int)(rs:List Rw)(k:Nat)(cs:List Ck)(ps:List Pg)(j:Nat):St:=⟨[(1,vI gs),(2,vV l),(6,.ptr 1 0 0),(7,.ptr 0 0 0),(8,vL ls),(9,.int .i64 a),(10,.int .i64 i),(11,.ptr 2 0 0),(12,.int .i64 k),(13,.ptr 4 0 0),(16,.int .i64 j)],[(0,some (.cells [QK (vF s) (Z5 rs+nM g) (Qx 3 2 rs)] false)),(1,some (.cells [QK .nils 0 .nils] false)),(3,Zb encR rs),(2,some (.cells [QI (nM g) (Qx 5 11 cs)] false)),(5,Zb encC cs),(4,some (.cells [Zq 0 0 0 (.slice 6 0 ps.length 7 none) (knM g k) 0 false] false)),(6,some (.cells ((W8 ps j).map encP) false))],7⟩
def eS(s:List Fd)(gs:List Int)(l:List Vl)(ls:List Lf)(a i:Nat)(g:Int)(rs:List Rw)(k:Nat)(cs:List Ck)(w sz cr:Int)(n:Nat)(ps:List Pg):St:=⟨[(1,vI gs),(2,vV l),(6,.ptr 1 0 0),(7,.ptr 0 0 0),(8,vL ls),(9,.int .i64 a),(10,.int .i64 i),(11,.ptr 2 0 0),(12,.int .i64 k),(13,.ptr 4 0 0)],[(0,some (.cells [QK (vF s) (Z5 rs+nM g) (Qx 3 2 rs)] false)),(1,some (.cells [QK .nils 0 .nils] false)),(3,Zb encR rs),(2,some (.cells [QI (nM g) (Qx 5 11 cs)] false)),(5,Zb encC cs),(4,some (.cells [Zq w sz cr (.slice 6 0 n 7 none) (knM g k) 0 false] false)),(6,some (.cells (ps.map encP) false))],7⟩
def eS2(s:List Fd)(gs:List Int)(l:List Vl)(ls:List Lf)(a i:Nat)(g:Int)(rs:List Rw)(k:Nat)(cs:List Ck)(w sz cr:Int)(ps:List Pg)(b:Bool):St:=⟨[(1,vI gs),(2,vV l),(6,.ptr 1 0 0),(7,.ptr 0 0 0),(8,vL ls),(9,.int .i64 a),(10,.int .i64 i),(11,.ptr 2 0 0),(12,.int .i64 k),(13,.ptr 4 0 0),(166,.bool b)],[(0,some (.cells [QK (vF s) (Z5 rs+nM g) (Qx 3 2 rs)] false)),(1,some (.cells [QK .nils 0 .nils] false)),(3,Zb encR rs),(2,some (.cells [QI (nM g) (Qx 5 11 cs)] false)),(5,Zb encC cs),(4,some (.cells [Zq w sz cr (.slice 6 0 ps.length 7 none) (knM g k) 0 false] false)),(6,some (.cells (ps.map encP) false))],7⟩
def fS(s:List Fd)(gs:List Int)(l:List Vl)(ls:List Lf)(a i:Nat)(g:Int)(rs:List Rw)(k:Nat)(cs:List Ck)(w sz cr:Int)(ps:List Pg)(b:Bool):St:=⟨[(1,vI gs),(2,vV l),(6,.ptr 1 0 0),(7,.ptr 0 0 0),(8,vL ls),(9,.int .i64 a),(10,.int .i64 i),(11,.ptr 2 0 0),(12,.int .i64 k),(13,.ptr 4 0 0),(166,.bool b)],[(0,some (.cells [QK (vF s) (Z5 rs+nM g) (Qx 3 2 rs)] false)),(1,some (.cells [QK .nils 0 .nils] false)),(3,Zb encR rs),(2,some (.cells [QI (nM g) (Qx 5 11 cs)] false)),(5,Zb encC cs),(4,some (.cells [Zq w sz cr (.vs 7 (ps.map encP)) (knM g k) 0 false] false))],7⟩
theorem hfz{n m:Nat}{rows:List (List AVal)}{H t:Heap}{ob:Option Blk}(hm:m≠n)(h:H.get m=ob)(ht:FzH n rows H t):FzH n rows H ((m,ob)::t):=by
 cases ob with
 |none=>exact ht
 |some b=>exact⟨⟨hm,_,h,.same _⟩,ht⟩
theorem MI[Syms]{N:Nat}(s:List Fd)(gs:List Int)(l:List Vl)(ls:List Lf)(a i:Nat)(g:Int)(rs:List Rw)(k:Nat)(cs:List Ck)(w sz cr:Int)(ps:List Pg)(b:Bool)(hp:0<ps.length):Reb 0 N (eS2 s gs l ls a i g rs k cs w sz cr ps b) (fS s gs l ls a i g rs k cs w sz cr ps b):=by
 have hcut:((ps.map encP).drop 0).take ps.length=ps.map encP:=by rw[List.drop_zero,List.take_of_length_le (by simp)]
 have hs:FzV 6 (ps.map encP) (.slice 6 0 ps.length 7 none) (.vs 7 (ps.map encP)):=by
  have:=FzV.sl (n:=6) (rows:=ps.map encP) 0 ps.length 7 none hp (by simp)
  rwa [hcut]at this
 refine ZS (n:=6) (rows:=ps.map encP) rfl (fP ps) ⟨.same _,.same _,.same _,.same _,.same _,.same _,.same _,.same _,.same _,.same _,.same _,trivial⟩ ?_
 refine hfz (by decide) rfl (hfz (by decide) rfl (hfz (by decide) rfl (hfz (by decide) rfl (hfz (by decide) rfl ⟨⟨by decide,_,rfl,.cells [Zq w sz cr (.slice 6 0 ps.length 7 none) (knM g k) 0 false] [Zq w sz cr (.vs 7 (ps.map encP)) (knM g k) 0 false] false rfl (fun j r r' h h'=>?_)⟩,trivial⟩))))
 cases j with
 |zero=>
  cases h;cases h'
  exact⟨.same _,.same _,.same _,hs,.same _,.same _,.same _,.same _,.same _,.same _,.same _,trivial⟩
 |succ j=>simp at h
theorem Vx(g:Int)(l:List Vl)(ks:List Int)(a:Nat):∀k,(ZG g l ks a k).1.length=k
 |0=>rfl
 |k+1=>by rw[ZG,List.length_append,Vx g l ks a k];rfl
abbrev mhd(s:List Fd)(N:Int)(rs:List Rw):List AVal:=QK (vF s) N (Qx 3 2 rs)
theorem Zy[Syms]{N nx:Nat}{e e3:Env}{H rest:Heap}{s:List Fd}{M:Int}{rs:List Rw}{row:List AVal}(q:List Nat)(hl:q.length=7)(h0:q.getD 0 0=0)(h1:q.getD 1 0=1)(h3:q.getD 3 0=3)(hn:Zm 0 nx q=true)(he:Ko (rho q nx) e e3)
 (H0:H.get 0=some (.cells [row] false)) (hrow:∀ρ:Nat→Nat,ρ 3=3→VE row (AVal.renL ρ (mhd s M rs))) (H1:H.get 1=some (.cells [QK .nils 0 .nils] false)) (H3:H.get 3=Zb encR rs) (hr:ZI (rho q nx) 7 H rest):
 Reb 0 N ⟨e,H,nx⟩ ⟨e3,(0,some (.cells [mhd s M rs] false))::(1,some (.cells [QK .nils 0 .nils] false))::(3,Zb encR rs)::rest,7⟩:=by
 have r0:rho q nx 0=0:=by rw[ZP (by omega)];exact h0
 have r1:rho q nx 1=1:=by rw[ZP (by omega)];exact h1
 have r3:rho q nx 3=3:=by rw[ZP (by omega)];exact h3
 have:=Q0 (na:=0) (N:=N) (s:=⟨e,H,nx⟩) (e3:=e3) (H3:=(0,some (.cells [mhd s M rs] false))::(1,some (.cells [QK .nils 0 .nils] false))::(3,Zb encR rs)::rest) q hn he
  ⟨⟨by omega,_,(by show H.get (rho q nx 0)=_;rw[r0];exact H0),Q6 (hrow _ r3)⟩,⟨by omega,_,(by show H.get (rho q nx 1)=_;rw[r1];exact H1),.refl _⟩,Xx (fR rs) (by omega) (by show H.get (rho q nx 3)=_;rw[r3];exact H3) (by rw[hl];exact hr)⟩
 rw[hl]at this
 exact this
theorem Lj[Syms]{N nx K:Nat}{e e3:Env}{H rest:Heap}{s:List Fd}{M:Int}{rs:List Rw}{row:List AVal}{rows:List (List AVal)}(q:List Nat)(hl:q.length=7)(h0:q.getD 0 0=0)(h1:q.getD 1 0=1)(h3:q.getD 3 0=K)(hn:Zm 0 nx q=true)(he:Ko (rho q nx) e e3)
 (H0:H.get 0=some (.cells [row] false)) (hrow:∀ρ:Nat→Nat,ρ 3=K→VE row (AVal.renL ρ (mhd s M rs))) (H1:H.get 1=some (.cells [QK .nils 0 .nils] false)) (H3:H.get K=some (.cells rows false)) (hrs:rows=rs.map encR) (hpos:0<rs.length) (hr:ZI (rho q nx) 7 H rest):
 Reb 0 N ⟨e,H,nx⟩ ⟨e3,(0,some (.cells [mhd s M rs] false))::(1,some (.cells [QK .nils 0 .nils] false))::(3,Zb encR rs)::rest,7⟩:=by
 have r0:rho q nx 0=0:=by rw[ZP (by omega)];exact h0
 have r1:rho q nx 1=1:=by rw[ZP (by omega)];exact h1
 have r3:rho q nx 3=K:=by rw[ZP (by omega)];exact h3
 have:=Q0 (na:=0) (N:=N) (s:=⟨e,H,nx⟩) (e3:=e3) (H3:=(0,some (.cells [mhd s M rs] false))::(1,some (.cells [QK .nils 0 .nils] false))::(3,Zb encR rs)::rest) q hn he
  ⟨⟨by omega,_,(by show H.get (rho q nx 0)=_;rw[r0];exact H0),Q6 (hrow _ r3)⟩,⟨by omega,_,(by show H.get (rho q nx 1)=_;rw[r1];exact H1),.refl _⟩,YS (fR rs) (by omega) (by show H.get (rho q nx 3)=_;rw[r3];exact H3) hrs hpos (by rw[hl];exact hr)⟩
 rw[hl]at this
 exact this
def h1S(s:List Fd)(gs:List Int)(l:List Vl)(ls:List Lf)(a i:Nat)(g:Int)(rs:List Rw)(cs:List Ck):St:=⟨[(1,vI gs),(2,vV l),(6,.ptr 1 0 0),(7,.ptr 0 0 0),(8,vL ls),(9,.int .i64 a),(10,.int .i64 i),(11,.ptr 2 0 0),(50,.bool false)],[(0,some (.cells [QK (vF s) (Z5 rs+nM g) (Qx 3 2 rs)] false)),(1,some (.cells [QK .nils 0 .nils] false)),(3,Zb encR rs),(2,some (.cells [QI (nM g) (Qx 5 11 cs)] false)),(5,Zb encC cs)],7⟩
def hS(s:List Fd)(gs:List Int)(l:List Vl)(ls:List Lf)(a i:Nat)(g:Int)(rs:List Rw)(cs:List Ck):St:=⟨[(1,vI gs),(2,vV l),(6,.ptr 1 0 0),(7,.ptr 0 0 0),(8,vL ls),(9,.int .i64 a),(10,.int .i64 i),(11,.ptr 2 0 0),(50,.bool false)],[(0,some (.cells [QK (vF s) (Z5 rs+nM g) (Qx 3 2 rs)] false)),(1,some (.cells [QK .nils 0 .nils] false)),(3,Zb encR rs),(2,some (.cells [encR ⟨nM g,cs⟩] false))],7⟩
theorem ON[Syms]{N:Nat}(s:List Fd)(gs:List Int)(l:List Vl)(ls:List Lf)(a i:Nat)(g:Int)(rs:List Rw)(cs:List Ck):Reb 0 N (h1S s gs l ls a i g rs cs) (hS s gs l ls a i g rs cs):=by
 cases cs with
 |nil=>exact Zy [0,1,2,3,4,5,6] rfl rfl rfl rfl (by exact rfl) ⟨.refl _,.refl _,.refl _,.refl _,.refl _,.refl _,.refl _,.refl _,.refl _,trivial⟩ rfl (fun ρ hρ=>⟨.refl _,.refl _,Qi hρ,trivial⟩) rfl rfl ⟨⟨by decide,_,rfl,Q6 (row:=encR ⟨nM g,[]⟩) ⟨.refl _,.zero _ _ rfl,trivial⟩⟩,trivial⟩
 |cons c0 ct=>
  have hcut:(((c0::ct).map encC).drop 0).take (c0::ct).length=(c0::ct).map encC:=by rw[List.drop_zero,List.take_of_length_le (by simp)]
  have hs:FzV 5 ((c0::ct).map encC) (.slice 5 0 (c0::ct).length 11 none) (.vs 11 ((c0::ct).map encC)):=by
   have:=FzV.sl (n:=5) (rows:=(c0::ct).map encC) 0 (c0::ct).length 11 none (by simp) (by simp)
   rwa [hcut]at this
  refine ZS (n:=5) (rows:=(c0::ct).map encC) rfl (fC _) ⟨.same _,.same _,.same _,.same _,.same _,.same _,.same _,.same _,.same _,trivial⟩ ?_
  refine hfz (by decide) rfl (hfz (by decide) rfl (hfz (by decide) rfl ⟨⟨by decide,_,rfl,.cells [QI (nM g) (.slice 5 0 (c0::ct).length 11 none)] [encR ⟨nM g,c0::ct⟩] false rfl (fun j r r' h h'=>?_)⟩,trivial⟩))
  cases j with
  |zero=>
   cases h;cases h'
   exact⟨.same _,hs,trivial⟩
  |succ j=>simp at h
theorem NS(ps:List Rw)(p:Rw):List.take ps.length (List.drop 0 (ps.map encR))++[encR p]=(ps++[p]).map encR:=by
 rw[List.drop_zero,List.take_of_length_le (by simp),List.map_append];rfl
def z1S(s:List Fd)(rs:List Rw):St:=⟨[(6,.ptr 1 0 0),(7,.ptr 0 0 0),(31,.bool false)],[(0,some (.cells [QK (vF s) (Z5 rs) (Qx 3 2 rs)] false)),(1,some (.cells [QK .nils 0 .nils] false)),(3,Zb encR rs)],7⟩
def zS(s:List Fd)(rs:List Rw):St:=⟨[(6,.ptr 1 0 0),(7,.ptr 0 0 0),(31,.bool false)],[(0,some (.cells [QK (vF s) (Z5 rs) (.vs 2 (rs.map encR))] false)),(1,some (.cells [QK .nils 0 .nils] false))],7⟩
theorem Pk[Syms]{N:Nat}(s:List Fd)(rs:List Rw):Reb 0 N (z1S s rs) (zS s rs):=by
 cases rs with
 |nil=>exact Q0 [0,1,2,3,4,5,6] (by exact rfl) ⟨.refl _,.refl _,.refl _,trivial⟩ ⟨⟨by decide,_,rfl,Q6 (row:=QK (vF s) 0 (.vs 2 [])) ⟨.refl _,.refl _,.zero _ _ rfl,trivial⟩⟩,⟨by decide,_,rfl,.refl _⟩,trivial⟩
 |cons c0 ct=>
  have hcut:(((c0::ct).map encR).drop 0).take (c0::ct).length=(c0::ct).map encR:=by rw[List.drop_zero,List.take_of_length_le (by simp)]
  have hs:FzV 3 ((c0::ct).map encR) (.slice 3 0 (c0::ct).length 2 none) (.vs 2 ((c0::ct).map encR)):=by
   have:=FzV.sl (n:=3) (rows:=(c0::ct).map encR) 0 (c0::ct).length 2 none (by simp) (by simp)
   rwa [hcut]at this
  refine ZS (n:=3) (rows:=(c0::ct).map encR) rfl (fR _) ⟨.same _,.same _,.same _,trivial⟩ ?_
  refine⟨⟨by decide,_,rfl,.cells [QK (vF s) (Z5 (c0::ct)) (.slice 3 0 (c0::ct).length 2 none)] [QK (vF s) (Z5 (c0::ct)) (.vs 2 ((c0::ct).map encR))] false rfl (fun j r r' h h'=>?_)⟩,hfz (by decide) rfl trivial⟩
  cases j with
  |zero=>
   cases h;cases h'
   exact⟨.same _,.same _,hs,trivial⟩
  |succ j=>simp at h
theorem Gj(ks:List Int)(l:List Vl)(gs:List Int):∀i:Nat,0≤Z5 (Xf ks l gs i).1∧Z5 (Xf ks l gs i).1≤40*(i:Int)
 |0=>⟨Int.le_refl 0,Int.le_refl 0⟩
 |i+1=>by
  have ih:=Gj ks l gs i
  have h1:=U3 (gs.getD i 0)
  have h2:Z5 (Xf ks l gs (i+1)).1=Z5 (Xf ks l gs i).1+nM (gs.getD i 0):=by show Z5 ((Xf ks l gs i).1++[_])=_;simp only[Vg,Z5,Int.add_zero]
  rw[h2];omega
theorem UM(ks:List Int)(l:List Vl)(gs:List Int):∀i:Nat,(Xf ks l gs i).1.length=i
 |0=>rfl
 |i+1=>by rw[Xf,List.length_append,UM ks l gs i];rfl
end
end Go.Proofs.Ytajieadpaeggcaa
