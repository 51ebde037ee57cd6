/-
  Files' descriptions made of raw numbers,one group's chunks and one chunk's pages left to be written:states.
-/
import Derived.Test.YtajieadpaeggcaaL12
set_option linter.unusedVariables false
set_option linter.unusedSimpArgs false
namespace Go.Proofs.Ytajieadpaeggcaa
open Go Go.Av
section
set_option maxRecDepth 100000
set_option maxHeartbeats 4000000
abbrev CkO:=Ck×Bool
abbrev RwO:=Rw×Bool
def Nf(c:Ck):List AVal:=[.int .i64 c.words,.int .i64 c.size,.int .u32 c.crc,.slice 9 0 c.pages.length 7 none,.bool c.known,.int .i64 c.st.nulls,.bool c.st.has,.int .i64 c.st.mn.n,.str c.st.mn.s,.int .i64 c.st.mx.n,.str c.st.mx.s]
def encCo(c:CkO):List AVal:=match c.2 with
 |false=>encC c.1
 |true=>Nf c.1
def encRo(r:RwO):List AVal:=match r.2 with
 |false=>encR r.1
 |true=>[.int .i64 r.1.n,.slice 7 0 r.1.chunks.length 11 none]
def XD(z:List RwO):Int:=Z5 (z.map Prod.fst)
theorem EP(z:List RwO)(r:Rw)(b:Bool):XD (z++[(r,b)])=XD z+r.n:=by simp only[XD,List.map_append,Vg,List.map_cons,List.map_nil,Z5,Int.add_zero]
theorem fxC(l:List CkO){ρ:Nat→Nat}(h:ρ 9=9):(l.map encCo).map (AVal.renL ρ)=l.map encCo:=by
 rw[List.map_map]
 refine List.map_congr_left fun c _=>?_
 obtain⟨c,b⟩:=c
 cases b with
 |false=>exact Yk ρ (fC [c] (encC c) (by simp))
 |true=>simp only[Function.comp,encCo,Nf,AVal.renL,AVal.ren,h]
theorem fxR(l:List RwO){ρ:Nat→Nat}(h:ρ 7=7):(l.map encRo).map (AVal.renL ρ)=l.map encRo:=by
 rw[List.map_map]
 refine List.map_congr_left fun c _=>?_
 obtain⟨c,b⟩:=c
 cases b with
 |false=>exact Yk ρ (fR [c] (encR c) (by simp))
 |true=>simp only[Function.comp,encRo,AVal.renL,AVal.ren,h]
theorem VH{ρ:Nat→Nat}{rows:List (List AVal)}{ro:Bool}(h:rows.map (AVal.renL ρ)=rows):WkB (.cells rows ro) ((Blk.cells rows ro).ren ρ):=by
 rw[Blk.ren,h];exact .refl _
theorem Zh{α:Type}{ρ:Nat→Nat}{n m:Nat}{H t:Heap}{enc:α→List AVal}{l:List α}(hf:(l.map enc).map (AVal.renL ρ)=l.map enc)(hm:m<n)(h:H.get (ρ m)=Zb enc l)(ht:ZI ρ n H t):ZI ρ n H ((m,Zb enc l)::t):=by
 refine Ea (fun b hb=>⟨hm,b,h.trans hb,?_⟩) ht
 cases l with
 |nil=>cases hb
 |cons a q=>cases hb;exact VH hf
theorem X2{α:Type}{ρ:Nat→Nat}{n m:Nat}{H t:Heap}{enc:α→List AVal}{l:List α}{rows:List (List AVal)}(hf:(l.map enc).map (AVal.renL ρ)=l.map enc)(hm:m<n)(h:H.get (ρ m)=some (.cells rows false))(hr:rows=l.map enc)(h0:0<l.length)(ht:ZI ρ n H t):ZI ρ n H ((m,Zb enc l)::t):=by
 subst hr
 rw[Ky enc h0]
 exact⟨⟨hm,_,h,VH hf⟩,ht⟩
def mkd(ow:Bool)(kg:Nat):Nat→List Ck→List CkO
 |_,[]=>[]
 |k,c::t=>(c,ow&&Nat.beq k kg)::mkd ow kg (k+1) t
theorem Ca(ow:Bool)(kg:Nat)(c:Ck):∀(l:List Ck) (k:Nat),mkd ow kg k (l++[c])=mkd ow kg k l++[(c,ow&&Nat.beq (k+l.length) kg)]
 |[],k=>rfl
 |d::l,k=>by
  rw[List.cons_append,mkd,mkd,Ca ow kg c l,List.length_cons,show k+1+l.length=k+(l.length+1) by omega];rfl
theorem C9(ow:Bool)(kg:Nat):∀(l:List Ck) (k:Nat),(mkd ow kg k l).map Prod.fst=l
 |[],k=>rfl
 |d::l,k=>by rw[mkd,List.map_cons,C9 ow kg l]
theorem YR(ow:Bool)(kg:Nat)(l:List Ck)(k:Nat):(mkd ow kg k l).length=l.length:=by rw[←List.length_map (f:=Prod.fst),C9]
theorem HB(kg:Nat):∀(l:List Ck) (k:Nat),(mkd false kg k l).map encCo=l.map encC
 |[],k=>rfl
 |d::l,k=>by rw[mkd,List.map_cons,HB kg l,List.map_cons];rfl
def mkr(ig:Nat):Nat→List Rw→List RwO
 |_,[]=>[]
 |k,c::t=>(c,Nat.beq k ig)::mkr ig (k+1) t
theorem C7(ig:Nat)(c:Rw):∀(l:List Rw) (k:Nat),mkr ig k (l++[c])=mkr ig k l++[(c,Nat.beq (k+l.length) ig)]
 |[],k=>rfl
 |d::l,k=>by
  rw[List.cons_append,mkr,mkr,C7 ig c l,List.length_cons,show k+1+l.length=k+(l.length+1) by omega];rfl
theorem Jr(ig:Nat):∀(l:List Rw) (k:Nat),(mkr ig k l).map Prod.fst=l
 |[],k=>rfl
 |d::l,k=>by rw[mkr,List.map_cons,Jr ig l]
theorem VM(ig:Nat)(l:List Rw)(k:Nat):(mkr ig k l).length=l.length:=by rw[←List.length_map (f:=Prod.fst),Jr]
def XOk(u v:Option Blk):Prop:=∀ρ:Nat→Nat,ρ 7=7→ρ 9=9→(∀b,u=some b→WkB b (b.ren ρ))∧ ∀b,v=some b→WkB b (b.ren ρ)
abbrev bP(P:List Pg):Option Blk:=some (.cells (P.map encP) false)
abbrev bC(kg:Nat)(C:List Ck):Option Blk:=some (.cells ((mkd true kg 0 C).map encCo) false)
theorem XOk.start:XOk none none:=fun _ _ _=>⟨fun b h=>(nomatch h),fun b h=>(nomatch h)⟩
theorem XOk.page{u v:Option Blk}(h:XOk u v)(P:List Pg):XOk u (bP P):=fun ρ h7 h9=>⟨(h ρ h7 h9).1,fun b hb=>by cases hb;exact Qd (fP P)⟩
theorem XOk.chunk{u v:Option Blk}(h:XOk u v)(C:List CkO):XOk (some (.cells (C.map encCo) false)) v:=fun ρ h7 h9=>⟨fun b hb=>by cases hb;exact VH (fxC C h9),(h ρ h7 h9).2⟩
theorem HA{ow:Bool}{kg:Nat}:∀(l:List Ck) (k:Nat),k+l.length≤kg→(mkd ow kg k l).map encCo=l.map encC
 |[],k,_=>rfl
 |d::l,k,h=>by
  rw[List.length_cons]at h
  rw[mkd,List.map_cons,HA l (k+1) (by omega),List.map_cons,QL (show k≠kg by omega),Bool.and_false];rfl
theorem Hz{ig:Nat}:∀(l:List Rw) (k:Nat),k+l.length≤ig→(mkr ig k l).map encRo=l.map encR
 |[],k,_=>rfl
 |d::l,k,h=>by
  rw[List.length_cons]at h
  rw[mkr,List.map_cons,Hz l (k+1) (by omega),List.map_cons,QL (show k≠ig by omega)];rfl
theorem WN{α:Type}{enc:α→List AVal}{l:List α}{rows:List (List AVal)}(e:rows=l.map enc)(h:Qj (l.map enc))(ρ:Nat→Nat):rows.map (AVal.renL ρ)=rows:=by
 subst e
 rw[show(l.map enc).map (AVal.renL ρ)=(l.map enc).map id from List.map_congr_left fun r hr=>Yk ρ (h r hr),List.map_id]
def WV(ow:Bool)(kg:Nat)(v0:Option Blk)(cs:List Ck)(k:Nat)(v:Option Blk):Prop:=
 (ow=false∧v=v0)∨(ow=true∧k≤kg∧v=none)∨(ow=true∧kg<k∧ ∃P,v=bP P∧(cs.getD kg default).pages=P)
def VO(ig kg:Nat)(rs:List Rw)(i:Nat)(u v:Option Blk):Prop:=
 (i≤ig∧u=none∧v=none)∨(ig<i∧ ∃C P,u=bC kg C∧v=bP P∧(rs.getD ig default).chunks=C∧(C.getD kg default).pages=P)
theorem Di{α:Type}(l:List α)(x d:α){k:Nat}(h:k<l.length):(l++[x]).getD k d=l.getD k d:=by
 rw[List.getD_eq_getElem?_getD,List.getD_eq_getElem?_getD,List.getElem?_append_left h]
theorem Ms{α:Type}(l:List α)(x d:α){k:Nat}(h:k=l.length):(l++[x]).getD k d=x:=by
 subst h;simp
theorem WV.step{ow:Bool}{kg k:Nat}{v0 v:Option Blk}{cs:List Ck}(h:WV ow kg v0 cs k v)(hl:cs.length=k)(hb:(ow&&Nat.beq k kg)=false)(c:Ck):WV ow kg v0 (cs++[c]) (k+1) v:=by
 rcases h with⟨h1,h2⟩|⟨h1,h2,h3⟩|⟨h1,h2,P,h3,h4⟩
 ·exact .inl ⟨h1,h2⟩
 ·subst h1
  rw[Bool.true_and]at hb
  have:k≠kg:=fun e=>by rw[e,Nat.beq_refl]at hb;cases hb
  exact .inr (.inl ⟨rfl,by omega,h3⟩)
 ·exact .inr (.inr ⟨h1,by omega,P,h3,by rw[Di _ _ _ (by omega)];exact h4⟩)
theorem WV.own{ow:Bool}{kg k:Nat}{v0:Option Blk}{cs:List Ck}(hl:cs.length=k)(hb:(ow&&Nat.beq k kg)=true)(c:Ck){P:List Pg}(hc:c.pages=P):WV ow kg v0 (cs++[c]) (k+1) (bP P):=by
 simp only[Bool.and_eq_true]at hb
 have:=Nat.eq_of_beq_eq_true hb.2
 exact .inr (.inr ⟨hb.1,by omega,P,rfl,by rw[Ms _ _ _ (by omega)];exact hc⟩)
theorem VO.step{ig kg i:Nat}{rs:List Rw}{u v:Option Blk}(h:VO ig kg rs i u v)(hl:rs.length=i)(hb:Nat.beq i ig=false)(r:Rw):VO ig kg (rs++[r]) (i+1) u v:=by
 rcases h with⟨h1,h2⟩|⟨h1,C,P,h2,h3,h4,h5⟩
 ·have:i≠ig:=fun e=>by rw[e,Nat.beq_refl]at hb;cases hb
  exact .inl ⟨by omega,h2⟩
 ·exact .inr ⟨by omega,C,P,h2,h3,by rw[Di _ _ _ (by omega)];exact h4,h5⟩
theorem VO.own{ig kg i:Nat}{rs:List Rw}{v:Option Blk}(hl:rs.length=i)(hb:Nat.beq i ig=true)(n:Int)(cs:List Ck){P:List Pg}(hv:v=bP P)(hc:(cs.getD kg default).pages=P):VO ig kg (rs++[⟨n,cs⟩]) (i+1) (bC kg cs) v:=by
 have:=Nat.eq_of_beq_eq_true hb
 exact .inr ⟨by omega,cs,P,rfl,hv,by rw[Ms _ _ _ (by omega)],hc⟩
theorem VO.start{ig kg i:Nat}{rs:List Rw}{u v:Option Blk}(h:VO ig kg rs i u v)(hb:Nat.beq i ig=true):u=none∧v=none:=by
 have:=Nat.eq_of_beq_eq_true hb
 rcases h with⟨_,h⟩|⟨h1,_⟩
 ·exact h
 ·omega
def oSo(u v:Option Blk)(s:List Fd)(gs:List Int)(l:List Vl)(ls:List Lf)(a i:Nat)(N:Int)(rs:List RwO):St:=⟨[(1,vI gs),(2,vV l),(6,.ptr 1 0 0),(7,.ptr 0 0 0),(8,vL ls),(9,.int .i64 a),(10,.int .i64 i)],[(0,some (.cells [QK (vF s) N (Qx 3 2 rs)] false)),(1,some (.cells [QK .nils 0 .nils] false)),(3,Zb encRo rs),(7,u),(9,v)],10⟩
def Pq(u v:Option Blk)(s:List Fd)(gs:List Int)(l:List Vl)(ls:List Lf)(a i:Nat)(g:Int)(rs:List RwO):St:=⟨[(1,vI gs),(2,vV l),(6,.ptr 1 0 0),(7,.ptr 0 0 0),(8,vL ls),(9,.int .i64 a),(10,.int .i64 i),(11,.ptr 2 0 0)],[(0,some (.cells [QK (vF s) (XD rs) (Qx 3 2 rs)] false)),(1,some (.cells [QK .nils 0 .nils] false)),(3,Zb encRo rs),(7,u),(9,v),(2,some (.cells [QI (nM g) .nils] false))],10⟩
def iSo(u v:Option Blk)(s:List Fd)(gs:List Int)(l:List Vl)(ls:List Lf)(a i:Nat)(g:Int)(rs:List RwO)(k:Nat)(cs:List CkO):St:=⟨[(1,vI gs),(2,vV l),(6,.ptr 1 0 0),(7,.ptr 0 0 0),(8,vL ls),(9,.int .i64 a),(10,.int .i64 i),(11,.ptr 2 0 0),(12,.int .i64 k)],[(0,some (.cells [QK (vF s) (XD rs+nM g) (Qx 3 2 rs)] false)),(1,some (.cells [QK .nils 0 .nils] false)),(3,Zb encRo rs),(7,u),(9,v),(2,some (.cells [QI (nM g) (Qx 5 11 cs)] false)),(5,Zb encCo cs)],10⟩
def Pp(u v:Option Blk)(s:List Fd)(gs:List Int)(l:List Vl)(ls:List Lf)(a i:Nat)(g:Int)(rs:List RwO)(k:Nat)(cs:List CkO):St:=⟨[(1,vI gs),(2,vV l),(6,.ptr 1 0 0),(7,.ptr 0 0 0),(8,vL ls),(9,.int .i64 a),(10,.int .i64 i),(11,.ptr 2 0 0),(12,.int .i64 k),(13,.ptr 4 0 0)],[(0,some (.cells [QK (vF s) (XD rs+nM g) (Qx 3 2 rs)] false)),(1,some (.cells [QK .nils 0 .nils] false)),(3,Zb encRo rs),(7,u),(9,v),(2,some (.cells [QI (nM g) (Qx 5 11 cs)] false)),(5,Zb encCo cs),(4,some (.cells [Zq 0 0 0 .nils (knM g k) 0 false] false))],10⟩
def pSo(u v:Option Blk)(s:List Fd)(gs:List Int)(l:List Vl)(ls:List Lf)(a i:Nat)(g:Int)(rs:List RwO)(k:Nat)(cs:List CkO)(left:Int)(ps:List Pg):St:=⟨[(1,vI gs),(2,vV l),(6,.ptr 1 0 0),(7,.ptr 0 0 0),(8,vL ls),(9,.int .i64 a),(10,.int .i64 i),(11,.ptr 2 0 0),(12,.int .i64 k),(13,.ptr 4 0 0),(14,.int .i64 left)],[(0,some (.cells [QK (vF s) (XD rs+nM g) (Qx 3 2 rs)] false)),(1,some (.cells [QK .nils 0 .nils] false)),(3,Zb encRo rs),(7,u),(9,v),(2,some (.cells [QI (nM g) (Qx 5 11 cs)] false)),(5,Zb encCo cs),(4,some (.cells [Zq 0 0 0 (Qx 6 7 ps) (knM g k) 0 false] false)),(6,Zb encP ps)],10⟩
def pRo(u v:Option Blk)(s:List Fd)(gs:List Int)(l:List Vl)(ls:List Lf)(a i:Nat)(g:Int)(rs:List RwO)(k:Nat)(cs:List CkO)(left:Int)(ps:List Pg):St:=⟨[(1,vI gs),(2,vV l),(6,.ptr 1 0 0),(7,.ptr 0 0 0),(8,vL ls),(9,.int .i64 a),(10,.int .i64 i),(11,.ptr 2 0 0),(12,.int .i64 k),(13,.ptr 4 0 0),(14,.int .i64 left),(15,.int .i64 (Xp g left))],[(0,some (.cells [QK (vF s) (XD rs+nM g) (Qx 3 2 rs)] false)),(1,some (.cells [QK .nils 0 .nils] false)),(3,Zb encRo rs),(7,u),(9,v),(2,some (.cells [QI (nM g) (Qx 5 11 cs)] false)),(5,Zb encCo cs),(4,some (.cells [Zq 0 0 0 (Qx 6 7 ps) (knM g k) 0 false] false)),(6,Zb encP ps)],10⟩
def dSo(u v:Option Blk)(s:List Fd)(gs:List Int)(l:List Vl)(ls:List Lf)(a i:Nat)(g:Int)(rs:List RwO)(k:Nat)(cs:List CkO)(ps:List Pg)(j:Nat):St:=⟨[(1,vI gs),(2,vV l),(6,.ptr 1 0 0),(7,.ptr 0 0 0),(8,vL ls),(9,.int .i64 a),(10,.int .i64 i),(11,.ptr 2 0 0),(12,.int .i64 k),(13,.ptr 4 0 0),(16,.int .i64 j)],[(0,some (.cells [QK (vF s) (XD rs+nM g) (Qx 3 2 rs)] false)),(1,some (.cells [QK .nils 0 .nils] false)),(3,Zb encRo rs),(7,u),(9,v),(2,some (.cells [QI (nM g) (Qx 5 11 cs)] false)),(5,Zb encCo cs),(4,some (.cells [Zq 0 0 0 (.slice 6 0 ps.length 7 none) (knM g k) 0 false] false)),(6,some (.cells ((W8 ps j).map encP) false))],10⟩
def eSo(u v:Option Blk)(s:List Fd)(gs:List Int)(l:List Vl)(ls:List Lf)(a i:Nat)(g:Int)(rs:List RwO)(k:Nat)(cs:List CkO)(w sz cr:Int)(n:Nat)(ps:List Pg):St:=⟨[(1,vI gs),(2,vV l),(6,.ptr 1 0 0),(7,.ptr 0 0 0),(8,vL ls),(9,.int .i64 a),(10,.int .i64 i),(11,.ptr 2 0 0),(12,.int .i64 k),(13,.ptr 4 0 0)],[(0,some (.cells [QK (vF s) (XD rs+nM g) (Qx 3 2 rs)] false)),(1,some (.cells [QK .nils 0 .nils] false)),(3,Zb encRo rs),(7,u),(9,v),(2,some (.cells [QI (nM g) (Qx 5 11 cs)] false)),(5,Zb encCo cs),(4,some (.cells [Zq w sz cr (.slice 6 0 n 7 none) (knM g k) 0 false] false)),(6,some (.cells (ps.map encP) false))],10⟩
def UV(u v:Option Blk)(s:List Fd)(gs:List Int)(l:List Vl)(ls:List Lf)(a i:Nat)(g:Int)(rs:List RwO)(k:Nat)(cs:List CkO)(w sz cr:Int)(ps:List Pg)(b:Bool):St:=⟨[(1,vI gs),(2,vV l),(6,.ptr 1 0 0),(7,.ptr 0 0 0),(8,vL ls),(9,.int .i64 a),(10,.int .i64 i),(11,.ptr 2 0 0),(12,.int .i64 k),(13,.ptr 4 0 0),(166,.bool b)],[(0,some (.cells [QK (vF s) (XD rs+nM g) (Qx 3 2 rs)] false)),(1,some (.cells [QK .nils 0 .nils] false)),(3,Zb encRo rs),(7,u),(9,v),(2,some (.cells [QI (nM g) (Qx 5 11 cs)] false)),(5,Zb encCo cs),(4,some (.cells [Zq w sz cr (.slice 6 0 ps.length 7 none) (knM g k) 0 false] false)),(6,some (.cells (ps.map encP) false))],10⟩
def fSo(u v:Option Blk)(s:List Fd)(gs:List Int)(l:List Vl)(ls:List Lf)(a i:Nat)(g:Int)(rs:List RwO)(k:Nat)(cs:List CkO)(w sz cr:Int)(ps:List Pg)(b:Bool):St:=⟨[(1,vI gs),(2,vV l),(6,.ptr 1 0 0),(7,.ptr 0 0 0),(8,vL ls),(9,.int .i64 a),(10,.int .i64 i),(11,.ptr 2 0 0),(12,.int .i64 k),(13,.ptr 4 0 0),(166,.bool b)],[(0,some (.cells [QK (vF s) (XD rs+nM g) (Qx 3 2 rs)] false)),(1,some (.cells [QK .nils 0 .nils] false)),(3,Zb encRo rs),(7,u),(9,v),(2,some (.cells [QI (nM g) (Qx 5 11 cs)] false)),(5,Zb encCo cs),(4,some (.cells [Zq w sz cr (.vs 7 (ps.map encP)) (knM g k) 0 false] false))],10⟩
def Lp(u v:Option Blk)(s:List Fd)(gs:List Int)(l:List Vl)(ls:List Lf)(a i:Nat)(g:Int)(rs:List RwO)(cs:List CkO):St:=⟨[(1,vI gs),(2,vV l),(6,.ptr 1 0 0),(7,.ptr 0 0 0),(8,vL ls),(9,.int .i64 a),(10,.int .i64 i),(11,.ptr 2 0 0),(50,.bool false)],[(0,some (.cells [QK (vF s) (XD rs+nM g) (Qx 3 2 rs)] false)),(1,some (.cells [QK .nils 0 .nils] false)),(3,Zb encRo rs),(7,u),(9,v),(2,some (.cells [QI (nM g) (Qx 5 11 cs)] false)),(5,Zb encCo cs)],10⟩
def OD(u v:Option Blk)(s:List Fd)(rs:List RwO):St:=⟨[(6,.ptr 1 0 0),(7,.ptr 0 0 0),(31,.bool false)],[(0,some (.cells [QK (vF s) (XD rs) (Qx 3 2 rs)] false)),(1,some (.cells [QK .nils 0 .nils] false)),(3,Zb encRo rs),(7,u),(9,v)],10⟩
def fMo(u v:Option Blk)(s:List Fd)(gs:List Int)(l:List Vl)(ls:List Lf)(a i:Nat)(g:Int)(rs:List RwO)(k:Nat)(cs:List CkO)(w sz cr:Int)(ps:List Pg)(b:Bool):St:=⟨[(1,vI gs),(2,vV l),(6,.ptr 1 0 0),(7,.ptr 0 0 0),(8,vL ls),(9,.int .i64 a),(10,.int .i64 i),(11,.ptr 2 0 0),(12,.int .i64 k),(13,.ptr 4 0 0),(166,.bool b)],[(0,some (.cells [QK (vF s) (XD rs+nM g) (Qx 3 2 rs)] false)),(1,some (.cells [QK .nils 0 .nils] false)),(3,Zb encRo rs),(7,u),(9,v),(2,some (.cells [QI (nM g) (Qx 5 11 cs)] false)),(5,Zb encCo cs),(4,some (.cells [Zq w sz cr (.slice 9 0 ps.length 7 none) (knM g k) 0 false] false))],10⟩
def hSo(u v:Option Blk)(s:List Fd)(gs:List Int)(l:List Vl)(ls:List Lf)(a i:Nat)(g:Int)(rs:List RwO)(row:List AVal):St:=⟨[(1,vI gs),(2,vV l),(6,.ptr 1 0 0),(7,.ptr 0 0 0),(8,vL ls),(9,.int .i64 a),(10,.int .i64 i),(11,.ptr 2 0 0),(50,.bool false)],[(0,some (.cells [QK (vF s) (XD rs+nM g) (Qx 3 2 rs)] false)),(1,some (.cells [QK .nils 0 .nils] false)),(3,Zb encRo rs),(7,u),(9,v),(2,some (.cells [row] false))],10⟩
abbrev Ba(s:List Fd)(N:Int)(rs:List RwO):List AVal:=QK (vF s) N (Qx 3 2 rs)
theorem QG[Syms]{N nx K7 K9:Nat}{u v:Option Blk}{e e3:Env}{H rest:Heap}{s:List Fd}{M:Int}{rs:List RwO}{row:List AVal}(q:List Nat)(hl:q.length=10)(h0:q.getD 0 0=0)(h1:q.getD 1 0=1)(h3:q.getD 3 0=3)(h7:q.getD 7 0=K7)(h9:q.getD 9 0=K9)(hn:Zm 0 nx q=true)(he:Ko (rho q nx) e e3)
 (H0:H.get 0=some (.cells [row] false)) (hrow:∀ρ:Nat→Nat,ρ 3=3→VE row (AVal.renL ρ (Ba s M rs))) (H1:H.get 1=some (.cells [QK .nils 0 .nils] false)) (H3:H.get 3=Zb encRo rs) (H7:H.get K7=u) (H9:H.get K9=v) (hX:(∀b,u=some b→WkB b (b.ren (rho q nx)))∧ ∀b,v=some b→WkB b (b.ren (rho q nx)))
 (hR:(rs.map encRo).map (AVal.renL (rho q nx))=rs.map encRo) (hr:ZI (rho q nx) 10 H rest):
 Reb 0 N ⟨e,H,nx⟩ ⟨e3,(0,some (.cells [Ba s M rs] false))::(1,some (.cells [QK .nils 0 .nils] false))::(3,Zb encRo rs)::(7,u)::(9,v)::rest,10⟩:=by
 have r0:rho q nx 0=0:=by rw[ZP (by omega)];exact h0
 have r1:rho q nx 1=1:=by rw[ZP (by omega)];exact h1
 have r3:rho q nx 3=3:=by rw[ZP (by omega)];exact h3
 have r7:rho q nx 7=K7:=by rw[ZP (by omega)];exact h7
 have r9:rho q nx 9=K9:=by rw[ZP (by omega)];exact h9
 have:=Q0 (na:=0) (N:=N) (s:=⟨e,H,nx⟩) (e3:=e3) (H3:=(0,some (.cells [Ba s M rs] false))::(1,some (.cells [QK .nils 0 .nils] false))::(3,Zb encRo rs)::(7,u)::(9,v)::rest) q hn he
  ⟨⟨by omega,_,(by show H.get (rho q nx 0)=_;rw[r0];exact H0),Q6 (hrow _ r3)⟩,⟨by omega,_,(by show H.get (rho q nx 1)=_;rw[r1];exact H1),.refl _⟩,Zh hR (by omega) (by show H.get (rho q nx 3)=_;rw[r3];exact H3)
    (Ea (fun b hb=>⟨by omega,b,(by show H.get (rho q nx 7)=_;rw[r7,H7];exact hb),hX.1 b hb⟩) (Ea (fun b hb=>⟨by omega,b,(by show H.get (rho q nx 9)=_;rw[r9,H9];exact hb),hX.2 b hb⟩) (by rw[hl];exact hr)))⟩
 rw[hl]at this
 exact this
theorem D6[Syms]{N nx K K7 K9:Nat}{u v:Option Blk}{e e3:Env}{H rest:Heap}{s:List Fd}{M:Int}{rs:List RwO}{row:List AVal}{rows:List (List AVal)}(q:List Nat)(hl:q.length=10)(h0:q.getD 0 0=0)(h1:q.getD 1 0=1)(h3:q.getD 3 0=K)(h7:q.getD 7 0=K7)(h9:q.getD 9 0=K9)(hn:Zm 0 nx q=true)(he:Ko (rho q nx) e e3)
 (H0:H.get 0=some (.cells [row] false)) (hrow:∀ρ:Nat→Nat,ρ 3=K→VE row (AVal.renL ρ (Ba s M rs))) (H1:H.get 1=some (.cells [QK .nils 0 .nils] false)) (H3:H.get K=some (.cells rows false)) (hrs:rows=rs.map encRo) (hpos:0<rs.length) (H7:H.get K7=u) (H9:H.get K9=v) (hX:(∀b,u=some b→WkB b (b.ren (rho q nx)))∧ ∀b,v=some b→WkB b (b.ren (rho q nx)))
 (hR:(rs.map encRo).map (AVal.renL (rho q nx))=rs.map encRo) (hr:ZI (rho q nx) 10 H rest):
 Reb 0 N ⟨e,H,nx⟩ ⟨e3,(0,some (.cells [Ba s M rs] false))::(1,some (.cells [QK .nils 0 .nils] false))::(3,Zb encRo rs)::(7,u)::(9,v)::rest,10⟩:=by
 have r0:rho q nx 0=0:=by rw[ZP (by omega)];exact h0
 have r1:rho q nx 1=1:=by rw[ZP (by omega)];exact h1
 have r3:rho q nx 3=K:=by rw[ZP (by omega)];exact h3
 have r7:rho q nx 7=K7:=by rw[ZP (by omega)];exact h7
 have r9:rho q nx 9=K9:=by rw[ZP (by omega)];exact h9
 have:=Q0 (na:=0) (N:=N) (s:=⟨e,H,nx⟩) (e3:=e3) (H3:=(0,some (.cells [Ba s M rs] false))::(1,some (.cells [QK .nils 0 .nils] false))::(3,Zb encRo rs)::(7,u)::(9,v)::rest) q hn he
  ⟨⟨by omega,_,(by show H.get (rho q nx 0)=_;rw[r0];exact H0),Q6 (hrow _ r3)⟩,⟨by omega,_,(by show H.get (rho q nx 1)=_;rw[r1];exact H1),.refl _⟩,X2 hR (by omega) (by show H.get (rho q nx 3)=_;rw[r3];exact H3) hrs hpos
    (Ea (fun b hb=>⟨by omega,b,(by show H.get (rho q nx 7)=_;rw[r7,H7];exact hb),hX.1 b hb⟩) (Ea (fun b hb=>⟨by omega,b,(by show H.get (rho q nx 9)=_;rw[r9,H9];exact hb),hX.2 b hb⟩) (by rw[hl];exact hr)))⟩
 rw[hl]at this
 exact this
theorem XJ(ps:List CkO)(p:CkO):List.take ps.length (List.drop 0 (ps.map encCo))++[encCo p]=(ps++[p]).map encCo:=by
 rw[List.drop_zero,List.take_of_length_le (by simp),List.map_append];rfl
theorem HW(ps:List RwO)(p:RwO):List.take ps.length (List.drop 0 (ps.map encRo))++[encRo p]=(ps++[p]).map encRo:=by
 rw[List.drop_zero,List.take_of_length_le (by simp),List.map_append];rfl
theorem KK[Syms]{N:Nat}(u v:Option Blk)(s:List Fd)(gs:List Int)(l:List Vl)(ls:List Lf)(a i:Nat)(g:Int)(rs:List RwO)(k:Nat)(cs:List CkO)(w sz cr:Int)(ps:List Pg)(b:Bool)(hp:0<ps.length):Reb 0 N (UV u v s gs l ls a i g rs k cs w sz cr ps b) (fSo u v s gs l ls a i g rs k cs w sz cr ps b):=by
 have hcut:((ps.map encP).drop 0).take ps.length=ps.map encP:=by rw[List.drop_zero,List.take_of_length_le (by simp)]
 have hs:FzV 6 (ps.map encP) (.slice 6 0 ps.length 7 none) (.vs 7 (ps.map encP)):=by
  have:=FzV.sl (n:=6) (rows:=ps.map encP) 0 ps.length 7 none hp (by simp)
  rwa [hcut]at this
 refine ZS (n:=6) (rows:=ps.map encP) rfl (fP ps) ⟨.same _,.same _,.same _,.same _,.same _,.same _,.same _,.same _,.same _,.same _,.same _,trivial⟩ ?_
 refine hfz (by decide) rfl (hfz (by decide) rfl (hfz (by decide) rfl (hfz (by decide) rfl (hfz (by decide) rfl (hfz (by decide) rfl (hfz (by decide) rfl ⟨⟨by decide,_,rfl,.cells [Zq w sz cr (.slice 6 0 ps.length 7 none) (knM g k) 0 false] [Zq w sz cr (.vs 7 (ps.map encP)) (knM g k) 0 false] false rfl (fun j r r' h h'=>?_)⟩,trivial⟩))))))
 cases j with
 |zero=>
  cases h;cases h'
  exact⟨.same _,.same _,.same _,hs,.same _,.same _,.same _,.same _,.same _,.same _,.same _,trivial⟩
 |succ j=>simp at h
theorem KJ[Syms]{N:Nat}(v:Option Blk)(s:List Fd)(gs:List Int)(l:List Vl)(ls:List Lf)(a i:Nat)(g:Int)(rs:List RwO)(k:Nat)(cs:List CkO)(w sz cr:Int)(ps:List Pg)(b:Bool)(hR:(rs.map encRo).map (AVal.renL (rho [0,1,2,3,4,5,9,7,8,6] 10))=rs.map encRo)(hC:(cs.map encCo).map (AVal.renL (rho [0,1,2,3,4,5,9,7,8,6] 10))=cs.map encCo):Reb 0 N (UV none v s gs l ls a i g rs k cs w sz cr ps b) (fMo none (bP ps) s gs l ls a i g rs k cs w sz cr ps b):=
 QG [0,1,2,3,4,5,9,7,8,6] rfl rfl rfl rfl rfl rfl (by exact rfl) ⟨.refl _,.refl _,.refl _,.refl _,.refl _,.refl _,.refl _,.refl _,.refl _,.refl _,.refl _,trivial⟩ rfl (fun ρ hρ=>⟨.refl _,.refl _,Qi hρ,trivial⟩) rfl rfl rfl rfl ⟨fun b hb=>by(cases hb),fun b hb=>by(cases hb;exact Qd (fP ps))⟩ hR
  ⟨⟨by decide,_,rfl,Q6 (row:=QI (nM g) (Qx 5 11 cs)) ⟨.refl _,Qi rfl,trivial⟩⟩,Zh hC (by decide) rfl ⟨⟨by decide,_,rfl,Q6 (row:=Zq w sz cr (.slice 9 0 ps.length 7 none) (knM g k) 0 false) ⟨.refl _,.refl _,.refl _,.refl _,.refl _,.refl _,.refl _,.refl _,.refl _,.refl _,.refl _,trivial⟩⟩,trivial⟩⟩
theorem NR[Syms]{N:Nat}(u v:Option Blk)(hX:XOk u v)(s:List Fd)(gs:List Int)(l:List Vl)(ls:List Lf)(a i:Nat)(g:Int)(rs:List RwO)(cz:List CkO)(cs:List Ck)(hc:cz.map encCo=cs.map encC):Reb 0 N (Lp u v s gs l ls a i g rs cz) (hSo u v s gs l ls a i g rs (encR ⟨nM g,cs⟩)):=by
 have hlen:cz.length=cs.length:=by have:=congrArg List.length hc;simpa using this
 cases cz with
 |nil=>
  obtain rfl:cs=[]:=List.eq_nil_of_length_eq_zero hlen.symm
  exact QG [0,1,2,3,4,5,6,7,8,9] rfl rfl rfl rfl rfl rfl (by exact rfl) ⟨.refl _,.refl _,.refl _,.refl _,.refl _,.refl _,.refl _,.refl _,.refl _,trivial⟩ rfl (fun ρ hρ=>⟨.refl _,.refl _,Qi hρ,trivial⟩) rfl rfl rfl rfl (hX _ rfl rfl) (fxR rs rfl) ⟨⟨by decide,_,rfl,Q6 (row:=encR ⟨nM g,[]⟩) ⟨.refl _,.zero _ _ rfl,trivial⟩⟩,trivial⟩
 |cons c0 ct=>
  have hcut:(((c0::ct).map encCo).drop 0).take (c0::ct).length=cs.map encC:=by rw[List.drop_zero,List.take_of_length_le (by simp),hc]
  have hs:FzV 5 ((c0::ct).map encCo) (.slice 5 0 (c0::ct).length 11 none) (.vs 11 (cs.map encC)):=by
   have:=FzV.sl (n:=5) (rows:=(c0::ct).map encCo) 0 (c0::ct).length 11 none (by simp) (by simp)
   rwa [hcut]at this
  refine ZS (n:=5) (rows:=(c0::ct).map encCo) rfl (by rw[hc];exact fC _) ⟨.same _,.same _,.same _,.same _,.same _,.same _,.same _,.same _,.same _,trivial⟩ ?_
  refine hfz (by decide) rfl (hfz (by decide) rfl (hfz (by decide) rfl (hfz (by decide) rfl (hfz (by decide) rfl ⟨⟨by decide,_,rfl,.cells [QI (nM g) (.slice 5 0 (c0::ct).length 11 none)] [encR ⟨nM g,cs⟩] false rfl (fun j r r' h h'=>?_)⟩,trivial⟩))))
  cases j with
  |zero=>
   cases h;cases h'
   exact⟨.same _,hs,trivial⟩
  |succ j=>simp at h
theorem NQ[Syms]{N:Nat}(P:List Pg)(s:List Fd)(gs:List Int)(l:List Vl)(ls:List Lf)(a i:Nat)(g:Int)(rs:List RwO)(cz:List CkO)(h0:0<cz.length)(hR:(rs.map encRo).map (AVal.renL (rho [0,1,2,3,4,7,6,5,8,9] 10))=rs.map encRo):Reb 0 N (Lp none (bP P) s gs l ls a i g rs cz) (hSo (some (.cells (cz.map encCo) false)) (bP P) s gs l ls a i g rs [.int .i64 (nM g),.slice 7 0 cz.length 11 none]):=
 QG [0,1,2,3,4,7,6,5,8,9] rfl rfl rfl rfl rfl rfl (by exact rfl) ⟨.refl _,.refl _,.refl _,.refl _,.refl _,.refl _,.refl _,.refl _,.refl _,trivial⟩ rfl (fun ρ hρ=>⟨.refl _,.refl _,Qi hρ,trivial⟩) rfl rfl (Ky encCo h0) rfl ⟨fun b hb=>by(cases hb;exact VH (fxC cz rfl)),fun b hb=>by(cases hb;exact Qd (fP P))⟩ hR
  ⟨⟨by decide,_,rfl,Q6 (row:=[.int .i64 (nM g),.slice 7 0 cz.length 11 none]) ⟨.refl _,by(rw[Mj 5 11 h0];exact .refl _),trivial⟩⟩,trivial⟩
end
end Go.Proofs.Ytajieadpaeggcaa
