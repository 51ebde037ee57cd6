/-
 Code,functions,run over abstract states,are sound;from there to the statement's form;the same runs,laid out for the kernel. Over every program.
-/
import Derived.Test.YtekipcaifckffaaGreatAvTwo
import Derived.KernelRfl
import Derived.ProofKit
import Derived.OpenShut
set_option linter.unusedVariables false
set_option linter.unusedSimpArgs false
section
set_option linter.unusedVariables false
set_option linter.unusedSimpArgs false
noncomputable section
namespace Go.Av
section
variable {P:Program} {N:Nat} {ops:Array Oper} {M:Nat→Nat→Bool} {s:St} {v:Nat→AVal} {nw:Nat→List (Nat×Blk)} {ι0:Inj} {w0:World}
structure Drawn3[Syms](P:Program)(N:Nat)(ops:Array Oper)(M:Nat→Nat→Bool)(s:St)(v:Nat→AVal)(nw:Nat→List (Nat×Blk))(tl early:Nat→Bool)(T:Nat→Heap)(X:Nat→Nat):Prop where
 plan:Plan ops ops.size M nomv
 tailOrd:∀t u,tl t=true→tl u=true→t<u→u<ops.size→M u t=true
 earlyM:∀k t,k<ops.size→tl k=false→early k=true→tl t=true→t<ops.size→M t k=true
 uses2:∀i k o p d,tl i=true∨early i=false→ops[i]?=some o→ops[k]?=some p→p.dst=some d→d∈o.looksAt ops→M i k=true
 dst:∀(i:Nat) (o:Oper),ops[i]?=some o→QZ N o.dst=true
 news:∀k id b,(id,b)∈nw k→YJ s.nx k id
 newsLoose:∀k,tl k=true∨early k=false→nw k=[]
 calm:∀i o,ops[i]?=some o→tl i=false→(∀t,t<ops.size→tl t=true→M i t=false)→Z4 P N ops o ((Qq s.env (Qe ops) v i).only (o.looksAt ops)) (XA s.heap nw (M i) i) (s.nx+i*RR) (v i) (nw i)
 T0:T 0=XA s.heap nw (fun _=>true) ops.size
 X0:X 0=s.nx+ops.size*RR
 Tcalm:∀i,tl i=false→T (i+1)=T i∧X (i+1)=X i
 tail:∀t o,ops[t]?=some o→tl t=true→ ∀env':Env,(∀x∈o.looksAt ops,env'.get x=(Qq s.env (Qe ops) v ops.size).get x)→ZP P N ops o ⟨env',T t,X t⟩ ⟨env'.put o.dst (v t),T (t+1),X (t+1)⟩
 loose:∀i o,ops[i]?=some o→tl i=false→early i=false→ ∀j,j≤ops.size→(∀t,t<j→tl t=true→M t i=false)→(∀t,t<ops.size→tl t=true→M i t=true→t<j)→
  ∀env':Env,(∀x∈o.looksAt ops,env'.get x=(Qq s.env (Qe ops) v ops.size).get x)→Xv P N ops o env' (T j) (v i)
theorem Gd[Syms]{tl early:Nat→Bool}{T:Nat→Heap}{X:Nat→Nat}(hd:Drawn3 P N ops M s v nw tl early T X):∀{i j:Nat},i≤j→(∀k,i≤k→k<j→tl k=false)→T j=T i∧X j=X i
 |i,0,h,_=>by rw[Nat.le_zero.1 h];exact⟨rfl,rfl⟩
 |i,j+1,h,hk=>by
  rcases Nat.lt_or_ge j i with h'|h'
  ·rw[show i=j+1 by omega];exact⟨rfl,rfl⟩
  ·have a:=hd.Tcalm j (hk j h' (by omega))
   have b:=Gd hd h' (fun k h1 h2=>hk k h1 (by omega))
   exact⟨a.1.trans b.1,a.2.trans b.2⟩
theorem Env.put_at(e:Env)(d:Option Tmp)(x:AVal)(t:Nat):(d=some t→(e.put d x).get t=x)∧(d≠some t→(e.put d x).get t=e.get t):=by
 cases d with
 |none=>exact⟨fun h=>(by cases h),fun _=>rfl⟩
 |some d=>
  refine⟨fun h=>?_,fun h=>?_⟩
  ·cases h
   simp only[Env.put,Env.get_cons,Nat.beq_refl,cond_true]
  ·have:t≠d:=fun e=>h (by rw[e])
   simp only[Env.put,Env.get_cons,QE this,cond_false]
theorem HS[Syms]{tl early:Nat→Bool}{T:Nat→Heap}{X:Nat→Nat}{Q:Exit→Act→World→Prop}(hd:Drawn3 P N ops M s v nw tl early T X)(hS:RelH ι0 s.heap w0∧ZR ι0 s.nx w0)
 (hQ:∀κ a' w',RelS N κ ⟨Qq s.env (Qe ops) v ops.size,T ops.size,X ops.size⟩ a' w'→StepN ι0 s.heap s.nx w0 κ (T ops.size) (X ops.size) w'→Q .normal a' w'):∀(fuel:Nat) (listed:Array Bool) (a:Act) (w:World) (ι:Inj),Cl ops listed→left listed≤fuel→
 (((∀k,k<ops.size→tl k=true→ ¬Lst listed k)∧(∀k,Lst listed k→k<ops.size)∧DInv N ops ops.size M s v nw ι0 w0 (Lst listed) ι a w)∨
   ∃j,j≤ops.size∧(∀k,k<ops.size→tl k=true→(Lst listed k↔k<j))∧(∀k,k<ops.size→tl k=false→early k=true→Lst listed k)∧
    RelS N ι ⟨(Qq s.env (Qe ops) v ops.size).cut (Qv ops (Lst listed)),T j,X j⟩ a w∧StepN ι0 s.heap s.nx w0 ι (T j) (X j) w)→
 wpAny P .any ops Q fuel listed a w:=by
 have pl:=hd.plan
 -- from the first phase to the second
 have turn:∀(listed:Array Bool) (a:Act) (w:World) (ι:Inj) (j:Nat),j≤ops.size→(∀k,k<ops.size→tl k=true→ ¬Lst listed k)→(∀k,k<j→tl k=false)→(∀k,k<ops.size→tl k=false→early k=true→Lst listed k)→
  DInv N ops ops.size M s v nw ι0 w0 (Lst listed) ι a w→
  RelS N ι ⟨(Qq s.env (Qe ops) v ops.size).cut (Qv ops (Lst listed)),T j,X j⟩ a w∧StepN ι0 s.heap s.nx w0 ι (T j) (X j) w:=by
  intro listed a w ι j hj hno hlow hearly hI
  have hTX:=Gd hd (Nat.zero_le j) (fun k _ h=>hlow k h)
  rw[hTX.1,hTX.2,hd.T0,hd.X0]
  exact Fq pl hS hI (fun k hk=>by
   cases ht:tl k with
   |true=>exact .inr (hd.newsLoose k (.inl ht))
   |false=>
    cases he:early k with
    |true=>exact .inl (hearly k hk ht he)
    |false=>exact .inr (hd.newsLoose k (.inr he)))
 have fin:∀(listed:Array Bool) (a:Act) (w:World) (ι:Inj),(∀k,k<ops.size→Lst listed k)→
  (((∀k,k<ops.size→tl k=true→ ¬Lst listed k)∧(∀k,Lst listed k→k<ops.size)∧DInv N ops ops.size M s v nw ι0 w0 (Lst listed) ι a w)∨
  ∃j,j≤ops.size∧(∀k,k<ops.size→tl k=true→(Lst listed k↔k<j))∧(∀k,k<ops.size→tl k=false→early k=true→Lst listed k)∧
   RelS N ι ⟨(Qq s.env (Qe ops) v ops.size).cut (Qv ops (Lst listed)),T j,X j⟩ a w∧StepN ι0 s.heap s.nx w0 ι (T j) (X j) w)→Q .normal a w:=by
  intro listed a w ι hall hst
  have key:RelS N ι ⟨(Qq s.env (Qe ops) v ops.size).cut (Qv ops (Lst listed)),T ops.size,X ops.size⟩ a w∧StepN ι0 s.heap s.nx w0 ι (T ops.size) (X ops.size) w:=by
   rcases hst with⟨h1,h2,h3⟩|⟨j,h1,h2,h3,h4,h5⟩
   ·refine turn listed a w ι ops.size (Nat.le_refl _) h1 (fun k hk=>?_) (fun k hk _ _=>hall k hk) h3
    cases ht:tl k with
    |false=>rfl
    |true=>exact absurd (hall k hk) (h1 k hk ht)
   ·have:T ops.size=T j∧X ops.size=X j:=Gd hd h1 (fun k hk1 hk2=>by
     cases ht:tl k with
     |false=>rfl
     |true=>have:=(h2 k hk2 ht).1 (hall k hk2);omega)
    rw[this.1,this.2]
    exact⟨h4,h5⟩
  obtain⟨g1,g2⟩:=key
  refine hQ ι a w ⟨g1.defers,g1.size,fun t=>?_,g1.heap,g1.bound⟩ g2
  have:=g1.env t
  rwa [(Env.cut_get (Qv ops (Lst listed)) _ t).1 (fun k hk _=>hall k hk)]at this
 intro fuel
 induction fuel with
 |zero=>
  intro listed a w ι hc hf hst
  have hall:∀k,k<ops.size→Lst listed k:=fun k hk=>J5 (by omega) k (by rw[hc.size];exact hk)
  refine⟨?_,fin listed a w ι hall hst⟩
  cases hr:Region.ready .any ops listed with
  |nil=>rfl
  |cons x xs=>
   have hx:x∈Region.ready .any ops listed:=by rw[hr];exact List.mem_cons_self ..
   obtain⟨h1,o,ho,_⟩:=mem_ready.1 hx
   have hxs:x<ops.size:=(Array.getElem?_eq_some_iff.1 ho).1
   have:=hall x hxs
   unfold Lst at this
   have hxl:x<listed.size:=by rw[hc.size];exact hxs
   simp[hxl]at this h1
   rw[this]at h1
   cases h1
 |succ fuel ih=>
  intro listed a w ι hc hf hst
  refine⟨fun hr=>fin listed a w ι (K1 pl hc hr) hst,fun i hir=>?_⟩
  obtain⟨hun,o,ho,hedges⟩:=mem_ready.1 hir
  have hisz:i<ops.size:=(Array.getElem?_eq_some_iff.1 ho).1
  obtain⟨hleft,hilt⟩:=VL hun
  have hnl:¬Lst listed i:=by
   unfold Lst
   simp[hilt]at hun ⊢
   exact hun
  have hpre:∀k,M i k=true→Lst listed k:=by
   intro k hm
   rcases pl.by_ i k hm with hv|⟨o',ho',e,he,hb,hor⟩
   ·cases hv
   rw[ho]at ho'
   cases ho'
   have hl:=hedges e he hb
   rcases hor with rfl|h
   ·exact hl
   ·exact Jo pl hc (fun _ h=>nomatch h) e.on k hl h
  have hpost:∀k,M k i=true→ ¬Lst listed k:=fun k hm hl=>hnl (Jo pl hc (fun _ h=>nomatch h) k i hl hm)
  have hc':Cl ops (listed.setIfInBounds i true):=by
   refine⟨by simp[hc.size],fun k p hp hl e he hb=>?_⟩
   rw[QR hilt]at hl ⊢
   rcases hl with hl|rfl
   ·exact .inl (hc.closed k p hp hl e he hb)
   ·rw[ho]at hp
    cases hp
    exact .inl (hedges e he hb)
  have hdst:Qe ops i=o.dst:=by simp[Qe,ho]
  have hdok:=hd.dst i o ho
  -- the slots that a late operation looks at are Qv
  have looks:tl i=true∨early i=false→ ∀x∈o.looksAt ops,Qv ops (Lst listed) x:=by
   intro hlate x hx k hk hkd
   have hk':ops[k]?=some (ops[k]'hk):=Array.getElem?_eq_getElem _
   have hkd':(ops[k]'hk).dst=some x:=by simpa[Qe,hk']using hkd
   exact hpre k (hd.uses2 i k o _ x hlate ho hk' hkd' hx)
  have agree:tl i=true∨early i=false→ ∀x∈o.looksAt ops,((Qq s.env (Qe ops) v ops.size).cut (Qv ops (Lst listed))).get x=(Qq s.env (Qe ops) v ops.size).get x:=
   fun hlate x hx=>(Env.cut_get (Qv ops (Lst listed)) _ x).1 (looks hlate x hx)
  -- the chain,in the second phase
  have tailStep:∀(j:Nat),j≤ops.size→tl i=true→(∀k,k<ops.size→tl k=true→(Lst listed k↔k<j))→(∀k,k<ops.size→tl k=false→early k=true→Lst listed k)→
   RelS N ι ⟨(Qq s.env (Qe ops) v ops.size).cut (Qv ops (Lst listed)),T j,X j⟩ a w→StepN ι0 s.heap s.nx w0 ι (T j) (X j) w→
   wpOp P ops Q i (wpAny P .any ops Q fuel (listed.setIfInBounds i true)) a w:=by
   intro j hj hti hlist hearly hRS hSt
   have hij:j≤i:=by
    rcases Nat.lt_or_ge i j with h|h
    ·exact absurd ((hlist i hisz hti).2 h) hnl
    ·exact h
   have hTi:T i=T j∧X i=X j:=Gd hd hij (fun k h1 h2=>by
    cases ht:tl k with
    |false=>rfl
    |true=>
     have:=(hlist k (by omega) ht).1 (hpre k (hd.tailOrd k i ht hti h2 hisz))
     omega)
   rw[←hTi.1,←hTi.2]at hRS hSt
   unfold wpOp
   rw[ho]
   refine hd.tail i o ho hti _ (agree (.inl hti)) ι a w _ Q hRS (fun κ a' w' hRS' hSt'=>?_)
   have hRS2:RelS N κ ⟨(Qq s.env (Qe ops) v ops.size).cut (Qv ops (Lst (listed.setIfInBounds i true))),T (i+1),X (i+1)⟩ a' w':=by
    refine⟨hRS'.defers,hRS'.size,fun t=>?_,hRS'.heap,hRS'.bound⟩
    show RelV κ (((Qq s.env (Qe ops) v ops.size).cut (Qv ops (Lst (listed.setIfInBounds i true)))).get t) _
    by_cases hset:Qv ops (Lst (listed.setIfInBounds i true)) t
    ·rw[(Env.cut_get (Qv ops (Lst (listed.setIfInBounds i true))) _ t).1 hset]
     have h0:=hRS'.env t
     by_cases hot:o.dst=some t
     ·rw[Uc pl hisz (by rw[hdst];exact hot)]
      rwa [(Env.put_at _ o.dst (v i) t).1 hot]at h0
     ·rw[(Env.put_at _ o.dst (v i) t).2 hot]at h0
      rwa [(Env.cut_get (Qv ops (Lst listed)) _ t).1 (fun k hk hkd=>by
       rcases(QR hilt).1 (hset k hk hkd)with h|rfl
       ·exact h
       ·rw[hdst]at hkd;exact absurd hkd hot)]at h0
    ·rw[(Env.cut_get (Qv ops (Lst (listed.setIfInBounds i true))) _ t).2 hset]
     exact .any _
   refine ih _ a' w' κ hc' (by omega) (.inr ⟨i+1,by omega,fun k hk htk=>?_,fun k hk h1 h2=>(QR hilt).2 (.inl (hearly k hk h1 h2)),hRS2,hSt.trans hSt'⟩)
   rw[QR hilt,hlist k hk htk]
   constructor
   ·rintro(h|rfl)<;>omega
   ·intro h
    rcases Nat.lt_or_ge k i with h'|h'
    ·exact .inl ((hlist k hk htk).1 (hpre k (hd.tailOrd k i htk hti h' hisz)))
    ·exact .inr (by omega)
  rcases hst with⟨h1,h2,h3⟩|⟨j,h1,h2,h3,h4,h5⟩
  ·cases hti:tl i with
   |false=>
    unfold wpOp
    rw[ho]
    refine Ud pl hS h3 ho hisz hnl hpre hpost hdok (fun k _=>hd.news k) (hd.calm i o ho hti (fun t ht htl=>?_)) (fun κ a' w' hI=>?_)
    ·cases hm:M i t with
     |false=>rfl
     |true=>exact absurd (hpre t hm) (h1 t ht htl)
    refine ih _ a' w' κ hc' (by omega) (.inl ⟨fun k hk htk=>?_,fun k hk=>?_,?_⟩)
    ·rw[QR hilt]
     rintro(h|rfl)
     ·exact h1 k hk htk h
     ·rw[hti]at htk;cases htk
    ·rcases(QR hilt).1 hk with h|rfl
     ·exact h2 k h
     ·exact hisz
    ·have:(fun k=>Lst listed k∨k=i)=Lst (listed.setIfInBounds i true):=funext fun k=>propext (QR hilt).symm
     rw[←this]
     exact hI
   |true=>
    have hearly:∀k,k<ops.size→tl k=false→early k=true→Lst listed k:=fun k hk hk1 hk2=>hpre k (hd.earlyM k i hk hk1 hk2 hti hisz)
    have hlow:∀k,k<i→tl k=false:=fun k hk=>by
     cases ht:tl k with
     |false=>rfl
     |true=>exact absurd (hpre k (hd.tailOrd k i ht hti hk hisz)) (h1 k (by omega) ht)
    obtain⟨g1,g2⟩:=turn listed a w ι i (by omega) h1 hlow hearly h3
    exact tailStep i (by omega) hti (fun k hk htk=>⟨fun h=>absurd h (h1 k hk htk),fun h=>by have:=hlow k h;rw[htk]at this;cases this⟩) hearly g1 g2
  ·cases hti:tl i with
   |true=>exact tailStep j h1 hti h2 h3 h4 h5
   |false=>
    have hel:early i=false:=by
     cases he:early i with
     |false=>rfl
     |true=>exact absurd (h3 i hisz hti he) hnl
    unfold wpOp
    rw[ho]
    refine hd.loose i o ho hti hel j h1 (fun t ht htl=>?_) (fun t ht htl hm=>(h2 t ht htl).1 (hpre t hm)) _ (agree (.inr hel)) ι _ a w _ Q h4.env h4.heap.ro' h4.bound (fun u w' hu hst'=>?_)
    ·cases hm:M t i with
     |false=>rfl
     |true=>exact absurd ((h2 t (by omega) htl).2 ht) (hpost t hm)
    obtain⟨k1,k2⟩:=hst'.of_ro (T j)
    refine ih _ _ w' ι hc' (by omega) (.inr ⟨j,h1,fun k hk htk=>?_,fun k hk e1 e2=>(QR hilt).2 (.inl (h3 k hk e1 e2)),⟨by rw[ZN];exact h4.defers,?_,fun t=>?_,?_,?_⟩,h5.trans k1⟩)
    ·rw[QR hilt,h2 k hk htk]
     constructor
     ·rintro(h|rfl)
      ·exact h
      ·rw[hti]at htk;cases htk
     ·exact .inl
    ·have:=h4.size
     cases o.dst<;>simpa[Act.put]using this
    ·show RelV ι (((Qq s.env (Qe ops) v ops.size).cut (Qv ops (Lst (listed.setIfInBounds i true)))).get t) _
     by_cases hset:Qv ops (Lst (listed.setIfInBounds i true)) t
     ·rw[(Env.cut_get (Qv ops (Lst (listed.setIfInBounds i true))) _ t).1 hset]
      by_cases hot:o.dst=some t
      ·have htN:t<N:=by
        have:=hdok
        rw[hot]at this
        simpa[QZ,Nat.blt_eq]using this
       rw[hot,UJ a (Nat.lt_of_lt_of_le htN h4.size),Uc pl hisz (by rw[hdst];exact hot)]
       exact hu
      ·rw[V6 a hot]
       have:=h4.env t
       rwa [(Env.cut_get (Qv ops (Lst listed)) _ t).1 (fun k hk hkd=>by
        rcases(QR hilt).1 (hset k hk hkd)with h|rfl
        ·exact h
        ·rw[hdst]at hkd;exact absurd hkd hot)]at this
     ·rw[(Env.cut_get (Qv ops (Lst (listed.setIfInBounds i true))) _ t).2 hset]
      exact .any _
    ·exact⟨fun n b hn=>let⟨L,hL,hB⟩:=h4.heap.blk n b hn;⟨L,hL,hB.keep (Inj.le_refl ι) (k2 _ (h4.bound n L hL).2)⟩,h4.heap.inj,h4.heap.fz_keep k1.st rfl⟩
    ·exact fun n L hn=>⟨(h4.bound n L hn).1,Nat.lt_of_lt_of_le (h4.bound n L hn).2 k1.st.size⟩
theorem MF[Syms]{tl early:Nat→Bool}{T:Nat→Heap}{X:Nat→Nat}{Q:Exit→Act→World→Prop}{id:Nat}{a:Act}{w:World}{ι:Inj}(hm:P.follows .mixedOrders=true)(hd:Drawn3 P N ops M s v nw tl early T X)(hS:RelS N ι s a w)
 (hQ:∀κ a' w',RelS N κ ⟨Qq s.env (Qe ops) v ops.size,T ops.size,X ops.size⟩ a' w'→StepN ι s.heap s.nx w κ (T ops.size) (X ops.size) w'→Q .normal a' w'):(Code.region id ops true).wp P Q a w:=by
 refine wp_region_any hm ?_
 have hH:RelH ι s.heap {w with drawn:=w.drawn+1}:=⟨fun n b hb=>let⟨L,h1,h2⟩:=hS.heap.blk n b hb;⟨L,h1,h2.keep (Inj.le_refl ι) rfl⟩,hS.heap.inj,hS.heap.fz⟩
 have hst:StepN ι s.heap s.nx w ι s.heap s.nx {w with drawn:=w.drawn+1}:=⟨Step.drew ι s.heap w _,Nat.le_refl _,fun _ _ h=>.inl h⟩
 have no:∀k,¬Lst (Array.replicate ops.size false) k:=by
  intro k h
  unfold Lst at h
  rcases Nat.lt_or_ge k ops.size with h'|h'
  ·simp[h']at h
  ·simp[h']at h
 refine HS (w0:={w with drawn:=w.drawn+1}) hd ⟨hH,hS.bound⟩ (fun κ a' w' h1 h2=>hQ κ a' w' h1 (hst.trans h2)) _ _ a _ ι ⟨by simp,fun k o ho h=>absurd h (no k)⟩ (by simp[left]) (.inl ⟨fun k _ _=>no k,fun k h=>absurd h (no k),?_⟩)
 exact⟨hS.defers,hS.size,Inj.le_refl ι,fun m L hm=>⟨(hS.bound m L hm).2,.inl hm⟩,rfl,rfl,rfl,Nat.le_refl _,fun _ _=>rfl,fun t _=>hS.env t,fun k t _ h=>absurd h (no k),fun k id b _ h=>absurd h (no k),fun k k' id id' b b' L L' _ _ h=>absurd h (no k),fun g cs hg=>⟨.inl hg,(hS.heap.fz g cs hg).1,fun k id b L _ h=>absurd h (no k)⟩⟩
end
end Go.Av
end
end
section
set_option linter.unusedVariables false
set_option linter.unusedSimpArgs false
noncomputable section
namespace Go.Av
def CE:Op→Bool
 | .convert _ _ _=>true
 |_=>false
def Oy(tt:TT)(ρ:Operand→AVal)(H:Heap)(op:Op):Option AVal:=
 if UQ op||CE op then(match aop tt ρ H 0 op with
  |some (.val v)=>some v
  |_=>none)else none
theorem E7{tt:TT}{H:Heap}{m m':Nat}{a b:TypeId}{x v:AVal}(h:X9 tt H m a b x=some (.val v)):X9 tt H m' a b x=some (.val v):=by
 unfold X9 at h ⊢
 split at h<;>first|exact h|skip
 ·split at h
  ·split at h<;>cases h
  ·cases h
theorem BW{tt:TT}{ρ:Operand→AVal}{H:Heap}{op:Op}{v:AVal}(h:Oy tt ρ H op=some v)(m:Nat):aop tt ρ H m op=some (.val v):=by
 unfold Oy at h
 split at h
 rotate_left
 ·cases h
 rename_i hc
 split at h
 rotate_left
 ·cases h
 rename_i u hu
 cases h
 rw[Bool.or_eq_true]at hc
 rcases hc with hc|hc
 ·rw[OR hc m 0];exact hu
 ·cases op<;>first|(simp[CE]at hc;done)|skip
  simp only[aop]at hu ⊢
  exact E7 hu
def XB(tt:TT)(ops:Array Oper)(o:Oper)(e:Env)(H:Heap):Option AVal:=
 match Qr ops e o with
 |some false=>some undefA
 |some true=>Oy tt (evE e) (ZI H) o.op
 |none=>none
theorem Vc{tt:TT}{ops:Array Oper}{o:Oper}{e e':Env}(H:Heap)(h:∀x∈o.looksAt ops,e.get x=e'.get x):XB tt ops o e H=XB tt ops o e' H:=by
 unfold XB Oy
 rw[ZD h,Yl o.op (fun y hy=>W5 h hy)]
theorem Kj[Syms]{P:Program}{tt:TT}(htt:TT.ok P tt){N:Nat}{ops:Array Oper}{o:Oper}{e:Env}{H:Heap}{v:AVal}(h:XB tt ops o e H=some v):Xv P N ops o e H v:=by
 unfold XB at h
 split at h
 ·rename_i hw
  cases h
  exact GS hw
 ·rename_i hw
  exact F6 htt hw (fun m=>BW h m)
 ·cases h
theorem Bm[Syms]{P:Program}{tt:TT}(htt:TT.ok P tt){N:Nat}{ops:Array Oper}{o:Oper}{e:Env}{H:Heap}{v:AVal}(h:XB tt ops o e H=some v)(m:Nat):Z4 P N ops o e H m v []:=by
 unfold XB at h
 split at h
 ·rename_i hw
  cases h
  exact Jp hw
 ·rename_i hw
  exact KA htt hw (BW h m) rfl
 ·cases h
theorem Z4.get[Syms]{P:Program}{N:Nat}{ops:Array Oper}{o:Oper}{e e':Env}{H:Heap}{m:Nat}{v:AVal}{news:List (Nat×Blk)}(h:Z4 P N ops o e H m v news)(he:∀t,e.get t=e'.get t):Z4 P N ops o e' H m v news:=
 fun ι a w K Q hd hN hr hH hb hK=>h ι a w K Q hd hN (fun t=>by rw[he t];exact hr t) hH hb hK
def J3(call:CallF)(tt:TT)(N:Nat)(ops:Array Oper)(o:Oper)(e:Env)(H:Heap)(x:Nat):Option (AVal×Heap×Nat):=
 if QZ N o.dst then
  match Qr ops e o with
  |some false=>some (undefA,H,x)
  |some true=>
   match Yk o.op with
   |some (fo,args)=>
    match evE e fo with
    | .func fid caps=>call (Vv fid) (YQ fid (args.toList.map (evE e)) caps) H x
    |_=>none
   |none=>
    match aop tt (evE e) H x o.op with
    |some r=>some (r.v,r.heap H x,r.next x)
    |none=>none
  |none=>none
 else none
theorem Cp{call:CallF}{tt:TT}{N:Nat}{ops:Array Oper}{o:Oper}{e:Env}{H H':Heap}{x x':Nat}{v:AVal}(h:J3 call tt N ops o e H x=some (v,H',x')):QZ N o.dst=true:=by
 unfold J3 at h
 split at h
 ·assumption
 ·cases h
theorem Co[Syms]{P:Program}{call:CallF}{tt:TT}{N:Nat}{ops:Array Oper}{o:Oper}{e:Env}{H H':Heap}{x x':Nat}{v:AVal}(htt:TT.ok P tt)(hcall:call.ok P)(h:J3 call tt N ops o e H x=some (v,H',x'))
 (env':Env) (he:∀t∈o.looksAt ops,env'.get t=e.get t):ZP P N ops o ⟨env',H,x⟩ ⟨env'.put o.dst v,H',x'⟩:=by
 unfold J3 at h
 split at h
 rotate_left
 ·cases h
 rename_i hd
 split at h
 ·rename_i hw
  cases h
  exact W9 (s:=⟨env',H,x⟩) (by rw[ZD he];exact hw) hd
 ·rename_i hw
  split at h
  ·rename_i fo args hc
   obtain⟨argTypes,ho⟩:=Xr hc
   have h1:evE env' fo=evE e fo:=W5 he (by rw[ho];simp[Op.operands,Call.operands])
   have h2:args.toList.map (evE env')=args.toList.map (evE e):=List.map_congr_left fun y hy=>W5 he (by rw[ho];simp[Op.operands,Call.operands];exact .inr (by simpa using hy))
   split at h
   ·rename_i fid caps hf
    obtain⟨g1,g2⟩:=hcall _ _ _ _ _ _ _ h
    exact UL (s:=⟨env',H,x⟩) (by rw[ZD he];exact hw) hd ho (by rw[Yh,h1];exact hf) g1 (by rw[Yh,h2];exact g2)
   ·cases h
  ·split at h
   ·rename_i r hr
    cases h
    exact YZ htt (s:=⟨env',H,x⟩) (by rw[ZD he];exact hw) hd (by rw[Yh,Yl o.op (fun y hy=>W5 he hy)];exact hr)
   ·cases h
 ·cases h
def Wl(call:CallF)(tt:TT)(N:Nat)(ops:Array Oper)(tl:Nat→Bool):Nat→List Oper→Env→Heap→Nat→Option (List AVal×List (Heap×Nat)×Env)
 |_,[],e,H,x=>some ([],[(H,x)],e)
 |i,o::l,e,H,x=>
  match(if tl i then J3 call tt N ops o e H x else if QZ N o.dst then(match XB tt ops o e H with|some v=>some (v,H,x)|none=>none)else none)with
  |some (v,H',x')=>(match Wl call tt N ops tl (i+1) l (e.put o.dst v) H' x' with|some (vs,Ts,e')=>some (v::vs,(H,x)::Ts,e')|none=>none)
  |none=>none
theorem Uw{call:CallF}{tt:TT}{N:Nat}{ops:Array Oper}{tl:Nat→Bool}{env0:Env}:∀(l:List Oper) (i:Nat) (e:Env) (H:Heap) (x:Nat) (vs:List AVal) (Ts:List (Heap×Nat)) (e':Env),(∀j,j<l.length→l[j]?=ops[i+j]?)→Wl call tt N ops tl i l e H x=some (vs,Ts,e')→
 vs.length=l.length∧Ts.length=l.length+1∧Ts.getD 0 ([],0)=(H,x)∧ ∀v:Nat→AVal,(∀j,j<l.length→vs[j]?=some (v (i+j)))→e=Qq env0 (Qe ops) v i→
  e'=Qq env0 (Qe ops) v (i+l.length)∧ ∀k o,k<l.length→ops[i+k]?=some o→QZ N o.dst=true∧
   (tl (i+k)=true→J3 call tt N ops o (Qq env0 (Qe ops) v (i+k)) (Ts.getD k ([],0)).1 (Ts.getD k ([],0)).2=some (v (i+k),(Ts.getD (k+1) ([],0)).1,(Ts.getD (k+1) ([],0)).2))∧
   (tl (i+k)=false→XB tt ops o (Qq env0 (Qe ops) v (i+k)) (Ts.getD k ([],0)).1=some (v (i+k))∧Ts.getD (k+1) ([],0)=Ts.getD k ([],0))
 |[],i,e,H,x,vs,Ts,e',_,h=>by
  simp only[Wl,Option.some.injEq,Prod.mk.injEq]at h
  obtain⟨rfl,rfl,rfl⟩:=h
  exact⟨rfl,rfl,rfl,fun v _ he=>⟨by simpa using he,fun k o hk=>by simp at hk⟩⟩
 |o::l,i,e,H,x,vs,Ts,e',hl,h=>by
  have ho:ops[i]?=some o:=by have:=hl 0 (by simp);simpa using this.symm
  have hl':∀j,j<l.length→l[j]?=ops[i+1+j]?:=fun j hj=>by
   have:=hl (j+1) (by simpa using hj)
   simpa[Nat.add_assoc,Nat.add_comm 1 j]using this
  simp only[Wl]at h
  split at h
  rotate_left
  ·cases h
  rename_i u H1 x1 hop
  split at h
  rotate_left
  ·cases h
  rename_i us Us f hus
  cases h
  obtain⟨i1,i2,i3,i4⟩:=Uw (env0:=env0) l (i+1) _ H1 x1 us Us e' hl' hus
  refine⟨by simp[i1],by simp[i2],rfl,fun v hv he=>?_⟩
  have hvi:v i=u:=by have:=hv 0 (by simp);simpa using this.symm
  have hd:Qe ops i=o.dst:=by simp[Qe,ho]
  obtain⟨j1,j2⟩:=i4 v (fun j hj=>by have:=hv (j+1) (by simpa using hj);simpa[Nat.add_assoc,Nat.add_comm 1 j]using this) (by simp only[Qq,hd,hvi];rw[he])
  refine⟨by rw[j1];simp[Nat.add_assoc,Nat.add_comm 1],fun k p hk hp=>?_⟩
  cases k with
  |zero=>
   have hp:ops[i]?=some p:=by simpa using hp
   rw[ho]at hp
   cases hp
   have e1:((H,x)::Us).getD (0+1) ([],0)=(H1,x1):=by simpa using i3
   have e0:((H,x)::Us).getD 0 ([],0)=(H,x):=rfl
   rw[e1,e0]
   simp only[Nat.add_zero]
   rw[←he,hvi]
   cases ht:tl i with
   |true=>
    rw[ht]at hop
    simp only[if_true]at hop
    exact⟨Cp hop,fun _=>hop,fun h=>by cases h⟩
   |false=>
    rw[ht]at hop
    simp only[Bool.false_eq_true,if_false]at hop
    split at hop
    ·rename_i hdok
     split at hop
     ·rename_i y hy
      cases hop
      exact⟨hdok,fun h=>(by cases h),fun _=>⟨hy,rfl⟩⟩
     ·cases hop
    ·cases hop
  |succ k=>
   have:=j2 k p (by simpa using hk) (by rw[←hp];congr 1;omega)
   have e2:i+1+k=i+(k+1):=by omega
   rw[e2]at this
   simpa using this
def S9(op:Op):Bool:=!(UQ op||CE op)
def tl4(all:Bool)(ops:Array Oper)(i:Nat):Bool:=match ops[i]? with
 |some o=>if all then S9 o.op else Zv o.op
 |none=>false
def Y3(ops:Array Oper)(tl:Nat→Bool)(ms:List Nat)(i:Nat):Bool:=!tl i&&QM (fun t=>!tl t||(ms.getD t 0).testBit i) ops.size
def G7(ops:Array Oper)(tl:Nat→Bool)(ms:List Nat):Bool:=
 V7 ops ms [] ops.size&&
 QM (fun i=>match ops[i]? with
  |some o=>
   QM (fun k=>
    (!(tl i&&tl k&&Nat.blt k i)||(ms.getD i 0).testBit k)&&
    (!(tl i||!Y3 ops tl ms i)||(match ops[k]? with
      |some p=>(match p.dst with
       |some d=>!(o.looksAt ops).contains d||(ms.getD i 0).testBit k
       |none=>true)
      |none=>true))) ops.size
  |none=>true) ops.size
def Zm(tl:Nat→Bool)(n:Nat):Nat→Nat
 |0=>n
 |k+1=>if tl (n-(k+1))then n-(k+1)else Zm tl n k
theorem JI{tl:Nat→Bool}{n:Nat}:∀(k:Nat),k≤n→Zm tl n k≤n∧n-k≤Zm tl n k∧(∀i,n-k≤i→i<Zm tl n k→tl i=false)∧(Zm tl n k<n→tl (Zm tl n k)=true)
 |0,_=>⟨Nat.le_refl _,by simp[Zm],fun i h1 h2=>by simp[Zm]at h2;omega,fun h=>by simp[Zm]at h⟩
 |k+1,hk=>by
  obtain⟨h1,h2,h3,h4⟩:=JI (tl:=tl) (n:=n) k (by omega)
  unfold Zm
  cases ht:tl (n-(k+1))with
  |true=>exact⟨by simp only[if_true];omega,by simp only[if_true];omega,fun i a b=>by simp only[if_true]at b;omega,fun _=>by simpa using ht⟩
  |false=>
   simp only[Bool.false_eq_true,if_false]
   refine⟨h1,by omega,fun i a b=>?_,h4⟩
   rcases Nat.lt_or_ge i (n-k)with h|h
   ·have:i=n-(k+1):=by omega
    rw[this];exact ht
   ·exact h3 i h b
def HL(ops:Array Oper)(tl:Nat→Bool)(ms:List Nat)(i:Nat):Bool:=!QM (fun t=>!(tl t&&(ms.getD i 0).testBit t)) ops.size
def inR(n:Nat)(tl:Nat→Bool)(ms:List Nat)(i j:Nat):Bool:=QM (fun t=>!tl t||(if Nat.blt t j then !(ms.getD t 0).testBit i else !(ms.getD i 0).testBit t)) n
theorem Xt{p:Nat→Bool}:∀{n:Nat},(∀k,k<n→p k=true)→QM p n=true
 |0,_=>rfl
 |n+1,h=>by
  simp only[QM,Bool.and_eq_true]
  exact⟨h n (Nat.lt_succ_self _),Xt fun k hk=>h k (Nat.lt_succ_of_lt hk)⟩
def eqO(a:Option AVal)(v:AVal):Bool:=match a with
 |some u=>eqA u v
 |none=>false
theorem Lu{a:Option AVal}{v:AVal}(h:eqO a v=true):a=some v:=by
 unfold eqO at h
 split at h
 ·rw[UV _ _ h]
 ·cases h
def Kk(tt:TT)(ops:Array Oper)(tl:Nat→Bool)(ms:List Nat)(p:Nat)(E:Env)(vs:List AVal)(nws:List (List (Nat×Blk)))(Ts:List (Heap×Nat)):Bool:=
 QM (fun i=>match ops[i]? with
  |some o=>tl i||Y3 ops tl ms i||((nws.getD i []).isEmpty&&(eqO (XB tt ops o E []) (vs.getD i .any)||
    ((Nat.blt i p||HL ops tl ms i)&&QM (fun j=>!inR ops.size tl ms i j||eqO (XB tt ops o E (Ts.getD (j-p) ([],0)).1) (vs.getD i .any)) (ops.size+1))))
  |none=>true) ops.size
def Xm(all:Bool)(call:CallF)(tt:TT)(N:Nat)(ops:Array Oper)(s:St):Option St:=
 if G7 ops (tl4 all ops) (YP ops)then
  match Yu call tt N ops (YP ops) s 0 (ops.toList.take (Zm (tl4 all ops) ops.size ops.size)) ⟨[],[],s.env,s.heap⟩with
  |some c=>match Wl call tt N ops (tl4 all ops) (Zm (tl4 all ops) ops.size ops.size) (ops.toList.drop (Zm (tl4 all ops) ops.size ops.size)) c.env c.heap (s.nx+ops.size*RR)with
   |some (vs,Ts,E)=>if Kk tt ops (tl4 all ops) (YP ops) (Zm (tl4 all ops) ops.size ops.size) E (c.vals++vs) c.nws Ts then
     some ⟨E,(Ts.getD (ops.size-Zm (tl4 all ops) ops.size ops.size) ([],0)).1,(Ts.getD (ops.size-Zm (tl4 all ops) ops.size ops.size) ([],0)).2⟩else none
   |none=>none
  |none=>none
 else none
theorem ML{H0:Heap}{nw:Nat→List (Nat×Blk)}{q:Nat→Bool}{p:Nat}(h:∀k,p≤k→nw k=[]):∀{n:Nat},p≤n→XA H0 nw q n=XA H0 nw q p
 |0,hp=>by rw[Nat.le_zero.1 hp]
 |n+1,hp=>by
  rcases Nat.lt_or_ge n p with h'|h'
  ·rw[show p=n+1 by omega]
  ·simp only[XA,h n h']
   rw[←ML h h']
   split<;>rfl
theorem WO[Syms]{P:Program}{all:Bool}{call:CallF}{tt:TT}{N:Nat}(htt:TT.ok P tt)(hcall:call.ok P)(hm:P.follows .mixedOrders=true){id:Nat}{ops:Array Oper}{s s':St}(h:Xm all call tt N ops s=some s')
 {Q:Exit→Act→World→Prop} {ι:Inj} {a:Act} {w:World} (hS:RelS N ι s a w) (hQ:∀κ a' w',RelS N κ s' a' w'→StepN ι s.heap s.nx w κ s'.heap s'.nx w'→Q .normal a' w'):(Code.region id ops true).wp P Q a w:=by
 unfold Xm at h
 split at h
 rotate_left
 ·cases h
 rename_i hplan
 have htlsz:∀i,tl4 all ops i=true→i<ops.size:=fun i hi=>by
  unfold tl4 at hi
  split at hi
  ·rename_i o ho;exact(Array.getElem?_eq_some_iff.1 ho).1
  ·cases hi
 generalize hms:YP ops=ms at *
 generalize htl:tl4 all ops=tl at *
 obtain⟨hp1,_,hp3,hp4⟩:=JI (tl:=tl) (n:=ops.size) ops.size (Nat.le_refl _)
 generalize Zm tl ops.size ops.size=p at *
 split at h
 rotate_left
 ·cases h
 rename_i c hc
 split at h
 rotate_left
 ·cases h
 rename_i vs Ts E hch
 split at h
 rotate_left
 ·cases h
 rename_i hlc
 cases h
 replace hp3:∀i,i<p→tl i=false:=fun i hi=>hp3 i (by omega) hi
 simp only[G7,Bool.and_eq_true]at hplan
 obtain⟨hpl1,hpl2⟩:=hplan
 have pl:Plan ops ops.size (fun i k=>(ms.getD i 0).testBit k) nomv:=(Wu hpl1).1
 have at_:∀(i:Nat) (o:Oper),ops[i]?=some o→ ∀k,k<ops.size→(tl i=true→tl k=true→k<i→(ms.getD i 0).testBit k=true)∧
  (tl i=true∨Y3 ops tl ms i=false→ ∀q d,ops[k]?=some q→q.dst=some d→d∈o.looksAt ops→(ms.getD i 0).testBit k=true):=by
  intro i o ho k hk
  have:=Qt hpl2 i (Array.getElem?_eq_some_iff.1 ho).1
  rw[ho]at this
  have:=Qt this k hk
  simp only[Bool.and_eq_true]at this
  obtain⟨g4,g5⟩:=this
  refine⟨fun h1 h2 h3=>?_,fun h1 q d hq hd hl=>?_⟩
  ·have hb:Nat.blt k i=true:=by simpa[Nat.blt_eq]using h3
   simpa[h1,h2,hb]using g4
  ·have h1':(tl i||!Y3 ops tl ms i)=true:=by
    rcases h1 with h|h<;>simp[h]
   rw[h1',hq]at g5
   simp only[Bool.not_true,Bool.false_or,hd]at g5
   simpa[hl]using g5
 have hearlyM:∀k t,Y3 ops tl ms k=true→tl t=true→t<ops.size→(ms.getD t 0).testBit k=true:=by
  intro k t he ht hts
  simp only[Y3,Bool.and_eq_true]at he
  have:=Qt he.2 t hts
  rw[ht]at this
  simpa using this
 have hlate:∀i,p≤i→i<ops.size→Y3 ops tl ms i=false:=by
  intro i hi his
  cases he:Y3 ops tl ms i with
  |false=>rfl
  |true=>
   have:=pl.lt p i (hearlyM i p he (hp4 (by omega)) (by omega))
   omega
 have hlen:(ops.toList.take p).length=p:=by simp;omega
 obtain⟨h1,h2,_,_,h3⟩:=WK (P:=P) htt hcall (ops.toList.take p) 0 _ c (fun j hj=>by
  rw[hlen]at hj
  rw[List.getElem?_take_of_lt hj]
  simp) rfl rfl hc
 rw[hlen,Nat.zero_add]at h1 h2
 have hdl:(ops.toList.drop p).length=ops.size-p:=by simp
 obtain⟨k1,k2,k3,k4⟩:=Uw (env0:=s.env) (ops.toList.drop p) p c.env c.heap _ vs Ts E (fun j hj=>by simp) hch
 rw[hdl]at k1 k2
 obtain⟨v,hv⟩:∃v:Nat→AVal,∀k,v k=(c.vals++vs).getD k .any:=⟨_,fun _=>rfl⟩
 obtain⟨nw,hnw⟩:∃nw:Nat→List (Nat×Blk),∀k,nw k=c.nws.getD k []:=⟨_,fun _=>rfl⟩
 obtain⟨g1,g2,g3⟩:=h3 v nw (fun k hk=>by
  rw[hlen,Nat.zero_add]at hk
  have e1:k<c.vals.length:=by omega
  have e2:k<c.nws.length:=by omega
  refine⟨?_,by rw[hnw];simp[e2]⟩
  rw[hv]
  simp only[List.getD_eq_getElem?_getD]
  rw[List.getElem?_append_left e1]
  simp[e1]) rfl rfl
 rw[hlen,Nat.zero_add]at g1 g2
 have hnwp:∀k,p≤k→nw k=[]:=fun k hk=>by
  rw[hnw]
  simp only[List.getD_eq_getElem?_getD]
  rw[List.getElem?_eq_none (by omega)]
  rfl
 obtain⟨k5,k6⟩:=k4 v (fun j hj=>by
  rw[hdl]at hj
  rw[hv]
  simp only[List.getD_eq_getElem?_getD]
  rw[List.getElem?_append_right (by omega),show p+j-c.vals.length=j by omega]
  have:j<vs.length:=by omega
  simp[this]) g1
 rw[hdl,show p+(ops.size-p)=ops.size by omega]at k5
 rw[hdl]at k6
 have agreeE:∀(i:Nat) (o:Oper),ops[i]?=some o→(tl i=true∨Y3 ops tl ms i=false)→ ∀x∈o.looksAt ops,(Qq s.env (Qe ops) v i).get x=(Qq s.env (Qe ops) v ops.size).get x:=by
  intro i o ho he x hx
  have hi:=(Array.getElem?_eq_some_iff.1 ho).1
  by_cases hex:∃k,k<ops.size∧Qe ops k=some x
  ·obtain⟨k,hk,hd⟩:=hex
   have hk':ops[k]?=some (ops[k]'hk):=Array.getElem?_eq_getElem _
   have hki:=pl.lt i k ((at_ i o ho k hk).2 he _ x hk' (by simpa[Qe,hk']using hd) hx)
   rw[E4 pl (by omega) hki hd,Uc pl hk hd]
  ·rw[Xq (fun k hk hd=>hex ⟨k,by omega,hd⟩),Xq (fun k hk hd=>hex ⟨k,hk,hd⟩)]
 have chk:∀(i:Nat) (o:Oper),ops[i]?=some o→tl i=false→Y3 ops tl ms i=false→nw i=[]∧
  (XB tt ops o E []=some (v i)∨((i<p∨HL ops tl ms i=true)∧ ∀j,j≤ops.size→inR ops.size tl ms i j=true→XB tt ops o E (Ts.getD (j-p) ([],0)).1=some (v i))):=by
  intro i o ho ht he
  have:=Qt hlc i (Array.getElem?_eq_some_iff.1 ho).1
  rw[ho]at this
  simp only[ht,he,Bool.false_or,Bool.and_eq_true,Bool.or_eq_true]at this
  obtain⟨c1,c2⟩:=this
  refine⟨by rw[hnw];simpa using c1,?_⟩
  rcases c2 with c2|⟨c2,c3⟩
  ·exact .inl (by rw[hv];exact Lu c2)
  ·refine .inr ⟨c2.imp (fun h=>by simpa[Nat.blt_eq]using h) (fun h=>h),fun j hj hin=>?_⟩
   have:=Qt c3 j (by omega)
   rw[hin]at this
   rw[hv]
   exact Lu (by simpa using this)
 have hX:s.nx+ops.size*RR=(Ts.getD 0 ([],0)).2:=by rw[k3]
 have hend:ops.size-p=min ops.size ops.size-p:=by simp
 rw[hend,k5]at hQ
 refine MF (M:=fun i k=>(ms.getD i 0).testBit k) (v:=v) (nw:=nw) (tl:=tl) (early:=Y3 ops tl ms) (T:=fun i=>(Ts.getD (min i ops.size-p) ([],0)).1) (X:=fun i=>(Ts.getD (min i ops.size-p) ([],0)).2) hm
  ⟨pl,fun t u ht hu htu hus=>?_,fun k t hk hkt hke ht hts=>hearlyM k t hke ht hts,fun i k o q d hl ho hq hd hlook=>?_,fun i o ho=>?_,fun k id b hin=>?_,fun k hk=>?_,fun i o ho hi hno=>?_,?_,?_,fun i hi=>?_,fun t o ho ht env' hag=>?_,fun i o ho hi he j hj hr1 hr2 env' hag=>?_⟩ hS hQ
 ·exact(at_ u _ (Array.getElem?_eq_getElem hus) t (by omega)).1 hu ht htu
 ·exact(at_ i o ho k (Array.getElem?_eq_some_iff.1 hq).1).2 hl q d hq hd hlook
 ·have hi:=(Array.getElem?_eq_some_iff.1 ho).1
  rcases Nat.lt_or_ge i p with h'|h'
  ·exact(g3 i o (Nat.zero_le _) (by rw[hlen];omega) ho).1
  ·exact(k6 (i-p) o (by omega) (by rw[show p+(i-p)=i by omega];exact ho)).1
 ·rcases Nat.lt_or_ge k p with h'|h'
  ·exact(g3 k _ (Nat.zero_le _) (by rw[hlen];omega) (Array.getElem?_eq_getElem (show k<ops.size by omega))).2.2 id b hin
  ·rw[hnwp k h']at hin;cases hin
 ·rcases Nat.lt_or_ge k p with h'|h'
  ·have hks:k<ops.size:=by omega
   rcases hk with hk|hk
   ·rw[hp3 k h']at hk;cases hk
   ·exact(chk k _ (Array.getElem?_eq_getElem hks) (hp3 k h') hk).1
  ·exact hnwp k h'
 ·have his:=(Array.getElem?_eq_some_iff.1 ho).1
  rcases Nat.lt_or_ge i p with h'|h'
  ·exact(g3 i o (Nat.zero_le _) (by rw[hlen];omega) ho).2.1
  ·have he:=hlate i h' his
   obtain⟨e1,e2⟩:=chk i o ho hi he
   rw[e1]
   have hz:XB tt ops o E []=some (v i):=by
    rcases e2 with e2|⟨e2|e2,_⟩
    ·exact e2
    ·omega
    ·exfalso
     have:QM (fun t=>!(tl t&&(ms.getD i 0).testBit t)) ops.size=true:=Xt fun t ht=>by
      cases htt:tl t with
      |false=>rfl
      |true=>show(!(true&&(ms.getD i 0).testBit t))=true;rw[show(ms.getD i 0).testBit t=false from hno t ht htt];rfl
     unfold HL at e2
     rw[this]at e2
     cases e2
   refine Z4.more (G:=[]) (Bm htt ?_ _) (fun n b hn=>by simp[Heap.get_nil]at hn)
   rw[←hz]
   refine Vc [] (fun x hx=>?_)
   rw[Env.only_get,if_pos (by simpa using hx),k5,agreeE i o ho (.inr he) x hx]
 ·show(Ts.getD (min 0 ops.size-p) ([],0)).1=_
  rw[show min 0 ops.size-p=0 by simp,k3,ML hnwp hp1]
  exact g2
 ·show(Ts.getD (min 0 ops.size-p) ([],0)).2=_
  rw[show min 0 ops.size-p=0 by simp,k3]
 ·show(Ts.getD (min (i+1) ops.size-p) ([],0)).1=(Ts.getD (min i ops.size-p) ([],0)).1∧(Ts.getD (min (i+1) ops.size-p) ([],0)).2=(Ts.getD (min i ops.size-p) ([],0)).2
  rcases Nat.lt_or_ge i ops.size with h'|h'
  ·rcases Nat.lt_or_ge i p with h''|h''
   ·rw[show min (i+1) ops.size-p=0 by omega,show min i ops.size-p=0 by omega]
    exact⟨rfl,rfl⟩
   ·have:=(k6 (i-p) _ (by omega) (by rw[show p+(i-p)=i by omega];exact Array.getElem?_eq_getElem h')).2.2 (by rw[show p+(i-p)=i by omega];exact hi)
    rw[show min (i+1) ops.size-p=i-p+1 by omega,show min i ops.size-p=i-p by omega,this.2]
    exact⟨rfl,rfl⟩
  ·rw[show min (i+1) ops.size=ops.size by omega,show min i ops.size=ops.size by omega]
   exact⟨rfl,rfl⟩
 ·have hts:=(Array.getElem?_eq_some_iff.1 ho).1
  have htp:p≤t:=by
   rcases Nat.lt_or_ge t p with h'|h'
   ·rw[hp3 t h']at ht;cases ht
   ·exact h'
  have:=(k6 (t-p) o (by omega) (by rw[show p+(t-p)=t by omega];exact ho)).2.1 (by rw[show p+(t-p)=t by omega];exact ht)
  rw[show p+(t-p)=t by omega]at this
  show ZP P N ops o ⟨env',(Ts.getD (min t ops.size-p) ([],0)).1,(Ts.getD (min t ops.size-p) ([],0)).2⟩ ⟨env'.put o.dst (v t),(Ts.getD (min (t+1) ops.size-p) ([],0)).1,(Ts.getD (min (t+1) ops.size-p) ([],0)).2⟩
  rw[show min (t+1) ops.size-p=t-p+1 by omega,show min t ops.size-p=t-p by omega]
  exact Co htt hcall this env' (fun x hx=>by rw[hag x hx,agreeE t o ho (.inl ht) x hx])
 ·show Xv P N ops o env' (Ts.getD (min j ops.size-p) ([],0)).1 (v i)
  have hag':∀x∈o.looksAt ops,env'.get x=E.get x:=fun x hx=>by rw[hag x hx,k5]
  rcases(chk i o ho hi he).2 with e2|⟨_,e2⟩
  ·exact Xv.more (G:=[]) (Kj htt (by rw[Vc [] hag'];exact e2)) (fun n b hn=>by simp[Heap.get_nil]at hn)
  ·have:=e2 j hj (Xt fun t ht=>by
    cases htt:tl t with
    |false=>rfl
    |true=>
     rcases Nat.lt_or_ge t j with h'|h'
     ·have hb:Nat.blt t j=true:=by simpa[Nat.blt_eq]using h'
      simpa[hb]using hr1 t h' htt
     ·have hb:Nat.blt t j=false:=by
       cases hbb:Nat.blt t j with
       |false=>rfl
       |true=>rw[Nat.blt_eq]at hbb;omega
      cases hmm:(ms.getD i 0).testBit t with
      |false=>simp[hb]
      |true=>have:=hr2 t ht htt hmm;omega)
   rw[show min j ops.size-p=j-p by omega]
   exact Kj htt (by rw[Vc _ hag'];exact this)
def Yc(call:CallF)(tt:TT)(N:Nat)(keep:List Nat)(ops:Array Oper)(draw:Bool)(s:St):Option St:=
 if draw then
  match Xm true call tt N ops s with
  |some s1=>some s1
  |none=>match Xm false call tt N ops s with
   |some s1=>some s1
   |none=>Yd call tt N keep ops true s
 else Yd call tt N keep ops false s
theorem KW[Syms]{P:Program}{call:CallF}{tt:TT}{N:Nat}{keep:List Nat}(htt:TT.ok P tt)(hcall:call.ok P)(hm:P.follows .mixedOrders=true){id:Nat}{ops:Array Oper}{draw:Bool}{s s':St}(h:Yc call tt N keep ops draw s=some s')
 {Q:Exit→Act→World→Prop} {ι:Inj} {a:Act} {w:World} (hS:RelS N ι s a w) (hQ:∀κ a' w',RelS N κ s' a' w'→StepN ι s.heap s.nx w κ s'.heap s'.nx w'→Q .normal a' w'):(Code.region id ops draw).wp P Q a w:=by
 unfold Yc at h
 split at h
 ·rename_i hd
  subst hd
  split at h
  ·rename_i s1 h1
   cases h
   exact WO htt hcall hm h1 hS hQ
  ·split at h
   ·rename_i s1 h1
    cases h
    exact WO htt hcall hm h1 hS hQ
   ·exact Vr htt hcall hm h hS hQ
 ·rename_i hd
  have:draw=false:=by simpa using hd
  subst this
  exact Vr htt hcall hm h hS hQ
end Go.Av
end
end
section
set_option linter.unusedVariables false
set_option linter.unusedSimpArgs false
noncomputable section
namespace Go.Av
inductive Ex where
 |normal|exit (id:Nat)|goto (l:Nat)|ret
def Ex.out:Ex→Exit
 | .normal=>.normal
 | .exit id=>.exit id
 | .goto l=>.goto l
 | .ret=>.ret
def Z9(call:CallF)(tt:TT)(N:Nat)(keep:List Nat)(run:Option Code→Code→St→Option (Ex×St))(c:Code)(s:St):Option (Ex×St):=
 match c with
 | .skip| .label _=>some (.normal,s)
 | .exit id=>some (.exit id,s)
 | .goto l=>some (.goto l,s)
 | .ret=>some (.ret,s)
 | .region _ ops draw=>match Yc call tt N keep ops draw s with
   |some s1=>some (.normal,⟨prune keep s1.env,s1.heap,s1.nx⟩)
   |none=>none
 | .seq x y=>match run none x s with
   |some (.normal,s1)=>run none y s1
   |r=>r
 | .cond c x y=>match s.ev c with
   | .bool t=>run none (if t then x else y) s
   |_=>none
 | .block id b=>match run none b s with
   |some (.exit id',s1)=>if id'=id then some (.normal,s1)else some (.exit id',s1)
   |r=>r
 | .loop b=>match run none b s with
   |some (.normal,s1)=>run none (.loop b) s1
   |r=>r
 | .scope b=>run (some b) b s
 |_=>none
def WW(run:Option Code→Code→St→Option (Ex×St))(b c:Code)(s:St):Option (Ex×St):=
 match run none c s with
 |some (.goto l,s1)=>match findLabel b l with
  |some rest=>run (some b) rest s1
  |none=>some (.goto l,s1)
 |r=>r
def YX(call:CallF)(tt:TT)(N:Nat)(keep:List Nat)(f:Nat):Option Code→Code→St→Option (Ex×St):=
 @Nat.rec (fun _=>Option Code→Code→St→Option (Ex×St)) (fun _ _ _=>none) (fun _ ih sc c s=>@Option.rec Code (fun _=>Option (Ex×St)) (Z9 call tt N keep ih c s) (fun b=>WW ih b c s) sc) f
theorem Z3(call:CallF)(tt:TT)(N:Nat)(keep:List Nat)(f:Nat)(c:Code)(s:St):YX call tt N keep (f+1) none c s=Z9 call tt N keep (YX call tt N keep f) c s:=rfl
theorem Dn(call:CallF)(tt:TT)(N:Nat)(keep:List Nat)(f:Nat)(b c:Code)(s:St):YX call tt N keep (f+1) (some b) c s=WW (YX call tt N keep f) b c s:=rfl
def Uh(P:Program)(c x:Code)(Q:Exit→Act→World→Prop)(a:Act)(w:World):Prop:=
 ∀(b:Frame) (k:List Item) (cs:List Frame),∃e a' w',Q e a' w'∧Arrives P (lone (b.at a (.code x:: .inScope c::k)) cs w) b k cs e a' w'
theorem Vw{P:Program}{c:Code}{Q:Exit→Act→World→Prop}{a:Act}{w:World}(h:Uh P c c Q a w):(Code.scope c).wp P Q a w:=
 fun b k cs=>let⟨e,a',w',hq,harr⟩:=h b k cs;⟨e,a',w',hq,.of_steps (.one step_scope) harr⟩
theorem Ya{P:Program}{c x:Code}{Q:Exit→Act→World→Prop}{a:Act}{w:World}
 (h:x.wp P (fun e a w=>(∃l rest,e= .goto l∧findLabel c l=some rest∧Uh P c rest Q a w)∨((∀l,e= .goto l→findLabel c l=none)∧Q e a w)) a w):Uh P c x Q a w:=by
 intro b k cs
 obtain⟨e,a₁,w₁,hq,harr⟩:=h b (.inScope c::k) cs
 rcases hq with⟨l,rest,rfl,hf,hs⟩|⟨hno,hq⟩
 ·have hg:gotoIn l (.inScope c::k)=some (.code rest:: .inScope c::k):=by simp[gotoIn,hf]
  obtain⟨e₂,a₂,w₂,hq₂,harr₂⟩:=hs b k cs
  exact⟨e₂,a₂,w₂,hq₂,.of_steps (harr _ hg) harr₂⟩
 ·cases e with
  |normal=>exact⟨.normal,a₁,w₁,hq,Steps.trans harr (.one step_inScope)⟩
  |exit id=>exact⟨.exit id,a₁,w₁,hq,fun k' hk=>harr k' (by simp[exitTo,hk])⟩
  |goto l=>exact⟨.goto l,a₁,w₁,hq,fun k' hk=>harr k' (by simp[gotoIn,hno l rfl,hk])⟩
  |ret=>exact⟨_,a₁,w₁,hq,harr⟩
  |panic ch=>exact⟨_,a₁,w₁,hq,harr⟩
  |outgrown=>exact⟨_,a₁,w₁,hq,harr⟩
def Jv(P:Program)(c:Code)(Q:Exit→Act→World→Prop)(a:Act)(w:World):Prop:=
 ∀(b:Frame) (k:List Item) (cs:List Frame),∃e a' w',Q e a' w'∧Arrives P (lone (b.at a (.code c:: .inLoop c::k)) cs w) b k cs e a' w'
theorem Gg{P:Program}{c:Code}{Q:Exit→Act→World→Prop}{a:Act}{w:World}(h:Jv P c Q a w):(Code.loop c).wp P Q a w:=
 fun b k cs=>let⟨e,a',w',hq,harr⟩:=h b k cs;⟨e,a',w',hq,.of_steps (.one step_loop) harr⟩
theorem F7{P:Program}{c:Code}{Q:Exit→Act→World→Prop}{a:Act}{w:World}(h:c.wp P (Exit.then (Jv P c Q) Q) a w):Jv P c Q a w:=by
 intro b k cs
 obtain⟨e,a₁,w₁,hq,harr⟩:=h b (.inLoop c::k) cs
 cases e with
 |normal=>
  obtain⟨e₂,a₂,w₂,hq₂,harr₂⟩:=hq b k cs
  exact⟨e₂,a₂,w₂,hq₂,.of_steps (Steps.trans harr (.one step_inLoop)) harr₂⟩
 |exit id=>exact⟨_,a₁,w₁,hq,.pass (x:=.inLoop c) rfl (fun _ _=>.inl (by simp)) harr⟩
 |goto l=>exact⟨_,a₁,w₁,hq,.pass (x:=.inLoop c) rfl (fun _ _=>.inl (by simp)) harr⟩
 |ret=>exact⟨_,a₁,w₁,hq,.pass (x:=.inLoop c) rfl (fun _ _=>.inl (by simp)) harr⟩
 |panic ch=>exact⟨_,a₁,w₁,hq,.pass (x:=.inLoop c) rfl (fun _ _=>.inl (by simp)) harr⟩
 |outgrown=>exact⟨_,a₁,w₁,hq,.pass (x:=.inLoop c) rfl (fun _ _=>.inl (by simp)) harr⟩
def CW(P:Program):Option Code→Code→(Exit→Act→World→Prop)→Act→World→Prop
 |some b,c,Q,a,w=>Uh P b c Q a w
 |none,c,Q,a,w=>c.wp P Q a w∧ ∀b,c= .loop b→Jv P b Q a w
theorem Xa[Syms]{P:Program}{call:CallF}{tt:TT}{N:Nat}{keep:List Nat}(htt:TT.ok P tt)(hcall:call.ok P)(hm:P.follows .mixedOrders=true):∀(f:Nat) (sc:Option Code) (c:Code) (s:St) (e:Ex) (s':St),YX call tt N keep f sc c s=some (e,s')→
 ∀(Q:Exit→Act→World→Prop) (ι:Inj) (a:Act) (w:World),RelS N ι s a w→(∀κ a' w',RelS N κ s' a' w'→StepN ι s.heap s.nx w κ s'.heap s'.nx w'→Q e.out a' w')→CW P sc c Q a w
 |0,_,_,_,_,_,h=>nomatch h
 |f+1,some b,c,s,e,s',h=>by
  intro Q ι a w hS hQ
  simp only[Dn,WW]at h
  split at h
  ·rename_i l s1 h1
   split at h
   ·rename_i rest hf
    refine Ya (Xa htt hcall hm f none c s _ s1 h1 _ ι a w hS (fun κ a' w' hS' hst=>?_)).1
    exact .inl ⟨l,rest,rfl,hf,Xa htt hcall hm f (some b) rest s1 e s' h Q κ a' w' hS' (fun μ a'' w'' hS'' hst'=>hQ μ a'' w'' hS'' (hst.trans hst'))⟩
   ·rename_i hf
    cases h
    refine Ya (Xa htt hcall hm f none c s _ s' h1 _ ι a w hS (fun κ a' w' hS' hst=>?_)).1
    exact .inr ⟨fun l' hl=>by cases hl;exact hf,hQ κ a' w' hS' hst⟩
  ·rename_i r hno
   refine Ya (Xa htt hcall hm f none c s e s' h _ ι a w hS (fun κ a' w' hS' hst=>?_)).1
   refine .inr ⟨fun l' hl=>?_,hQ κ a' w' hS' hst⟩
   cases e with
   |goto l2=>exact absurd h (hno l2 s')
   |_=>cases hl
 |f+1,none,c,s,e,s',h=>by
  intro Q ι a w hS hQ
  have ih:=Xa htt hcall hm (P:=P) (call:=call) (tt:=tt) (N:=N) (keep:=keep) f
  cases c with
  |skip=>simp only[Z3,Z9]at h;cases h;exact⟨wp_skip (hQ ι a w hS (StepN.refl ..)),fun b hb=>by cases hb⟩
  |label l=>simp only[Z3,Z9]at h;cases h;exact⟨wp_label (hQ ι a w hS (StepN.refl ..)),fun b hb=>by cases hb⟩
  |exit id=>simp only[Z3,Z9]at h;cases h;exact⟨wp_exit (hQ ι a w hS (StepN.refl ..)),fun b hb=>by cases hb⟩
  |goto l=>simp only[Z3,Z9]at h;cases h;exact⟨wp_goto (hQ ι a w hS (StepN.refl ..)),fun b hb=>by cases hb⟩
  |ret=>simp only[Z3,Z9]at h;cases h;exact⟨wp_ret (hQ ι a w hS (StepN.refl ..)),fun b hb=>by cases hb⟩
  |region id ops draw=>
   simp only[Z3,Z9]at h
   split at h
   ·rename_i s1 h1
    cases h
    exact⟨KW htt hcall hm h1 hS (fun κ a' w' hS' hst=>hQ κ a' w' (hS'.prune keep) hst),fun b hb=>by cases hb⟩
   ·cases h
  |seq x y=>
   refine⟨wp_seq ?_,fun b hb=>by cases hb⟩
   simp only[Z3,Z9]at h
   split at h
   ·rename_i s1 h1
    refine(ih none x s _ s1 h1 _ ι a w hS (fun κ a' w' hS' hst=>?_)).1
    exact(ih none y s1 e s' h Q κ a' w' hS' (fun μ a'' w'' hS'' hst'=>hQ μ a'' w'' hS'' (hst.trans hst'))).1
   ·rename_i r hno
    refine(ih none x s e s' h _ ι a w hS (fun κ a' w' hS' hst=>?_)).1
    have:=hQ κ a' w' hS' hst
    cases e with
    |normal=>exact absurd h (hno s')
    |_=>exact this
  |cond c x y=>
   refine⟨?_,fun b hb=>by cases hb⟩
   simp only[Z3,Z9]at h
   split at h
   ·rename_i t hc
    have hv:=hS.ev c
    rw[hc]at hv
    exact wp_cond hv.of_bool (ih none _ s e s' h Q ι a w hS hQ).1
   ·cases h
  |block id b=>
   refine⟨wp_block ?_,fun b hb=>by cases hb⟩
   simp only[Z3,Z9]at h
   split at h
   ·rename_i id' s1 h1
    refine(ih none b s _ s1 h1 _ ι a w hS (fun κ a' w' hS' hst=>?_)).1
    show Exit.inBlock id Q (.exit id') a' w'
    simp only[Exit.inBlock]
    split at h
    ·rename_i he
     cases h
     rw[if_pos he]
     exact hQ κ a' w' hS' hst
    ·rename_i he
     cases h
     rw[if_neg he]
     exact hQ κ a' w' hS' hst
   ·rename_i r hno
    refine(ih none b s e s' h _ ι a w hS (fun κ a' w' hS' hst=>?_)).1
    have:=hQ κ a' w' hS' hst
    cases e with
    |exit id'=>exact absurd h (hno id' s')
    |_=>exact this
  |loop b=>
   have key:Jv P b Q a w:=by
    refine F7 ?_
    simp only[Z3,Z9]at h
    split at h
    ·rename_i s1 h1
     refine(ih none b s _ s1 h1 _ ι a w hS (fun κ a' w' hS' hst=>?_)).1
     exact(ih none (.loop b) s1 e s' h Q κ a' w' hS' (fun μ a'' w'' hS'' hst'=>hQ μ a'' w'' hS'' (hst.trans hst'))).2 b rfl
    ·rename_i r hno
     refine(ih none b s e s' h _ ι a w hS (fun κ a' w' hS' hst=>?_)).1
     have:=hQ κ a' w' hS' hst
     cases e with
     |normal=>exact absurd h (hno s')
     |_=>exact this
   exact⟨Gg key,fun b' hb=>by cases hb;exact key⟩
  |scope b=>
   refine⟨?_,fun b hb=>by cases hb⟩
   simp only[Z3,Z9]at h
   exact Vw (ih (some b) b s e s' h Q ι a w hS hQ)
  |rangeFunc _ _ _ _=>simp[Z3,Z9]at h
  |refuse _=>simp[Z3,Z9]at h
end Go.Av
end
end
section
set_option linter.unusedVariables false
set_option linter.unusedSimpArgs false
noncomputable section
namespace Go.Av
structure FnA where
 code:Code
 keep:List Nat
 n:Nat
 res:List ResultVar
abbrev FT:=FuncId→Option FnA
def FT.ok (P : Program) (ft : FT) : Prop := ∀ f a, ft f = some a → ∃ fn, P.funcs[f]? = some fn ∧ fn.body = some a.code ∧ fn.ntmps = a.n ∧ fn.results.toList = a.res ∧ (fn.name == "runtime.NumGoroutine") = false
def Nz(tt:TT)(s:St):ResultVar→Option AVal
 | .tmp t=>some (s.env.get t)
 | .cell a t=>Uz tt s.heap t (s.env.get a)
def B1(tt:TT)(s:St):List ResultVar→Option (List AVal)
 |[]=>some []
 |r::l=>match Nz tt s r,B1 tt s l with
  |some v,some vs=>some (v::vs)
  |_,_=>none
def X6(tt:TT)(s:St)(l:List ResultVar):Option AVal:=
 match B1 tt s l with
 |some [v]=>some v
 |some vs=>some (.tup vs)
 |none=>none
def IE(tmps:Array Value):ResultVar→Sem Value
 | .tmp t=>pure (tmps.getD t undef)
 | .cell a t=>do loadVar t (←asAddr (tmps.getD a undef))
theorem Cj[Syms]{P:Program}{tt:TT}{N:Nat}{ι:Inj}{s:St}{a:Act}{w:World}(htt:TT.ok P tt)(hS:RelS N ι s a w){r:ResultVar}{v:AVal}(h:Nz tt s r=some v):
 ∃x,RelV ι v x∧(IE a.tmps r).run P w= .ok x w:=by
 cases r with
 |tmp t=>
  simp only[Nz,Option.some.injEq]at h
  subst h
  exact⟨_,hS.env t,by simp[IE,Sem.run_pure]⟩
 |cell b t=>
  simp only[Nz]at h
  obtain⟨x,hx,hr⟩:=JR htt hS.heap (hS.env b) h
  refine⟨x,hr,?_⟩
  have hp:∃A,a.tmps.getD b undef= .pointer (some A):=by
   have hv:=hS.env b
   unfold Uz at h
   split at h
   ·rename_i n k j hp
    rw[hp]at hv
    obtain⟨L,_,hL⟩:=hv.of_ptr
    exact⟨_,hL⟩
   ·rename_i row j hp
    rw[hp]at hv
    obtain⟨g,b,cs,_,_,_,_,hL⟩:=hv.of_vp
    exact⟨_,hL⟩
   ·cases h
  obtain⟨A,hL⟩:=hp
  simp only[IE]
  rw[hL]at hx ⊢
  simpa[Instr.loadAt,Instr.sureAddr,asAddr,Sem.run_bind,Sem.run_pure]using hx
theorem Jz[Syms]{P:Program}{tt:TT}{N:Nat}{ι:Inj}{s:St}{a:Act}{w:World}(htt:TT.ok P tt)(hS:RelS N ι s a w):∀{l:List ResultVar} {vs:List AVal},B1 tt s l=some vs→
 ∃rs:List Value,Qz ι vs rs∧(l.mapM (IE a.tmps)).run P w= .ok rs w
 |[],vs,h=>by
  cases h
  exact⟨[],.nil ι,by simp[Sem.run_pure]⟩
 |r::l,vs,h=>by
  simp only[B1]at h
  split at h
  ·rename_i v us h1 h2
   cases h
   obtain⟨rs,e1,e2⟩:=Jz htt hS h2
   obtain⟨x,hx,hrun⟩:=Cj htt hS h1
   refine⟨x::rs,.cons hx e1,?_⟩
   rw[List.mapM_cons]
   simp only[Sem.run_bind,hrun,e2,Result.andThen_ok,Sem.run_pure]
  ·cases h
theorem VD[Syms]{P:Program}{tt:TT}{N:Nat}{ι:Inj}{s:St}{a:Act}{w:World}{fn:Func}{v:AVal}(htt:TT.ok P tt)(hS:RelS N ι s a w)(h:X6 tt s fn.results.toList=some v):
 ∃r,(results fn a.tmps).run P w= .ok r w∧RelV ι v r:=by
 unfold X6 at h
 have base:∀vs,B1 tt s fn.results.toList=some vs→ ∃rs:List Value,Qz ι vs rs∧(results fn a.tmps).run P w= .ok (if h:rs.toArray.size=1 then rs.toArray[0]else .tuple rs.toArray) w:=by
  intro vs hvs
  obtain⟨rs,h1,h2⟩:=Jz htt hS hvs
  refine⟨rs,h1,?_⟩
  have:results fn a.tmps=(do let vs←fn.results.mapM (IE a.tmps);pure (if h:vs.size=1 then vs[0]else .tuple vs)):=rfl
  rw[this,Array.mapM_eq_mapM_toList]
  simp only[map_eq_pure_bind,Sem.run_bind,h2,Result.andThen_ok,Sem.run_pure]
 split at h
 ·rename_i x hx
  cases h
  obtain⟨rs,h1,h2⟩:=base _ hx
  obtain⟨r,rs',rfl,hr,hr'⟩:=h1.uncons
  rw[hr'.unnil]at h2
  exact⟨r,by simpa using h2,hr⟩
 ·rename_i vs hne hx
  cases h
  obtain⟨rs,h1,h2⟩:=base _ hx
  refine⟨_,h2,?_⟩
  have hlen:¬rs.toArray.size=1:=by
   intro hc
   have h1:=h1.1
   have hc:rs.length=1:=by simpa using hc
   rw[hc]at h1
   obtain⟨v,rfl⟩:=List.length_eq_one_iff.1 h1
   exact hne v rfl
  rw[dif_neg hlen]
  exact .mk_tup h1
 ·cases h
def Wm:Nat→List AVal→Env
 |_,[]=>[]
 |k,v::l=>(k,v)::Wm (k+1) l
theorem K0[Syms]:∀{args:List AVal} {k j:Nat},(Wm k args).get j=if k≤j then args.getD (j-k) .any else .any
 |[],k,j=>by simp[Wm,Env.get_nil,Env.get_cons]
 |v::l,k,j=>by
  simp only[Wm,Env.get_nil,Env.get_cons]
  by_cases h:j=k
  ·subst h;simp[Nat.beq_refl]
  ·rw[QE h]
   simp only[cond_false,K0 (args:=l)]
   by_cases hk:k≤j
   ·rw[if_pos (by omega),if_pos hk,show j-k=(j-(k+1))+1 by omega]
    simp
   ·rw[if_neg (by omega),if_neg hk]
theorem KD[Syms]{P:Program}{ft:FT}{tt:TT}{call:CallF}{g:Nat}{f:FuncId}{fa:FnA}{args:List AVal}{H:Heap}{nx:Nat}{e:Ex}{s:St}{v:AVal}(htt:TT.ok P tt)(hft:FT.ok P ft)(hcall:call.ok P)(hm:P.follows .mixedOrders=true)
 (hf:ft f=some fa) (hrun:YX call tt fa.n fa.keep g none fa.code ⟨Wm 0 args,H,nx⟩=some (e,s)) (he:e= .normal∨e= .ret) (hv:X6 tt s fa.res=some v):X1 P f args H nx v s.heap s.nx:=by
 intro ι w vs ha hH hb
 obtain⟨fn,h1,h2,h3,h4,h5⟩:=hft f fa hf
 have hlen:=ha.1
 refine calls_of_wp h1 h2 ?_
 have hS:RelS fa.n ι ⟨Wm 0 args,H,nx⟩ {tmps:=⟨vs⟩++Array.replicate (fn.ntmps-(⟨vs⟩:Array Value).size) undef,defers:=[]} w:=by
  refine⟨rfl,?_,fun k=>?_,hH,hb⟩
  ·simp[h3];omega
  ·rw[K0]
   simp only[Nat.zero_le,if_true,Nat.sub_zero]
   rcases Nat.lt_or_ge k args.length with hk|hk
   ·have e1:args.getD k .any=args[k]:=by simp[hk]
    have hk':k<vs.length:=by omega
    rw[e1]
    have:=ha.2 k _ _ (by simp[hk]:args[k]?=some args[k]) (by simp[hk']:vs[k]?=some vs[k])
    simpa[Array.getElem?_append,hk']using this
   ·have e1:args.getD k .any= .any:=by simp[hk]
    rw[e1]
    exact .any _
 refine(Xa htt hcall hm g none fa.code _ e s hrun (bodyPost P fn _) ι _ w hS (fun κ a' w' hS' hst=>?_)).1
 rw[←h4]at hv
 obtain⟨r,hr,hrv⟩:=VD htt hS' hv
 rcases he with rfl|rfl
 ·exact⟨hS'.defers,r,hr,r,κ,rfl,hrv,hS'.heap,hst,hS'.bound⟩
 ·exact⟨hS'.defers,r,hr,r,κ,rfl,hrv,hS'.heap,hst,hS'.bound⟩
theorem FT.ok.fnOk{P:Program}{ft:FT}(h:FT.ok P ft){f:FuncId}{fa:FnA}(hf:ft f=some fa):VY P f:=by
 obtain⟨fn,h1,h2,h3,h4,h5⟩:=h f fa hf
 exact⟨fn,h1,h5,by simp[h2]⟩
end Go.Av
end
end
section
set_option linter.unusedVariables false
set_option linter.unusedSimpArgs false
noncomputable section
namespace Go.Av
inductive Tr(α:Type) where
 |nil
 |node (l:Tr α) (k:Nat) (v:α) (r:Tr α)
def Tr.find{α:Type}(x:Tr α)(t:Nat):Option α:=@Tr.rec α (fun _=>Option α) none (fun _ k v _ a b=>@Bool.rec (fun _=>Option α) (@Bool.rec (fun _=>Option α) b a (Nat.blt t k)) (some v) (Nat.beq t k)) x
theorem Tr.find_node{α:Type}(l:Tr α)(k:Nat)(v:α)(r:Tr α)(t:Nat):(Tr.node l k v r).find t=bif Nat.beq t k then some v else bif Nat.blt t k then l.find t else r.find t:=by
 show @Bool.rec (fun _=>Option α) (@Bool.rec (fun _=>Option α) (r.find t) (l.find t) (Nat.blt t k)) (some v) (Nat.beq t k)=_
 cases Nat.beq t k<;>cases Nat.blt t k<;>rfl
def Tr.all{α:Type}(p:Nat→α→Bool):Tr α→Bool
 | .nil=>true
 | .node l k v r=>p k v&&l.all p&&r.all p
def Tr.All{α:Type}(p:Nat→α→Prop):Tr α→Prop
 | .nil=>True
 | .node l k v r=>p k v∧l.All p∧r.All p
theorem Tr.find_All[Syms]{α:Type}{p:Nat→α→Prop}:∀{t:Tr α} {n:Nat} {v:α},t.All p→t.find n=some v→p n v
 | .nil,n,v,_,h=>by cases h
 | .node l k u r,n,v,ha,h=>by
   simp only[Tr.find_node]at h
   cases hb:Nat.beq n k with
   |true=>
    rw[hb]at h
    simp only[cond_true,Option.some.injEq]at h
    subst h
    rw[Nat.eq_of_beq_eq_true hb]
    exact ha.1
   |false=>
    rw[hb]at h
    simp only[cond_false]at h
    cases hc:Nat.blt n k with
    |true=>rw[hc]at h;exact Tr.find_All ha.2.1 h
    |false=>rw[hc]at h;exact Tr.find_All ha.2.2 h
theorem Tr.find_all[Syms]{α:Type}{p:Nat→α→Bool}:∀{t:Tr α} {n:Nat} {v:α},t.all p=true→t.find n=some v→p n v=true
 | .nil,n,v,_,h=>by cases h
 | .node l k u r,n,v,ha,h=>by
   simp only[Tr.all,Bool.and_eq_true]at ha
   simp only[Tr.find_node]at h
   cases hb:Nat.beq n k with
   |true=>
    rw[hb]at h
    simp only[cond_true,Option.some.injEq]at h
    subst h
    rw[Nat.eq_of_beq_eq_true hb]
    exact ha.1.1
   |false=>
    rw[hb]at h
    simp only[cond_false]at h
    cases hc:Nat.blt n k with
    |true=>rw[hc]at h;exact Tr.find_all ha.1.2 h
    |false=>rw[hc]at h;exact Tr.find_all ha.2 h
def QH(t:Tr Ty):TT:=fun n=>t.find n
theorem Ip[Syms]{P:Program}{t:Tr Ty}(h:t.all (FG P)=true):TT.ok P (QH t):=fun _ _ hf=>Tr.find_all h hf
def S0(p:Func×List Nat):FnA:=⟨p.1.body.getD .skip,p.2,p.1.ntmps,p.1.results.toList⟩
def QK(t:Tr (Func×List Nat)):FT:=fun n=>match t.find n with|some p=>some (S0 p)|none=>none
def Nc (P : Program) (n : Nat) (p : Func × List Nat) : Prop := P.funcs[n]? = some p.1 ∧ p.1.body.isSome = true ∧ (p.1.name == "runtime.NumGoroutine") = false
theorem Lp[Syms]{P:Program}{t:Tr (Func×List Nat)}(h:t.All (Nc P)):FT.ok P (QK t):=by
 intro f a hf
 unfold QK at hf
 split at hf
 ·rename_i p hp
  cases hf
  obtain⟨h1,h2,h3⟩:=Tr.find_All h hp
  obtain⟨c,hc⟩:=Option.isSome_iff_exists.1 h2
  exact⟨p.1,h1,by simp[S0,hc],rfl,rfl,h3⟩
 ·cases hf
def V9(c d:CallF):CallF:=fun f args H nx=>match c f args H nx with
 |some r=>some r
 |none=>d f args H nx
theorem WR[Syms]{P:Program}{c d:CallF}(h:c.ok P)(k:d.ok P):(V9 c d).ok P:=by
 intro f args H nx v H' nx' hr
 unfold V9 at hr
 split at hr
 ·rename_i r h1
  cases hr
  exact h _ _ _ _ _ _ _ h1
 ·exact k _ _ _ _ _ _ _ hr
def US(call:CallF)(ft:FT)(tt:TT)(fuel:Nat):CallF:=fun f args H nx=>
 match ft f with
 |some fa=>
  match YX call tt fa.n fa.keep fuel none fa.code ⟨Wm 0 args,H,nx⟩with
  |some (.normal,s)|some (.ret,s)=>match X6 tt s fa.res with
   |some v=>some (v,s.heap,s.nx)
   |none=>none
  |_=>none
 |none=>none
theorem Jf[Syms]{P:Program}{call:CallF}{ft:FT}{tt:TT}{fuel:Nat}(hcall:call.ok P)(htt:TT.ok P tt)(hft:FT.ok P ft)(hm:P.follows .mixedOrders=true):(US call ft tt fuel).ok P:=by
 intro f args H nx v H' nx' h
 simp only[US]at h
 split at h
 rotate_left
 ·cases h
 rename_i fa hf
 refine⟨hft.fnOk hf,?_⟩
 split at h
 ·rename_i s hs
  split at h
  ·rename_i v' hv
   cases h
   exact KD htt hft hcall hm hf hs (.inl rfl) hv
  ·cases h
 ·rename_i s hs
  split at h
  ·rename_i v' hv
   cases h
   exact KD htt hft hcall hm hf hs (.inr rfl) hv
  ·cases h
 ·cases h
def AVal.closed1:AVal→Bool
 | .bool _| .int _ _| .str _| .nilp| .nils| .nilf| .nili| .sym _=>true
 |_=>false
def AVal.closed:AVal→Bool
 | .agg cs| .tup cs=>cs.all AVal.closed1
 |v=>v.closed1
theorem RelV.closed1[Syms]{ι κ:Inj}{x:AVal}{v:Value}(hx:x.closed1=true)(h:RelV κ x v):RelV ι x v:=by
 cases h<;>simp[AVal.closed1]at hx<;>constructor
theorem Qz.closed1[Syms]{ι κ:Inj}{xs:List AVal}{vs:List Value}(hx:xs.all AVal.closed1=true)(h:Qz κ xs vs):Qz ι xs vs:=
 ⟨h.1,fun i c v h1 h2=>(h.2 i c v h1 h2).closed1 (List.all_eq_true.1 hx c (List.mem_of_getElem? h1))⟩
theorem RelV.closed[Syms]{ι κ:Inj}{x:AVal}{v:Value}(hx:x.closed=true)(h:RelV κ x v):RelV ι x v:=by
 cases x with
 |agg cs=>
  obtain⟨vs,rfl,hl⟩:=h.of_agg
  exact .mk_agg (hl.closed1 hx)
 |tup cs=>
  obtain⟨vs,rfl,hl⟩:=h.of_tup
  exact .mk_tup (hl.closed1 hx)
 |_=>exact h.closed1 hx
theorem C2[Syms]{P:Program}{f:FuncId}{args:List AVal}{H:Heap}{nx:Nat}{v:AVal}{H':Heap}{nx':Nat}(h:X1 P f args (ZI H) nx v H' nx')(hv:v.closed=true):X1 P f args H nx v H nx:=by
 intro ι w vs ha hH hb
 have hro:RelH ι (ZI H) w:=by
  refine⟨fun m b hb=>?_,fun m m' b b' L L' h1 h2 _ _ _=>.inr ?_,fun g cs hg=>⟨(hH.fz g cs hg).1,ZO⟩⟩
  ·obtain⟨rows,ro,hb1,rfl⟩:=Zx hb
   obtain⟨L,hL,hB⟩:=hH.blk m _ hb1
   obtain⟨cs,e,fz,h1,h2,h3,h4,h5⟩:=hB.rows
   exact⟨L,hL,Zf.mk h1 h2 h3 h4 (fun h=>by cases h) (hB.ty h1)⟩
  ·obtain⟨_,_,_,rfl⟩:=Zx h1
   obtain⟨_,_,_,rfl⟩:=Zx h2
   exact⟨rfl,rfl⟩
 refine(h ι w vs ha hro hb).mono ?_
 rintro e w' ⟨r,κ,rfl,hr,_,hst,_⟩
 have hno:∀g,¬Own ι (ZI H) g:=by
  rintro g ⟨n,b,L,h1,h2,_⟩
  obtain⟨_,_,_,rfl⟩:=Zx h1
  cases h2
 have same:∀g,g<w.heap.size→w'.heap[g]?=w.heap[g]?:=fun g hg=>hst.st.same g hg (hno g)
 have stp:Step ι H w ι H w':=⟨Inj.le_refl ι,hst.st.os,hst.st.tape,hst.st.output,hst.st.size,fun g hg _=>same g hg,fun g hg=>.inl hg,fun _ _ h=>.inl h⟩
 refine⟨r,ι,rfl,hr.closed hv,⟨fun n b hn=>?_,hH.inj,hH.fz_keep stp rfl⟩,⟨stp,Nat.le_refl _,fun n L hn=>.inl hn⟩,fun n L hn=>⟨(hb n L hn).1,Nat.lt_of_lt_of_le (hb n L hn).2 hst.st.size⟩⟩
 obtain⟨L,hL,hB⟩:=hH.blk n b hn
 exact⟨L,hL,hB.keep (Inj.le_refl ι) (same _ (hb n L hL).2)⟩
def VE(c:CallF):CallF:=fun f args H nx=>match c f args (ZI H) nx with
 |some (v,_,_)=>if v.closed then some (v,H,nx)else none
 |none=>none
theorem B6[Syms]{P:Program}{c:CallF}(h:c.ok P):(VE c).ok P:=by
 intro f args H nx v H' nx' hr
 unfold VE at hr
 split at hr
 ·rename_i u H1 nx1 h1
  split at hr
  ·rename_i hc
   cases hr
   obtain⟨g1,g2⟩:=h _ _ _ _ _ _ _ h1
   exact⟨g1,C2 g2 hc⟩
  ·cases hr
 ·cases hr
def Wr(p:FuncId→Bool)(c d:CallF):CallF:=fun f args H nx=>@Bool.rec (fun _=>Option (AVal×Heap×Nat)) (d f args H nx) (c f args H nx) (p f)
theorem Gv[Syms]{P:Program}{p:FuncId→Bool}{c d:CallF}(h:c.ok P)(k:d.ok P):(Wr p c d).ok P:=by
 intro f args H nx v H' nx' hr
 unfold Wr at hr
 cases hp:p f with
 |true=>rw[hp]at hr;exact h _ _ _ _ _ _ _ hr
 |false=>rw[hp]at hr;exact k _ _ _ _ _ _ _ hr
end Go.Av
end
end
section
set_option linter.unusedVariables false
set_option linter.unusedSimpArgs false
noncomputable section
namespace Go.Av
open Go.ChangeShapes Go.WideShapes Go.ChangeAt Go.RowKit
def CD:Option (AVal×Heap×Nat)→Bool
 |some (.bool b,_,_)=>b
 |_=>false
def FV(m:Nat)(f:Nat):Bool:=Nat.beq (Nat.land 1 (Nat.shiftRight m f)) 1
section
theorem C1[Syms]{P:Program}{call:CallF}(hcall:call.ok P){f:FuncId}{args:List AVal}{H:Heap}{nx:Nat}(h:CD (call f args H nx)=true):∃H' nx',X1 P f args H nx (.bool true) H' nx':=by
 unfold CD at h
 split at h
 ·rename_i b H' nx' hr
  subst h
  exact⟨H',nx',(hcall _ _ _ _ _ _ _ hr).2⟩
 ·cases h
theorem Step.below{ι κ:Inj}{H':Heap}{w w':World}(h:Step ι [] w κ H' w'):Below w.heap.size w w':=
 ⟨h.os,h.tape,h.output,h.size,fun g hg=>h.same g hg (fun⟨n,b,L,h1,_⟩=>by cases h1)⟩
end
end Go.Av
end
end
section
set_option linter.unusedVariables false
set_option linter.unusedSimpArgs false
noncomputable section
namespace Go.Av
theorem JU[Syms]{P:Program}{f:FuncId}{args:List AVal}{H G:Heap}{nx:Nat}{v:AVal}{H':Heap}{nx':Nat}(h:X1 P f args H nx v H' nx')(hs:G.sub H'):X1 P f args H nx v G nx':=by
 intro ι w vs ha hH hb
 refine(h ι w vs ha hH hb).mono ?_
 rintro e w' ⟨r,κ,rfl,hr,hH',hst,hb'⟩
 refine⟨r,κ,rfl,hr,hH'.sub hs,⟨⟨hst.st.le,hst.st.os,hst.st.tape,hst.st.output,hst.st.size,hst.st.same,fun g hg=>?_,hst.st.fzs⟩,hst.up,hst.fresh⟩,hb'⟩
 obtain⟨n,b,L,h1,h2,h3,h4⟩:=hg
 exact hst.st.own g ⟨n,b,L,hs n b h1,h2,h3,h4⟩
def JF(p:Nat→Bool):Heap→Heap
 |[]=>[]
 |(k,b)::h=>bif p k then(k,b)::JF p h else JF p h
theorem Ja(p:Nat→Bool):∀(H:Heap) (n:Nat),(JF p H).get n=if p n then H.get n else none
 |[],n=>by simp[JF,Heap.get_nil]
 |(k,b)::h,n=>by
  have ih:=Ja p h n
  simp only[JF]
  cases hp:p k with
  |true=>
   simp only[cond_true,Heap.get_cons,ih]
   by_cases e:n=k
   ·subst e;simp[hp,Nat.beq_refl]
   ·rw[QE e];rfl
  |false=>
   simp only[cond_false,ih,Heap.get_cons]
   by_cases e:n=k
   ·subst e;simp[hp]
   ·rw[QE e];rfl
theorem HG(p:Nat→Bool)(H:Heap):(JF p H).sub H:=fun n b h=>by
 rw[Ja]at h
 split at h
 ·exact h
 ·cases h
def PA(nx:Nat)(v:AVal)(H:Heap):Heap:=
 (fun l=>JF (fun k=>Nat.blt k nx||l.contains k) H) (UH H nx 65536 (v.nums++Bb (Cq nx H)) [])
def M3(c:CallF):CallF:=fun f args H nx=>match c f args H nx with
 |some (v,H',nx')=>some (v,PA nx v H',nx')
 |none=>none
theorem HM[Syms]{P:Program}{c:CallF}(h:c.ok P):(M3 c).ok P:=by
 intro f args H nx v H' nx' hr
 unfold M3 at hr
 split at hr
 ·rename_i u H1 nx1 h1
  cases hr
  obtain⟨g1,g2⟩:=h _ _ _ _ _ _ _ h1
  exact⟨g1,JU g2 (HG _ _)⟩
 ·cases hr
def Lq(con:CallF)(pu gc:FuncId→Bool)(ft:FT)(tt:TT)(fuel:Nat):CallF:=
 @Nat.rec (fun _=>CallF) con (fun n ih=>V9 con (Wr pu (VE (US ih ft tt (n+1))) (Wr gc (M3 (US ih ft tt (n+1))) (US ih ft tt (n+1))))) fuel
theorem Fj[Syms]{P:Program}{con:CallF}{pu gc:FuncId→Bool}{ft:FT}{tt:TT}(hcon:con.ok P)(htt:TT.ok P tt)(hft:FT.ok P ft)(hm:P.follows .mixedOrders=true):∀fuel,CallF.ok P (Lq con pu gc ft tt fuel)
 |0=>hcon
 |fuel+1=>by
  have ih:=Fj (pu:=pu) (gc:=gc) hcon htt hft hm fuel
  exact WR hcon (Gv (B6 (Jf ih htt hft hm)) (Gv (HM (Jf ih htt hft hm)) (Jf ih htt hft hm)))
end Go.Av
end
end
section
set_option linter.unusedVariables false
set_option linter.unusedSimpArgs false
noncomputable section
namespace Go.Av
def BT(m i:Nat):Bool:=Nat.beq (Nat.land 1 (Nat.shiftRight m i)) 1
theorem Dr(m i:Nat):BT m i=m.testBit i:=by
 unfold BT
 have h:Nat.testBit m i=(1 &&& (m >>> i) != 0):=rfl
 rw[h]
 have h2:Nat.land 1 (Nat.shiftRight m i)=(m >>> i)%2:=by
  show 1 &&& (m >>> i)=_
  rw[Nat.and_comm,Nat.and_one_is_mod]
 have h3:1 &&& (m >>> i)=(m >>> i)%2:=h2
 rw[h2,h3]
 rcases Nat.mod_two_eq_zero_or_one (m >>> i)with e|e<;>rw[e]<;>rfl
def Rv(p:Nat→Bool)(n:Nat):Bool:=@Nat.rec (fun _=>Bool) true (fun k ih=>@Bool.rec (fun _=>Bool) false ih (p k)) n
theorem Hd(p:Nat→Bool):∀n,Rv p n=QM p n
 |0=>rfl
 |n+1=>by
  show @Bool.rec (fun _=>Bool) false (Rv p n) (p n)=(p n&&QM p n)
  rw[Hd p n]
  cases p n<;>rfl
def WL(tl:Nat→Bool)(ms:List Nat)(n:Nat):List (Nat×Nat):=@Nat.rec (fun _=>List (Nat×Nat)) [] (fun t ih=>@Bool.rec (fun _=>List (Nat×Nat)) ih ((t,ms.getD t 0)::ih) (tl t)) n
theorem Yy(tl:Nat→Bool)(ms:List Nat)(q:Nat×Nat):∀n,q∈WL tl ms n↔q.1<n∧tl q.1=true∧q.2=ms.getD q.1 0
 |0=>⟨fun h=>(by cases h),fun h=>absurd h.1 (Nat.not_lt_zero _)⟩
 |n+1=>by
  have ih:=Yy tl ms q n
  show q∈ @Bool.rec (fun _=>List (Nat×Nat)) (WL tl ms n) ((n,ms.getD n 0)::WL tl ms n) (tl n)↔_
  obtain⟨t,m⟩:=q
  cases ht:tl n with
  |false=>
   show(t,m)∈WL tl ms n↔_
   rw[ih]
   constructor
   ·rintro⟨h1,h2,h3⟩;exact⟨by simp at h1 ⊢;omega,h2,h3⟩
   ·rintro⟨h1,h2,h3⟩
    refine⟨?_,h2,h3⟩
    simp only at h1 h2 ⊢
    rcases Nat.lt_succ_iff_lt_or_eq.1 h1 with h|h
    ·exact h
    ·subst h;rw[ht]at h2;cases h2
  |true=>
   show(t,m)∈(n,ms.getD n 0)::WL tl ms n↔_
   rw[List.mem_cons,ih]
   constructor
   ·rintro(h|⟨h1,h2,h3⟩)
    ·cases h;exact⟨Nat.lt_succ_self _,ht,rfl⟩
    ·exact⟨by simp only at h1 ⊢;omega,h2,h3⟩
   ·rintro⟨h1,h2,h3⟩
    simp only at h1 h2 h3
    rcases Nat.lt_succ_iff_lt_or_eq.1 h1 with h|h
    ·exact .inr ⟨h,h2,h3⟩
    ·subst h;subst h3;exact .inl rfl
def loQ(m:Nat)(l:List (Nat×Nat)):Nat:=@List.rec (Nat×Nat) (fun _=>Nat) 0 (fun q _ ih=>@Bool.rec (fun _=>Nat) ih (@Bool.rec (fun _=>Nat) (Nat.succ q.1) ih (Nat.ble (Nat.succ q.1) ih)) (BT m q.1)) l
theorem Cz(m j:Nat):∀l:List (Nat×Nat),loQ m l≤j↔ ∀q∈l,m.testBit q.1=true→q.1+1≤j
 |[]=>by simp[loQ]
 |q::l=>by
  have ih:=Cz m j l
  show @Bool.rec (fun _=>Nat) (loQ m l) (@Bool.rec (fun _=>Nat) (Nat.succ q.1) (loQ m l) (Nat.ble (Nat.succ q.1) (loQ m l))) (BT m q.1)≤j↔_
  rw[Dr]
  cases hb:m.testBit q.1 with
  |false=>simp[hb,ih]
  |true=>
   simp only[List.mem_cons,forall_eq_or_imp,hb,true_implies,←ih]
   cases hc:Nat.ble (Nat.succ q.1) (loQ m l)with
   |true=>have:=Nat.le_of_ble_eq_true hc;show loQ m l≤j↔_;omega
   |false=>
    have:¬Nat.succ q.1≤loQ m l:=fun h=>by rw[Nat.ble_eq_true_of_le h]at hc;cases hc
    show Nat.succ q.1≤j↔_;omega
def hiQ(n i:Nat)(l:List (Nat×Nat)):Nat:=@List.rec (Nat×Nat) (fun _=>Nat) n (fun q _ ih=>@Bool.rec (fun _=>Nat) ih (@Bool.rec (fun _=>Nat) ih q.1 (Nat.ble q.1 ih)) (BT q.2 i)) l
theorem CJ(n i j:Nat):∀l:List (Nat×Nat),j≤hiQ n i l↔j≤n∧ ∀q∈l,q.2.testBit i=true→j≤q.1
 |[]=>by simp[hiQ]
 |q::l=>by
  have ih:=CJ n i j l
  show j≤ @Bool.rec (fun _=>Nat) (hiQ n i l) (@Bool.rec (fun _=>Nat) (hiQ n i l) q.1 (Nat.ble q.1 (hiQ n i l))) (BT q.2 i)↔_
  rw[Dr]
  cases hb:q.2.testBit i with
  |false=>simp[hb,ih]
  |true=>
   simp only[List.mem_cons,forall_eq_or_imp,hb,true_implies]
   cases hc:Nat.ble q.1 (hiQ n i l)with
   |true=>
    have h1:=Nat.le_of_ble_eq_true hc
    show j≤q.1↔_
    constructor
    ·intro h;obtain⟨a,b⟩:=ih.1 (by omega);exact⟨a,h,b⟩
    ·rintro⟨_,h,_⟩;exact h
   |false=>
    have h1:¬q.1≤hiQ n i l:=fun h=>by rw[Nat.ble_eq_true_of_le h]at hc;cases hc
    show j≤hiQ n i l↔_
    constructor
    ·intro h;obtain⟨a,b⟩:=ih.1 h;exact⟨a,by omega,b⟩
    ·rintro⟨a,_,b⟩;exact ih.2 ⟨a,b⟩
def FR(p:Nat→Bool)(k lo:Nat):Bool:=@Nat.rec (fun _=>Nat→Bool) (fun _=>true) (fun _ ih j=>@Bool.rec (fun _=>Bool) false (ih (Nat.succ j)) (p j)) k lo
theorem GF(p:Nat→Bool):∀k lo,FR p k lo=true↔ ∀j,lo≤j→j<lo+k→p j=true
 |0,lo=>⟨fun _ j h1 h2=>by omega,fun _=>rfl⟩
 |k+1,lo=>by
  have ih:=GF p k (lo+1)
  show @Bool.rec (fun _=>Bool) false (FR p k (Nat.succ lo)) (p lo)=true↔_
  cases hp:p lo with
  |false=>exact⟨fun h=>(by cases h),fun h=>(by have:=h lo (Nat.le_refl _) (by omega);rw[hp]at this;cases this)⟩
  |true=>
   refine ih.trans ⟨fun h j h1 h2=>?_,fun h j h1 h2=>h j (by omega) (by omega)⟩
   rcases Nat.lt_or_ge lo j with h'|h'
   ·exact h j (by omega) (by omega)
   ·obtain rfl:j=lo:=by omega
    exact hp
theorem EP{n:Nat}{tl:Nat→Bool}{ms:List Nat}{i j:Nat}(hj:j≤n):inR n tl ms i j=true↔loQ (ms.getD i 0) (WL tl ms n)≤j∧j≤hiQ n i (WL tl ms n):=by
 rw[Cz,CJ]
 unfold inR
 constructor
 ·intro h
  have h:=Qt h
  refine⟨fun q hq hb=>?_,hj,fun q hq hb=>?_⟩
  ·obtain⟨h1,h2,h3⟩:=(Yy ..).1 hq
   have:=h q.1 h1
   rw[h2]at this
   cases hlt:Nat.blt q.1 j with
   |true=>exact Nat.le_of_ble_eq_true hlt
   |false=>simp[hlt,hb]at this;simp[this]at hb
  ·obtain⟨h1,h2,h3⟩:=(Yy ..).1 hq
   have:=h q.1 h1
   rw[h2]at this
   rw[h3]at hb
   cases hlt:Nat.blt q.1 j with
   |true=>simp[hlt]at this;simp[this]at hb
   |false=>
    rcases Nat.lt_or_ge q.1 j with h'|h'
    ·have:Nat.blt q.1 j=true:=Nat.ble_eq_true_of_le h'
     rw[this]at hlt;cases hlt
    ·exact h'
 ·rintro⟨h1,_,h2⟩
  refine Xt fun t ht=>?_
  cases htl:tl t with
  |false=>rfl
  |true=>
   have hm:(t,ms.getD t 0)∈WL tl ms n:=(Yy ..).2 ⟨ht,htl,rfl⟩
   cases hlt:Nat.blt t j with
   |true=>
    have hlt':t<j:=Nat.le_of_ble_eq_true hlt
    cases hb:(ms.getD t 0).testBit i with
    |false=>simp only[if_true,hb];rfl
    |true=>have:=h2 _ hm hb;simp only at this;omega
   |false=>
    have hlt':¬t<j:=fun h=>by have:Nat.blt t j=true:=Nat.ble_eq_true_of_le h;rw[this]at hlt;cases hlt
    cases hb:(ms.getD i 0).testBit t with
    |false=>simp only[Bool.false_eq_true,if_false,hb];rfl
    |true=>have:=h1 _ hm hb;simp only at this;omega
theorem IK{n:Nat}{tl:Nat→Bool}{ms:List Nat}{i:Nat}(p:Nat→Bool):QM (fun j=>!inR n tl ms i j||p j) (n+1)=FR p (Nat.succ (hiQ n i (WL tl ms n))-loQ (ms.getD i 0) (WL tl ms n)) (loQ (ms.getD i 0) (WL tl ms n)):=by
 rw[Bool.eq_iff_iff,GF]
 have hh:∀j,j≤hiQ n i (WL tl ms n)→j≤n:=fun j h=>((CJ ..).1 h).1
 constructor
 ·intro h j h1 h2
  have hj:j≤hiQ n i (WL tl ms n):=by omega
  have:=Qt h j (by have:=hh j hj;omega)
  rw[(EP (hh j hj)).2 ⟨h1,hj⟩]at this
  exact this
 ·intro h
  refine Xt fun j hj=>?_
  cases hr:inR n tl ms i j with
  |false=>rfl
  |true=>
   obtain⟨h1,h2⟩:=(EP (by omega)).1 hr
   exact h j h1 (by omega)
theorem NT{ops:Array Oper}{tl:Nat→Bool}{ms:List Nat}{i:Nat}:HL ops tl ms i=Nat.ble 1 (loQ (ms.getD i 0) (WL tl ms ops.size)):=by
 rw[Bool.eq_iff_iff]
 have h0:=Cz (ms.getD i 0) 0 (WL tl ms ops.size)
 constructor
 ·intro h
  refine Nat.ble_eq_true_of_le (Nat.pos_of_ne_zero fun he=>?_)
  have h1:=h0.1 (by omega)
  have:QM (fun t=>!(tl t&&(ms.getD i 0).testBit t)) ops.size=true:=Xt fun t ht=>by
   cases htl:tl t with
   |false=>rfl
   |true=>
    cases hb:(ms.getD i 0).testBit t with
    |false=>rfl
    |true=>have:=h1 (t,ms.getD t 0) ((Yy ..).2 ⟨ht,htl,rfl⟩) hb;omega
  unfold HL at h
  rw[this]at h
  cases h
 ·intro h
  have h:=Nat.le_of_ble_eq_true h
  unfold HL
  cases ha:QM (fun t=>!(tl t&&(ms.getD i 0).testBit t)) ops.size with
  |false=>rfl
  |true=>
   have:loQ (ms.getD i 0) (WL tl ms ops.size)≤0:=h0.2 fun q hq hb=>by
    obtain⟨h1,h2,h3⟩:=(Yy ..).1 hq
    have:=Qt ha q.1 h1
    rw[h2,hb]at this;cases this
   omega
def Mc(l:List (Nat×Nat))(i:Nat):Bool:=@List.rec (Nat×Nat) (fun _=>Bool) true (fun q _ ih=>@Bool.rec (fun _=>Bool) false ih (BT q.2 i)) l
theorem Mb(i:Nat):∀l:List (Nat×Nat),Mc l i=true↔ ∀q∈l,q.2.testBit i=true
 |[]=>by simp[Mc]
 |q::l=>by
  have ih:=Mb i l
  show @Bool.rec (fun _=>Bool) false (Mc l i) (BT q.2 i)=true↔_
  rw[Dr]
  cases hb:q.2.testBit i<;>simp[hb,ih]
theorem Lz{ops:Array Oper}{tl:Nat→Bool}{ms:List Nat}{i:Nat}(ht:tl i=false):Y3 ops tl ms i=Mc (WL tl ms ops.size) i:=by
 rw[Bool.eq_iff_iff,Mb]
 unfold Y3
 rw[ht]
 simp only[Bool.not_false,Bool.true_and]
 constructor
 ·intro h q hq
  obtain⟨h1,h2,h3⟩:=(Yy ..).1 hq
  have:=Qt h q.1 h1
  rw[h2]at this
  rw[h3];simpa using this
 ·intro h
  refine Xt fun t ht=>?_
  cases htl:tl t with
  |false=>rfl
  |true=>have:=h (t,ms.getD t 0) ((Yy ..).2 ⟨ht,htl,rfl⟩);simpa using this
def orQ(a b:Bool):Bool:=@Bool.rec (fun _=>Bool) b true a
theorem Pd(a b:Bool):orQ a b=(a||b):=by cases a<;>rfl
def Rt(a b:Bool):Bool:=@Bool.rec (fun _=>Bool) false b a
theorem Oz(a b:Bool):Rt a b=(a&&b):=by cases a<;>rfl
def Ly(l:List (Nat×Blk)):Bool:=@List.rec (Nat×Blk) (fun _=>Bool) true (fun _ _ _=>false) l
theorem HQ(l:List (Nat×Blk)):Ly l=l.isEmpty:=by cases l<;>rfl
def D5(tt:TT)(ops:Array Oper)(tl:Nat→Bool)(ms:List Nat)(tps:List (Nat×Nat))(n p:Nat)(E:Env)(vs:List AVal)(nws:List (List (Nat×Blk)))(Ts:List (Heap×Nat))(i:Nat)(o:Oper):Bool:=
 orQ (tl i) (orQ (Mc tps i) (Rt (Ly (nws.getD i [])) (orQ (eqO (XB tt ops o E []) (vs.getD i .any)) (Rt (orQ (Nat.ble (Nat.succ i) p) (Nat.ble 1 (loQ (ms.getD i 0) tps))) (FR (fun j=>eqO (XB tt ops o E (Ts.getD (j-p) ([],0)).1) (vs.getD i .any)) (Nat.succ (hiQ n i tps)-loQ (ms.getD i 0) tps) (loQ (ms.getD i 0) tps))))))
def Cy(tt:TT)(ops:Array Oper)(tl:Nat→Bool)(ms:List Nat)(tps:List (Nat×Nat))(p:Nat)(E:Env)(vs:List AVal)(nws:List (List (Nat×Blk)))(Ts:List (Heap×Nat)):Bool:=
 Rv (fun i=>@Option.rec Oper (fun _=>Bool) true (D5 tt ops tl ms tps ops.size p E vs nws Ts i) ops[i]?) ops.size
theorem HB(tt:TT)(ops:Array Oper)(tl:Nat→Bool)(ms:List Nat)(p:Nat)(E:Env)(vs:List AVal)(nws:List (List (Nat×Blk)))(Ts:List (Heap×Nat)):Cy tt ops tl ms (WL tl ms ops.size) p E vs nws Ts=Kk tt ops tl ms p E vs nws Ts:=by
 unfold Cy Kk
 rw[Hd]
 congr 1
 funext i
 cases ops[i]? with
 |none=>rfl
 |some o=>
  show D5 tt ops tl ms (WL tl ms ops.size) ops.size p E vs nws Ts i o=(tl i||Y3 ops tl ms i||_)
  unfold D5
  simp only[Pd,Oz,HQ]
  rw[IK,NT]
  cases ht:tl i with
  |true=>rfl
  |false=>rw[Lz ht,Bool.false_or,Bool.false_or];rfl
def r4Q(all:Bool)(call:CallF)(tt:TT)(N:Nat)(ops:Array Oper)(s:St):Option St:=
 @Bool.rec (fun _=>Option St) none (
  match Yu call tt N ops (YP ops) s 0 (ops.toList.take (Zm (tl4 all ops) ops.size ops.size)) ⟨[],[],s.env,s.heap⟩with
  |some c=>match Wl call tt N ops (tl4 all ops) (Zm (tl4 all ops) ops.size ops.size) (ops.toList.drop (Zm (tl4 all ops) ops.size ops.size)) c.env c.heap (s.nx+ops.size*RR)with
   |some (vs,Ts,E)=>@Bool.rec (fun _=>Option St) none (
     some ⟨E,(Ts.getD (ops.size-Zm (tl4 all ops) ops.size ops.size) ([],0)).1,(Ts.getD (ops.size-Zm (tl4 all ops) ops.size ops.size) ([],0)).2⟩) (Cy tt ops (tl4 all ops) (YP ops) (WL (tl4 all ops) (YP ops) ops.size) (Zm (tl4 all ops) ops.size ops.size) E (c.vals++vs) c.nws Ts)
   |none=>none
  |none=>none) (G7 ops (tl4 all ops) (YP ops))
theorem IM(all:Bool)(call:CallF)(tt:TT)(N:Nat)(ops:Array Oper)(s:St):r4Q all call tt N ops s=Xm all call tt N ops s:=by
 unfold r4Q Xm
 cases G7 ops (tl4 all ops) (YP ops)with
 |false=>rfl
 |true=>
  simp only[if_true]
  cases Yu call tt N ops (YP ops) s 0 (ops.toList.take (Zm (tl4 all ops) ops.size ops.size)) ⟨[],[],s.env,s.heap⟩with
  |none=>rfl
  |some c=>
   dsimp only
   cases Wl call tt N ops (tl4 all ops) (Zm (tl4 all ops) ops.size ops.size) (ops.toList.drop (Zm (tl4 all ops) ops.size ops.size)) c.env c.heap (s.nx+ops.size*RR)with
   |none=>rfl
   |some r=>
    obtain⟨vs,Ts,E⟩:=r
    dsimp only
    rw[HB]
    cases Kk tt ops (tl4 all ops) (YP ops) (Zm (tl4 all ops) ops.size ops.size) E (c.vals++vs) c.nws Ts<;>rfl
def Ha(call:CallF)(tt:TT)(N:Nat)(keep:List Nat)(ops:Array Oper)(s:St):Option St:=
 @Option.rec St (fun _=>Option St) (@Option.rec St (fun _=>Option St) (Yd call tt N keep ops true s) (fun s1=>some s1) (r4Q false call tt N ops s)) (fun s1=>some s1) (r4Q true call tt N ops s)
theorem LY(call:CallF)(tt:TT)(N:Nat)(keep:List Nat)(ops:Array Oper)(s:St):Ha call tt N keep ops s=Yc call tt N keep ops true s:=by
 unfold Ha Yc
 rw[IM,IM]
 simp only[if_true]
 cases Xm true call tt N ops s<;>cases Xm false call tt N ops s<;>rfl
end Go.Av
end
end
section
set_option linter.unusedVariables false
set_option linter.unusedSimpArgs false
noncomputable section
namespace Go.Av
def Lg:AVal→Option (IntKind×Int):=@AVal.rec (fun _=>Option (IntKind×Int)) (fun _=>Unit) (fun _=>Unit)
 none (fun _=>none) (fun k n=>some (k,n)) (fun _=>none) none (fun _ _ _=>none) none (fun _ _ _ _ _=>none) (fun _ _=>none) (fun _ _=>none) (fun _ _ _=>none) none none (fun _ _ _=>none) (fun _=>none) (fun _=>none) (fun _ _ _=>none) (fun _ _ _=>none) (fun _=>none) (fun _ _ _ _=>none) (fun _ _=>none) none (fun _ _ _ _=>none) () (fun _ _ _ _=>()) () (fun _ _ _ _=>())
theorem Fe{a:AVal}{p:IntKind×Int}(h:Lg a=some p):a= .int p.1 p.2:=by
 cases a<;>first|(cases h;rfl)|cases h
def BS:AVal→Option Bool:=@AVal.rec (fun _=>Option Bool) (fun _=>Unit) (fun _=>Unit)
 none (fun b=>some b) (fun _ _=>none) (fun _=>none) none (fun _ _ _=>none) none (fun _ _ _ _ _=>none) (fun _ _=>none) (fun _ _=>none) (fun _ _ _=>none) none none (fun _ _ _=>none) (fun _=>none) (fun _=>none) (fun _ _ _=>none) (fun _ _ _=>none) (fun _=>none) (fun _ _ _ _=>none) (fun _ _=>none) none (fun _ _ _ _=>none) () (fun _ _ _ _=>()) () (fun _ _ _ _=>())
theorem BR{R:Type}(a:AVal)(n:R)(f:Bool→R):@Option.rec Bool (fun _=>R) n f (BS a)=match a with| .bool b=>f b|_=>n:=by
 cases a<;>rfl
def OO:AVal→Option (FuncId×List AVal):=@AVal.rec (fun _=>Option (FuncId×List AVal)) (fun _=>Unit) (fun _=>Unit)
 none (fun _=>none) (fun _ _=>none) (fun _=>none) none (fun _ _ _=>none) none (fun _ _ _ _ _=>none) (fun _ _=>none) (fun _ _=>none) (fun f cs _=>some (f,cs)) none none (fun _ _ _=>none) (fun _=>none) (fun _=>none) (fun _ _ _=>none) (fun _ _ _=>none) (fun _=>none) (fun _ _ _ _=>none) (fun _ _=>none) none (fun _ _ _ _=>none) () (fun _ _ _ _=>()) () (fun _ _ _ _=>())
theorem Ll{R:Type}(a:AVal)(n:R)(f:FuncId×List AVal→R):@Option.rec (FuncId×List AVal) (fun _=>R) n f (OO a)=match a with| .func i cs=>f (i,cs)|_=>n:=by
 cases a<;>rfl
def evQ(x:Operand)(e:Env):AVal:=@Operand.rec (fun _=>Env→AVal) (fun t e=>Env.get e t) (fun v _=>Wk v) (fun _ _=>.any) (fun f _=>bif Nat.ble BND f then .any else .func f []) x e
theorem YL(x:Operand)(s:St):evQ x s.env=s.ev x:=by cases x<;>rfl
def PO(l:List Operand)(e:Env):List AVal:=@List.rec Operand (fun _=>List AVal) [] (fun x _ ih=>evQ x e::ih) l
theorem Df(s:St):∀l:List Operand,PO l s.env=l.map s.ev
 |[]=>rfl
 |x::l=>by rw[List.map_cons,←Df s l,←YL];rfl
def kcQ:IntKind→Nat:=@IntKind.rec (fun _=>Nat) 0 1 2 3 4 5 6 7
theorem NQ{k k':IntKind}(h:Nat.beq (kcQ k) (kcQ k')=true):k=k':=by cases k<;>cases k'<;>first|rfl|cases h
def kmQ:IntKind→Nat:=@IntKind.rec (fun _=>Nat) 127 32767 2147483647 9223372036854775807 255 65535 4294967295 18446744073709551615
def wrQ(k:IntKind)(x:Int):Int:=@Int.rec (fun _=>Int) (fun n=>@Bool.rec (fun _=>Int) (wr k (.ofNat n)) (.ofNat n) (Nat.ble n (kmQ k))) (fun n=>wr k (.negSucc n)) x
theorem C6(k:IntKind)(x:Int):wrQ k x=wr k x:=by
 cases x with
 |negSucc n=>rfl
 |ofNat n=>
  show @Bool.rec (fun _=>Int) (wr k (.ofNat n)) (.ofNat n) (Nat.ble n (kmQ k))=_
  cases h:Nat.ble n (kmQ k)with
  |false=>rfl
  |true=>
   have hn:=Nat.le_of_ble_eq_true h
   refine(if_pos ?_).symm
   cases k<;>simp only[kmQ]at hn<;>simp only[IntKind.min,IntKind.max,IntKind.bits,IntKind.signed]<;>refine⟨?_,?_⟩<;>simp<;>omega
def Su(a b:Int):Int:=@Int.rec (fun _=>Int→Int) (fun m b=>@Int.rec (fun _=>Int) (fun n=>.ofNat (Nat.add m n)) (fun n=>Int.subNatNat m (Nat.succ n)) b) (fun m b=>Int.add (.negSucc m) b) a b
theorem OD(a b:Int):Su a b=a+b:=by cases a<;>cases b<;>rfl
def ltQ(a b:Int):Bool:=@Int.rec (fun _=>Int→Bool) (fun m b=>@Int.rec (fun _=>Bool) (fun n=>Nat.ble (Nat.succ m) n) (fun _=>false) b) (fun m b=>@Int.rec (fun _=>Bool) (fun _=>true) (fun n=>Nat.ble (Nat.succ n) m) b) a b
theorem D4(a b:Int):ltQ a b=decide (a<b):=by
 cases a<;>cases b<;>rename_i m n<;>symm
 ·show _=Nat.ble (Nat.succ m) n
  cases h:Nat.ble (Nat.succ m) n with
  |true=>exact decide_eq_true (Int.ofNat_lt.2 (Nat.le_of_ble_eq_true h))
  |false=>exact decide_eq_false fun k=>by have:=Nat.ble_eq_true_of_le (Nat.succ_le_of_lt (Int.ofNat_lt.1 k));rw[h]at this;cases this
 ·show _=false
  exact decide_eq_false (Int.not_lt.2 (Int.le_of_lt (Int.lt_of_lt_of_le (Int.negSucc_lt_zero n) (Int.natCast_nonneg m))))
 ·show _=true
  exact decide_eq_true (Int.lt_of_lt_of_le (Int.negSucc_lt_zero m) (Int.natCast_nonneg n))
 ·have e:(Int.negSucc m<Int.negSucc n)=(n<m):=by simp only[Int.negSucc_eq,eq_iff_iff];omega
  show decide (Int.negSucc m<Int.negSucc n)=Nat.ble (Nat.succ n) m
  cases h:Nat.ble (Nat.succ n) m with
  |true=>exact decide_eq_true (e.mpr (Nat.le_of_ble_eq_true h))
  |false=>exact decide_eq_false fun k=>(Bool.false_ne_true (h.symm.trans (Nat.ble_eq_true_of_le (show Nat.succ n≤m from Nat.succ_le_of_lt (e.mp k)))))
def eqQ(a b:Int):Bool:=@Int.rec (fun _=>Int→Bool) (fun m b=>@Int.rec (fun _=>Bool) (fun n=>Nat.beq m n) (fun _=>false) b) (fun m b=>@Int.rec (fun _=>Bool) (fun _=>false) (fun n=>Nat.beq m n) b) a b
theorem Lt(a b:Int):eqQ a b=decide (a=b):=by
 have key:∀m n:Nat,Nat.beq m n=decide (m=n):=fun m n=>by
  cases h:Nat.beq m n with
  |true=>exact(decide_eq_true (Nat.eq_of_beq_eq_true h)).symm
  |false=>exact(decide_eq_false (Nat.ne_of_beq_eq_false h)).symm
 cases a<;>cases b<;>rename_i m n
 ·exact(key m n).trans (decide_eq_decide.2 Int.ofNat_inj.symm)
 ·exact(decide_eq_false (fun h=>nomatch h)).symm
 ·exact(decide_eq_false (fun h=>nomatch h)).symm
 ·exact(key m n).trans (decide_eq_decide.2 Int.negSucc_inj.symm)
def FY(N:Nat)(dst:Option Tmp)(v:AVal)(e:Env)(H:Heap)(nx:Nat):Option St:=
 @Option.rec Tmp (fun _=>Option St) (some ⟨e,H,nx⟩) (fun d=>@Bool.rec (fun _=>Option St) none (some ⟨(d,v)::e,H,nx⟩) (Nat.ble (Nat.succ d) N)) dst
theorem EF(N:Nat)(dst:Option Tmp)(v:AVal)(e:Env)(H:Heap)(nx:Nat):FY N dst v e H nx=if QZ N dst then some ⟨e.put dst v,H,nx⟩else none:=by
 cases dst with
 |none=>rfl
 |some d=>
  show @Bool.rec (fun _=>Option St) none _ (Nat.ble (Nat.succ d) N)=if Nat.ble (Nat.succ d) N then _ else _
  cases Nat.ble (Nat.succ d) N<;>rfl
def G1(N:Nat)(dst:Option Tmp)(s:St)(o:Option AVal):Option St:=@Option.rec AVal (fun _=>Option St) none (fun v=>FY N dst v s.env s.heap s.nx) o
def G2(N:Nat)(dst:Option Tmp)(s:St)(o:Option Res):Option St:=@Option.rec Res (fun _=>Option St) none (fun r=>FY N dst r.v s.env (r.heap s.heap s.nx) (r.next s.nx)) o
theorem D1(N:Nat)(dst:Option Tmp)(s:St)(o:Option AVal):G1 N dst s o=G2 N dst s (o.map .val):=by cases o<;>rfl
abbrev AltT:=CallF→TT→Nat→Option Tmp→St→Option St→Option St
def QI:AltT:=fun _ _ _ _ _ z=>z
def OT(x:Operand):AltT:=fun _ _ N d s _=>FY N d (evQ x s.env) s.env s.heap s.nx
def RX(t:Bool)(a b:AVal):AVal:=match a,b with| .bool x,.bool y=>.bool (if t then x else y)|x,y=>if t then x else y
def Sv(c a b:Operand):AltT:=fun _ _ N d s _=>@Option.rec Bool (fun _=>Option St) none (fun t=>FY N d (RX t (evQ a s.env) (evQ b s.env)) s.env s.heap s.nx) (BS (evQ c s.env))
def Mi(g:IntKind→Int→Int→AVal)(x y:Operand):AltT:=fun _ _ N d s z=>
 @Option.rec (IntKind×Int) (fun _=>Option St) z (fun p=>@Option.rec (IntKind×Int) (fun _=>Option St) z (fun q=>@Bool.rec (fun _=>Option St) z (FY N d (g p.1 p.2 q.2) s.env s.heap s.nx) (Nat.beq (kcQ p.1) (kcQ q.1))) (Lg (evQ y s.env))) (Lg (evQ x s.env))
def PJ(k:IntKind)(a b:Int):AVal:=.int k (wrQ k (Su a b))
def PB(k:IntKind)(a b:Int):AVal:=.int k (wrQ k (Int.sub a b))
def PD(k:IntKind)(a b:Int):AVal:=.int k (wrQ k (Int.mul a b))
def PE(_:IntKind)(a b:Int):AVal:=.bool (ltQ a b)
def PG(_:IntKind)(a b:Int):AVal:=.bool (ltQ b a)
def PF(_:IntKind)(a b:Int):AVal:=.bool (Bool.not (ltQ b a))
def PH(_:IntKind)(a b:Int):AVal:=.bool (Bool.not (ltQ a b))
def PI(_:IntKind)(a b:Int):AVal:=.bool (eqQ a b)
def PC(_:IntKind)(a b:Int):AVal:=.bool (Bool.not (eqQ a b))
def SX:BinOp→Operand→Operand→AltT:=@BinOp.rec (fun _=>Operand→Operand→AltT)
 (Mi PJ) (Mi PB) (Mi PD) (fun _ _=>QI) (fun _ _=>QI) (fun _ _=>QI) (fun _ _=>QI) (fun _ _=>QI) (fun _ _=>QI) (fun _ _=>QI) (fun _ _=>QI) (Mi PI) (Mi PC) (Mi PE) (Mi PF) (Mi PG) (Mi PH)
def WX(b:Builtin)(ts:Array TypeId)(args:Array Operand):AltT:=fun _ tt N d s _=>G2 N d s (YI tt s.heap s.nx b ts (PO args.toList s.env))
def Sw(ts:Array TypeId)(args:Array Operand):AltT:=fun c tt N d s z=>
 @List.rec Operand (fun _=>Option St) z (fun x l _=>@List.rec Operand (fun _=>Option St) (G1 N d s (Ib tt ts (evQ x s.env))) (fun _ _ _=>z) l) args.toList
def Sy:Builtin→Array TypeId→Array Operand→AltT:=fun b=>@Builtin.rec (fun _=>Array TypeId→Array Operand→AltT)
 (WX .append) (WX .cap) (fun _ _=>QI) (fun _ _=>QI) (fun _ _=>QI) (fun _ _=>QI) (fun _ _=>QI) (fun _ _=>QI) Sw (fun _ _=>QI) (WX .max) (WX .min) (fun _ _=>QI) (fun _ _=>QI) (fun _ _=>QI) (fun _ _=>QI) (fun _ _=>QI) (fun _ _=>QI) (fun _ _=>QI) (fun _ _=>QI) (fun _ _=>QI) (fun _ _=>QI) (fun _ _=>QI) (fun _ _=>QI) (fun _ _=>QI) (fun _ _=>QI) b
def Ea(fo:Operand)(args:Array Operand):AltT:=fun call _ N d s _=>
 @Option.rec (FuncId×List AVal) (fun _=>Option St) none (fun p=>@Option.rec (AVal×Heap×Nat) (fun _=>Option St) none (fun r=>FY N d r.1 s.env r.2.1 r.2.2) (call (Vv p.1) (YQ p.1 (PO args.toList s.env) p.2) s.heap s.nx)) (OO (evQ fo s.env))
def Sx(c:Call):AltT:=@Callee.rec (fun _=>Array Operand→Array TypeId→AltT) (fun fo as _=>Ea fo as) (fun _ _ _ _=>QI) (fun b as ts=>Sy b ts as) c.callee c.args c.argTypes
def opG:Op→AltT:=@Op.rec (fun _=>AltT)
 OT OT Sv (fun e _ tt N d s _=>G2 N d s (match tt e with|some ty=>if QD ty.zero.cells=true then some (.new (.cells [ty.zero.cells] false) (.ptr s.nx 0 0))else none|none=>none)) (fun _ _=>QI)
 (fun t ps _ tt N d s _=>G1 N d s (K4 tt t (ps.toList.map fun p=>(p.1,evQ p.2 s.env)))) (fun t len ps _ tt N d s _=>G2 N d s (Xu tt s.nx t len (ps.toList.map fun p=>(p.1,evQ p.2 s.env)))) (fun _ _ _ _=>QI)
 (fun t x _ tt N d s _=>G1 N d s (Uz tt s.heap t (evQ x s.env))) (fun t x v _ tt N d s _=>G2 N d s ((UZ tt s.heap t (evQ x s.env) (evQ v s.env)).map fun h=>.upd h .any)) (fun _=>QI) (fun _=>QI) (fun _=>QI)
 (fun op _ x y _=>SX op x y) (fun _ _ _=>QI) (fun a b x _ tt N d s _=>G2 N d s (X9 tt s.heap s.nx a b (evQ x s.env))) (fun _ _=>QI) (fun _ _=>QI) (fun _ _ _=>QI) (fun _ _=>QI) (fun _ _=>QI) (fun _ _ _=>QI)
 (fun t x lo hi mx _ tt N d s _=>G1 N d s (Y4 tt t (evQ x s.env) (lo.map fun y=>evQ y s.env) (hi.map fun y=>evQ y s.env) (mx.map fun y=>evQ y s.env)))
 (fun t x f _ tt N d s _=>G1 N d s (Wp tt t (evQ x s.env) f)) (fun t x f _ tt N d s _=>G1 N d s (DC tt t (evQ x s.env) f)) (fun t x i _ tt N d s _=>G1 N d s (Zz tt t (evQ x s.env) (evQ i s.env))) (fun t x i _ tt N d s _=>G1 N d s (K3 tt t (evQ x s.env) (evQ i s.env)))
 (fun _ _ _ _=>QI) (fun _ _ _ _=>QI) (fun _ _ _=>QI) (fun _ _ _ _=>QI) (fun _ _=>QI) (fun _ _=>QI) (fun _=>QI) (fun _ _ _ _=>QI) (fun _ _=>QI)
 Sx (fun _=>QI) (fun _=>QI) (fun _=>QI) (fun _ _=>QI) (fun _ _ _=>QI) (fun _ _=>QI)
def opQ(call:CallF)(tt:TT)(N:Nat)(ops:Array Oper)(o:Oper)(s:St):Option St:=
 @Option.rec (Nat×Bool) (fun _=>Option St) (opG o.op call tt N o.dst s (Y1 call tt N ops o s)) (fun _=>Y1 call tt N ops o s) o.guard
theorem NL(N:Nat)(dst:Option Tmp)(s:St)(o:Option Res):G2 N dst s o=if QZ N dst then(match o with|some r=>some ⟨s.env.put dst r.v,r.heap s.heap s.nx,r.next s.nx⟩|none=>none)else none:=by
 cases o with
 |none=>cases QZ N dst<;>rfl
 |some r=>exact EF ..
theorem ZF(call:CallF)(tt:TT)(N:Nat)(ops:Array Oper)(d:Option Tmp)(op:Op)(t:TypeId)(pos:String)(af:Array Edge)(s:St)(h:Yk op=none):Y1 call tt N ops ⟨d,op,t,pos,af,none⟩ s=G2 N d s (aop tt s.ev s.heap s.nx op):=by
 rw[NL]
 simp only[Y1,Qr,h]
 rfl
theorem Cn(call:CallF)(tt:TT)(N:Nat)(ops:Array Oper)(d:Option Tmp)(fo:Operand)(as:Array Operand)(ts:Array TypeId)(t:TypeId)(pos:String)(af:Array Edge)(s:St)(z:Option St):Ea fo as call tt N d s z=Y1 call tt N ops ⟨d,.call ⟨.value fo,as,ts⟩,t,pos,af,none⟩ s:=by
 simp only[Y1,Qr,Yk,Ea,Ll,YL,Df]
 cases s.ev fo<;>try(cases QZ N d<;>rfl)
 rename_i f cs
 show @Option.rec (AVal×Heap×Nat) (fun _=>Option St) none _ (call (Vv f) (YQ f (List.map s.ev as.toList) cs) s.heap s.nx)=_
 dsimp only
 cases call (Vv f) (YQ f (List.map s.ev as.toList) cs) s.heap s.nx with
 |none=>cases QZ N d<;>rfl
 |some r=>exact EF ..
theorem YY{g:IntKind→Int→Int→AVal}{op:BinOp}(hg:∀tt t k a b,Xf tt op t (.int k a) (.int k b)=some (g k a b))(x y:Operand)(t t':TypeId)(call:CallF)(tt:TT)(N:Nat)(d:Option Tmp)(s:St):
 Mi g x y call tt N d s (G2 N d s (aop tt s.ev s.heap s.nx (.binOp op t x y t')))=G2 N d s (aop tt s.ev s.heap s.nx (.binOp op t x y t')):=by
 unfold Mi
 cases h1:Lg (evQ x s.env)with
 |none=>rfl
 |some p=>
  cases h2:Lg (evQ y s.env)with
  |none=>rfl
  |some q=>
   show @Bool.rec (fun _=>Option St) _ (FY N d (g p.1 p.2 q.2) s.env s.heap s.nx) (Nat.beq (kcQ p.1) (kcQ q.1))=_
   cases hk:Nat.beq (kcQ p.1) (kcQ q.1)with
   |false=>rfl
   |true=>
    have e1:s.ev x= .int p.1 p.2:=(YL x s).symm.trans (Fe h1)
    have e2:s.ev y= .int p.1 q.2:=by rw[←YL,Fe h2,NQ hk]
    have:aop tt s.ev s.heap s.nx (.binOp op t x y t')=some (.val (g p.1 p.2 q.2)):=by
     simp only[aop,e1,e2,Vo,hg]
     rfl
    rw[this]
    rfl
theorem D6(k:IntKind):(k == k)=true:=by cases k<;>rfl
theorem Pg(call:CallF)(tt:TT)(N:Nat)(ops:Array Oper)(d:Option Tmp)(op:Op)(t:TypeId)(pos:String)(af:Array Edge)(s:St):opG op call tt N d s (Y1 call tt N ops ⟨d,op,t,pos,af,none⟩ s)=Y1 call tt N ops ⟨d,op,t,pos,af,none⟩ s:=by
 cases op with
 |call c=>
  obtain⟨ce,as,ts⟩:=c
  cases ce with
  |value fo=>exact Cn (z:=none) ..
  |invoke _ _=>rfl
  |builtin b=>
   have key:∀b',WX b' ts as call tt N d s (Y1 call tt N ops ⟨d,.call ⟨.builtin b',as,ts⟩,t,pos,af,none⟩ s)=Y1 call tt N ops ⟨d,.call ⟨.builtin b',as,ts⟩,t,pos,af,none⟩ s:=fun b'=>by
    rw[ZF _ _ _ _ _ _ _ _ _ _ rfl]
    simp only[WX,aop,Df]
   cases b<;>first|rfl|exact key _|skip
   rw[ZF _ _ _ _ _ _ _ _ _ _ rfl]
   show Sw ts as call tt N d s _=_
   obtain⟨l⟩:=as
   match l with
   |[]=>rfl
   |[x]=>
    show G1 N d s (Ib tt ts (evQ x s.env))=_
    rw[YL,D1]
    rfl
   |_::_::_=>rfl
 |binOp op xt x y yt=>
  rw[ZF _ _ _ _ _ _ _ _ _ _ rfl]
  cases op with
  |add=>exact YY (g:=PJ) (fun tt t k a b=>by simp only[Xf,D6,if_true,PJ,C6,OD]) x y xt yt call tt N d s
  |sub=>exact YY (g:=PB) (fun tt t k a b=>by simp only[Xf,D6,if_true,PB,C6];rfl) x y xt yt call tt N d s
  |mul=>exact YY (g:=PD) (fun tt t k a b=>by simp only[Xf,D6,if_true,PD,C6];rfl) x y xt yt call tt N d s
  |lss=>exact YY (g:=PE) (fun tt t k a b=>by simp only[Xf,D6,if_true,PE,D4]) x y xt yt call tt N d s
  |gtr=>exact YY (g:=PG) (fun tt t k a b=>by simp only[Xf,D6,if_true,PG,D4]) x y xt yt call tt N d s
  |leq=>exact YY (g:=PF) (fun tt t k a b=>by simp only[Xf,D6,if_true,PF,D4,←decide_not,Int.not_lt]) x y xt yt call tt N d s
  |geq=>exact YY (g:=PH) (fun tt t k a b=>by simp only[Xf,D6,if_true,PH,D4,←decide_not,Int.not_lt]) x y xt yt call tt N d s
  |eql=>exact YY (g:=PI) (fun tt t k a b=>by simp only[Xf,D6,if_true,PI,Lt]) x y xt yt call tt N d s
  |neq=>exact YY (g:=PC) (fun tt t k a b=>by simp only[Xf,D6,if_true,PC,Lt,←decide_not]) x y xt yt call tt N d s
  |_=>rfl
 |pick c a b=>
  rw[ZF _ _ _ _ _ _ _ _ _ _ rfl]
  show @Option.rec Bool (fun _=>Option St) none _ (BS (evQ c s.env))=_
  rw[BR]
  simp only[YL,aop]
  cases s.ev c<;>rfl
 |alloc e=>
  rw[ZF _ _ _ _ _ _ _ _ _ _ rfl]
  rfl
 |move x|assign x=>
  rw[ZF _ _ _ _ _ _ _ _ _ _ rfl]
  show FY N d (evQ x s.env) s.env s.heap s.nx=_
  rw[YL];rfl
 |build t' ps=>
  rw[ZF _ _ _ _ _ _ _ _ _ _ rfl]
  show G1 N d s _=_
  rw[D1]
  simp only[YL,aop]
 |buildSlice t' len ps=>
  rw[ZF _ _ _ _ _ _ _ _ _ _ rfl]
  show G2 N d s _=_
  simp only[YL,aop]
 |load t' x|fieldAddr t' x f|field t' x f|indexAddr t' x i|index t' x i|slice t' x lo hi mx=>
  rw[ZF _ _ _ _ _ _ _ _ _ _ rfl]
  show G1 N d s _=_
  rw[D1]
  simp only[YL,aop]
 |store t' x v|convert a b x=>
  rw[ZF _ _ _ _ _ _ _ _ _ _ rfl]
  show G2 N d s _=_
  simp only[YL,aop]
 |_=>rfl
theorem Pf(call:CallF)(tt:TT)(N:Nat)(ops:Array Oper)(o:Oper)(s:St):opQ call tt N ops o s=Y1 call tt N ops o s:=by
 obtain⟨d,op,t,pos,af,g⟩:=o
 cases g with
 |none=>exact Pg ..
 |some g=>rfl
def Ns(call:CallF)(tt:TT)(N:Nat)(ops:Array Oper)(l:List Oper):St→Option St:=@List.rec Oper (fun _=>St→Option St) (fun s=>some s) (fun o _ ih s=>@Option.rec St (fun _=>Option St) none ih (opQ call tt N ops o s)) l
theorem En(call:CallF)(tt:TT)(N:Nat)(ops:Array Oper):∀(l:List Oper) (s:St),Ns call tt N ops l s=XY call tt N ops l s
 |[],_=>rfl
 |o::l,s=>by
  show @Option.rec St (fun _=>Option St) none (Ns call tt N ops l) (opQ call tt N ops o s)= @Option.rec St (fun _=>Option St) none (XY call tt N ops l) (Y1 call tt N ops o s)
  rw[Pf,funext (En call tt N ops l)]
def FW(keep:List Nat)(e:Env):Env:=@List.rec Nat (fun _=>Env) [] (fun k _ ih=>(k,Env.get e k)::ih) keep
theorem MY(e:Env):∀keep:List Nat,FW keep e=prune keep e
 |[]=>rfl
 |k::l=>by
  have ih:=MY e l
  show(k,Env.get e k)::FW l e=(k,Env.get e k)::prune l e
  rw[ih]
abbrev RunQ:=Option Code→Code→St→Option (Ex×St)
abbrev StepA:=CallF→TT→Nat→List Nat→RunQ→St→Option (Ex×St)
def cEx(e:Ex):StepA:=fun _ _ _ _ _ s=>some (e,s)
def LT(keep:List Nat)(o:Option St):Option (Ex×St):=@Option.rec St (fun _=>Option (Ex×St)) none (fun s=>some (.normal,⟨FW keep s.env,s.heap,s.nx⟩)) o
def R5(ops:Array Oper):StepA:=fun call tt N keep _ s=>LT keep (Ns call tt N ops ops.toList s)
def Sl(ops:Array Oper):StepA:=fun call tt N keep _ s=>LT keep (Ha call tt N keep ops s)
def cSq(x y:Code):StepA:=fun _ _ _ _ run s=>@Option.rec (Ex×St) (fun _=>Option (Ex×St)) none (fun r=>@Ex.rec (fun _=>Option (Ex×St)) (run none y r.2) (fun id=>some (.exit id,r.2)) (fun l=>some (.goto l,r.2)) (some (.ret,r.2)) r.1) (run none x s)
def cIf(c:Operand)(x y:Code):StepA:=fun _ _ _ _ run s=>@Option.rec Bool (fun _=>Option (Ex×St)) none (fun t=>@Bool.rec (fun _=>Option (Ex×St)) (run none y s) (run none x s) t) (BS (evQ c s.env))
def Rj(id:Nat)(b:Code):StepA:=fun _ _ _ _ run s=>@Option.rec (Ex×St) (fun _=>Option (Ex×St)) none (fun r=>@Ex.rec (fun _=>Option (Ex×St)) (some (.normal,r.2)) (fun i=>@Bool.rec (fun _=>Option (Ex×St)) (some (.exit i,r.2)) (some (.normal,r.2)) (Nat.beq i id)) (fun l=>some (.goto l,r.2)) (some (.ret,r.2)) r.1) (run none b s)
def Sj(b:Code):StepA:=fun _ _ _ _ run s=>@Option.rec (Ex×St) (fun _=>Option (Ex×St)) none (fun r=>@Ex.rec (fun _=>Option (Ex×St)) (run none (.loop b) r.2) (fun id=>some (.exit id,r.2)) (fun l=>some (.goto l,r.2)) (some (.ret,r.2)) r.1) (run none b s)
def R0(b:Code):StepA:=fun _ _ _ _ run s=>run (some b) b s
def cNo:StepA:=fun _ _ _ _ _ _=>none
def LJ:Code→StepA:=@Code.rec (fun _=>StepA)
 (cEx .normal) (fun _ ops d=>@Bool.rec (fun _=>StepA) (R5 ops) (Sl ops) d) (fun x y _ _=>cSq x y) (fun c x y _ _=>cIf c x y) (fun id b _=>Rj id b) (fun b _=>Sj b) (fun _ _ _ _ _ _=>cNo) (fun id=>cEx (.exit id)) (fun b _=>R0 b) (fun _=>cEx .normal) (fun l=>cEx (.goto l)) (cEx .ret) (fun _=>cNo)
theorem H7(keep:List Nat)(o:Option St):LT keep o=match o with
 |some s1=>some (.normal,⟨prune keep s1.env,s1.heap,s1.nx⟩)
 |none=>none:=by
 cases o with
 |none=>rfl
 |some s=>show some (Ex.normal,(⟨FW keep s.env,s.heap,s.nx⟩:St))=_;rw[MY]
theorem E3(call:CallF)(tt:TT)(N:Nat)(keep:List Nat)(ops:Array Oper)(s:St):Yc call tt N keep ops false s=XY call tt N ops ops.toList s:=by
 have h1:V5 call tt N ops false s=XY call tt N ops ops.toList s:=rfl
 show Yd call tt N keep ops false s=_
 unfold Yd U2
 rw[h1]
 cases XY call tt N ops ops.toList s<;>rfl
theorem LI(call:CallF)(tt:TT)(N:Nat)(keep:List Nat)(run:RunQ)(c:Code)(s:St):LJ c call tt N keep run s=Z9 call tt N keep run c s:=by
 cases c with
 |region id ops d=>
  cases d with
  |false=>
   show LT keep (Ns call tt N ops ops.toList s)=_
   rw[H7,En,←E3 call tt N keep]
   rfl
  |true=>
   show LT keep (Ha call tt N keep ops s)=_
   rw[H7,LY]
   rfl
 |seq x y=>
  show @Option.rec (Ex×St) (fun _=>Option (Ex×St)) none _ (run none x s)=_
  simp only[Z9]
  cases run none x s with
  |none=>rfl
  |some r=>obtain⟨e,s1⟩:=r;cases e<;>rfl
 |cond c x y=>
  show @Option.rec Bool (fun _=>Option (Ex×St)) none _ (BS (evQ c s.env))=_
  rw[BR,YL]
  simp only[Z9]
  cases s.ev c<;>try rfl
  rename_i b
  cases b<;>rfl
 |block id b=>
  show @Option.rec (Ex×St) (fun _=>Option (Ex×St)) none _ (run none b s)=_
  simp only[Z9]
  cases run none b s with
  |none=>rfl
  |some r=>
   obtain⟨e,s1⟩:=r
   cases e with
   |exit i=>
    show @Bool.rec (fun _=>Option (Ex×St)) _ _ (Nat.beq i id)=if i=id then _ else _
    by_cases h:i=id
    ·subst h;rw[Nat.beq_refl,if_pos rfl]
    ·rw[QE h,if_neg h]
   |_=>rfl
 |loop b=>
  show @Option.rec (Ex×St) (fun _=>Option (Ex×St)) none _ (run none b s)=_
  simp only[Z9]
  cases run none b s with
  |none=>rfl
  |some r=>obtain⟨e,s1⟩:=r;cases e<;>rfl
 |_=>rfl
def FN(run:RunQ)(b c:Code)(s:St):Option (Ex×St):=@Option.rec (Ex×St) (fun _=>Option (Ex×St)) none (fun r=>@Ex.rec (fun _=>Option (Ex×St)) (some (.normal,r.2)) (fun id=>some (.exit id,r.2)) (fun l=>@Option.rec Code (fun _=>Option (Ex×St)) (some (.goto l,r.2)) (fun rest=>run (some b) rest r.2) (findLabel b l)) (some (.ret,r.2)) r.1) (run none c s)
theorem Hk(run:RunQ)(b c:Code)(s:St):FN run b c s=WW run b c s:=by
 unfold FN WW
 cases run none c s with
 |none=>rfl
 |some r=>
  obtain⟨e,s1⟩:=r
  cases e with
  |goto l=>show @Option.rec Code (fun _=>Option (Ex×St)) _ _ (findLabel b l)=_;dsimp only;cases findLabel b l<;>rfl
  |_=>rfl
def H4(call:CallF)(tt:TT)(N:Nat)(keep:List Nat)(f:Nat):RunQ:=
 @Nat.rec (fun _=>RunQ) (fun _ _ _=>none) (fun _ ih sc c s=>@Option.rec Code (fun _=>Option (Ex×St)) (LJ c call tt N keep ih s) (fun b=>FN ih b c s) sc) f
theorem BK(call:CallF)(tt:TT)(N:Nat)(keep:List Nat):∀f:Nat,H4 call tt N keep f=YX call tt N keep f
 |0=>rfl
 |f+1=>by
  funext sc c s
  have ih:=BK call tt N keep f
  show @Option.rec Code (fun _=>Option (Ex×St)) (LJ c call tt N keep (H4 call tt N keep f) s) (fun b=>FN (H4 call tt N keep f) b c s) sc=_
  rw[ih]
  cases sc with
  |none=>exact LI ..
  |some b=>exact Hk ..
def JP(call:CallF)(ft:FT)(tt:TT)(fuel:Nat):CallF:=fun f args H nx=>
 @Option.rec FnA (fun _=>Option (AVal×Heap×Nat)) none (fun fa=>
  @Option.rec (Ex×St) (fun _=>Option (AVal×Heap×Nat)) none (fun r=>
   (fun z=>@Ex.rec (fun _=>Option (AVal×Heap×Nat)) z (fun _=>none) (fun _=>none) z r.1) (@Option.rec AVal (fun _=>Option (AVal×Heap×Nat)) none (fun v=>some (v,r.2.heap,r.2.nx)) (X6 tt r.2 fa.res)))
   (H4 call tt fa.n fa.keep fuel none fa.code ⟨Wm 0 args,H,nx⟩)) (ft f)
theorem LX(call:CallF)(ft:FT)(tt:TT)(fuel:Nat):JP call ft tt fuel=US call ft tt fuel:=by
 funext f args H nx
 unfold JP US
 cases ft f with
 |none=>rfl
 |some fa=>
  dsimp only
  rw[BK]
  cases YX call tt fa.n fa.keep fuel none fa.code ⟨Wm 0 args,H,nx⟩with
  |none=>rfl
  |some r=>
   obtain⟨e,s⟩:=r
   dsimp only
   cases e<;>dsimp only<;>cases X6 tt s fa.res<;>rfl
def UR(con:CallF)(pu gc:FuncId→Bool)(ft:FT)(tt:TT)(fuel:Nat):CallF:=
 @Nat.rec (fun _=>CallF) con (fun n ih=>V9 con (Wr pu (VE (JP ih ft tt (n+1))) (Wr gc (M3 (JP ih ft tt (n+1))) (JP ih ft tt (n+1))))) fuel
theorem Fi(con:CallF)(pu gc:FuncId→Bool)(ft:FT)(tt:TT):∀fuel,UR con pu gc ft tt fuel=Lq con pu gc ft tt fuel
 |0=>rfl
 |n+1=>by
  have ih:=Fi con pu gc ft tt n
  show V9 con (Wr pu (VE (JP (UR con pu gc ft tt n) ft tt (n+1))) (Wr gc (M3 (JP (UR con pu gc ft tt n) ft tt (n+1))) (JP (UR con pu gc ft tt n) ft tt (n+1))))=_
  rw[ih,LX]
  rfl
theorem Fh[Syms]{P:Program}{con:CallF}{pu gc:FuncId→Bool}{ft:FT}{tt:TT}(hcon:con.ok P)(htt:TT.ok P tt)(hft:FT.ok P ft)(hm:P.follows .mixedOrders=true)(fuel:Nat):CallF.ok P (UR con pu gc ft tt fuel):=by
 rw[Fi]
 exact Fj hcon htt hft hm fuel
end Go.Av
end
end
section
set_option linter.unusedVariables false
set_option linter.unusedSimpArgs false
noncomputable section
namespace Go.Av
theorem Wc{A B:Heap}{n:Nat}{b:Blk}:(A++B).get n=some b→A.get n=some b∨(A.get n=none∧B.get n=some b):=by
 induction A with
 |nil=>exact fun h=>.inr ⟨rfl,h⟩
 |cons p A ih=>
  obtain⟨k,c⟩:=p
  intro h
  rw[List.cons_append,Heap.get_cons]at h
  rw[Heap.get_cons]
  cases hb:Nat.beq n k with
  |true=>rw[hb]at h;exact .inl h
  |false=>rw[hb]at h;exact ih h
def Lk(H:Heap)(n:Nat):Bool:=@Option.rec Blk (fun _=>Bool) false (fun _=>true) (H.get n)
def Jl(K H:Heap):Heap:=JF (fun k=>Bool.not (Lk K k)) H
theorem CS{K H:Heap}{n:Nat}{b:Blk}(h:(Jl K H).get n=some b):H.get n=some b∧K.get n=none:=by
 unfold Jl at h
 rw[Ja]at h
 split at h
 ·rename_i hc
  refine⟨h,?_⟩
  unfold Lk at hc
  cases hk:K.get n with
  |none=>rfl
  |some c=>rw[hk]at hc;cases hc
 ·cases h
theorem DD[Syms]{P:Program}{f:FuncId}{args:List AVal}{K H:Heap}{nx:Nat}{v:AVal}{H1:Heap}{nx1:Nat}(h:X1 P f args K nx v H1 nx1)(hs:K.sub H)(hd:∀n b,H1.get n=some b→b.ro=false∨ ∃c,K.get n=some c):
 X1 P f args H nx v (H1++Jl K H) nx1:=by
 intro ι w vs ha hH hb
 refine(h ι w vs ha (hH.sub hs) hb).mono ?_
 rintro e w' ⟨r,κ,rfl,hr,hH1,hst,hb'⟩
 have notK:∀{g m:Nat} {c:Blk} {M:Loc},Own ι K g→H.get m=some c→K.get m=none→ι m=some M→M.g=g→False:=by
  rintro g m c M ⟨m0,b0,L0,k1,k2,k3,k4⟩ q1 q2 q3 q4
  rcases hH.inj m0 m b0 c L0 M (hs _ _ k1) q1 k3 q3 (k4.trans q4.symm)with rfl|⟨q,_⟩
  ·rw[q2]at k1;cases k1
  ·rw[k2]at q;cases q
 have rest:∀{m:Nat} {c:Blk},(Jl K H).get m=some c→H.get m=some c∧K.get m=none∧ ∃M,ι m=some M∧κ m=some M∧M.g<w.heap.size∧Zf ι w M c:=fun{m c} hm=>by
  obtain⟨q1,q2⟩:=CS hm
  obtain⟨M,q3,q4⟩:=hH.blk m c q1
  exact⟨q1,q2,M,q3,hst.st.le.1 _ _ q3,(hb m M q3).2,q4⟩
 have cross:∀{n m:Nat} {b c:Blk} {L M:Loc},H1.get n=some b→(Jl K H).get m=some c→κ n=some L→κ m=some M→L.g=M.g→b.ro=true∧c.ro=true:=by
  intro n m b c L M h1 h2 h3 h4 h5
  obtain⟨q1,q2,M',q3,q4,q5,_⟩:=rest h2
  obtain rfl:M'=M:=Option.some.inj (q4.symm.trans h4)
  have hro:b.ro=true:=by
   cases hb0:b.ro with
   |true=>rfl
   |false=>
    rcases hst.st.own L.g ⟨n,b,L,h1,hb0,h3,rfl⟩with h6|h6
    ·exact(notK h6 q1 q2 q3 h5.symm).elim
    ·omega
  refine⟨hro,?_⟩
  rcases hd n b h1 with h6|⟨c0,h6⟩
  ·rw[h6]at hro;cases hro
  ·obtain⟨L0,k1,_⟩:=hH.blk n c0 (hs _ _ h6)
   obtain rfl:L0=L:=Option.some.inj ((hst.st.le.1 _ _ k1).symm.trans h3)
   rcases hH.inj n m c0 c L0 M' (hs _ _ h6) q1 k1 q3 h5 with rfl|⟨_,q⟩
   ·rw[q2]at h6;cases h6
   ·exact q
 refine⟨r,κ,rfl,hr,⟨fun n b hn=>?_,fun n m b c L M hn hm hL hM hg=>?_,fun g cs hg=>⟨(hH1.fz g cs hg).1,?_⟩⟩,⟨⟨hst.st.le,hst.st.os,hst.st.tape,hst.st.output,hst.st.size,fun g hg hno=>hst.st.same g hg fun ho=>hno (ho.sub hs),?_,fun g cs hg=>?_⟩,hst.up,hst.fresh⟩,hb'⟩
 ·rcases Wc hn with h1|⟨_,h1⟩
  ·exact hH1.blk n b h1
  ·obtain⟨q1,q2,M,q3,q4,q5,q6⟩:=rest h1
   exact⟨M,q4,q6.keep hst.st.le (hst.st.same _ q5 fun ho=>notK ho q1 q2 q3 rfl)⟩
 ·rcases Wc hn with h1|⟨_,h1⟩<;>rcases Wc hm with h2|⟨_,h2⟩
  ·exact hH1.inj n m b c L M h1 h2 hL hM hg
  ·exact .inr (cross h1 h2 hL hM hg)
  ·obtain⟨q1,q2⟩:=cross h2 h1 hM hL hg.symm
   exact .inr ⟨q2,q1⟩
  ·obtain⟨q1,_,M1,q3,q4,_⟩:=rest h1
   obtain⟨r1,_,M2,r3,r4,_⟩:=rest h2
   obtain rfl:M1=L:=Option.some.inj (q4.symm.trans hL)
   obtain rfl:M2=M:=Option.some.inj (r4.symm.trans hM)
   exact hH.inj n m b c _ _ q1 r1 q3 r3 hg
 ·rintro⟨n,b,L,hn,h2,h3,h4⟩
  rcases Wc hn with h1|⟨_,h1⟩
  ·exact(hH1.fz g cs hg).2 ⟨n,b,L,h1,h2,h3,h4⟩
  ·obtain⟨q1,q2,M,q3,q4,q5,_⟩:=rest h1
   obtain rfl:M=L:=Option.some.inj (q4.symm.trans h3)
   rcases hst.st.fzs g cs hg with k|k|k
   ·exact(hH.fz g cs k).2 ⟨n,b,M,q1,h2,q3,h4⟩
   ·omega
   ·exact notK k q1 q2 q3 h4
 ·rintro g ⟨n,b,L,hn,h2,h3,h4⟩
  rcases Wc hn with h1|⟨_,h1⟩
  ·rcases hst.st.own g ⟨n,b,L,h1,h2,h3,h4⟩with k|k
   ·exact .inl (k.sub hs)
   ·exact .inr k
  ·obtain⟨q1,q2,M,q3,q4,q5,_⟩:=rest h1
   obtain rfl:M=L:=Option.some.inj (q4.symm.trans h3)
   exact .inl ⟨n,b,M,q1,h2,q3,h4⟩
 ·rcases hst.st.fzs g cs hg with k|k|k
  ·exact .inl k
  ·exact .inr (.inl k)
  ·exact .inr (.inr (k.sub hs))
def Iu(K H:Heap):Bool:=K.all fun p=>match p.2,H.get p.1 with
 |some b,some c=>Ks b c
 |_,_=>false
theorem FJ:∀{K H:Heap},Iu K H=true→K.sub H
 |[],H,_,n,b,hn=>by rw[Heap.get_nil]at hn;cases hn
 |(k,c)::K,H,h,n,b,hn=>by
  rw[Iu,List.all_cons,Bool.and_eq_true]at h
  rw[Heap.get_cons]at hn
  cases hb:Nat.beq n k with
  |true=>
   rw[hb]at hn
   obtain rfl:=Nat.eq_of_beq_eq_true hb
   have h1:=h.1
   change c=some b at hn
   subst hn
   cases hg:H.get n with
   |none=>rw[hg]at h1;cases h1
   |some d=>rw[hg]at h1;rw[Kr _ _ h1]
  |false=>rw[hb]at hn;exact FJ (K:=K) h.2 n b hn
def Pj(K H1:Heap):Bool:=H1.all fun p=>match p.2 with
 |some b=>Bool.not b.ro||Lk K p.1
 |none=>true
theorem EI{K:Heap}:∀{H1:Heap},Pj K H1=true→ ∀n b,H1.get n=some b→b.ro=false∨ ∃c,K.get n=some c
 |[],_,n,b,hn=>by rw[Heap.get_nil]at hn;cases hn
 |(k,c)::H1,h,n,b,hn=>by
  rw[Pj,List.all_cons,Bool.and_eq_true]at h
  rw[Heap.get_cons]at hn
  cases hb:Nat.beq n k with
  |true=>
   rw[hb]at hn
   obtain rfl:=Nat.eq_of_beq_eq_true hb
   change c=some b at hn
   subst hn
   have h1:(Bool.not b.ro||Lk K n)=true:=h.1
   rw[Bool.or_eq_true]at h1
   rcases h1 with h1|h1
   ·exact .inl (by cases hr:b.ro with
     |false=>rfl
     |true=>rw[hr]at h1;cases h1)
   ·right
    unfold Lk at h1
    cases hk:K.get n with
    |none=>rw[hk]at h1;cases h1
    |some d=>exact⟨d,rfl⟩
  |false=>rw[hb]at hn;exact EI (H1:=H1) h.2 n b hn
def IF(o:Option (AVal×Heap×Nat))(K:Heap)(v:AVal)(H1:Heap)(nx1:Nat):Bool:=match o with
 |some (u,H',nx')=>eqA u v&&(Nat.beq nx' nx1&&(Iu H1 H'&&Pj K H1))
 |none=>false
def VK(f0:FuncId)(as:List AVal)(K:Heap)(nx0:Nat)(v:AVal)(H1:Heap)(nx1:Nat):CallF:=fun f args H nx=>
 @Bool.rec (fun _=>Option (AVal×Heap×Nat)) none (@Bool.rec (fun _=>Option (AVal×Heap×Nat)) none (some (v,H1++Jl K H,nx1)) (Nat.beq nx nx0&&(Dg args as&&Iu K H))) (Nat.beq f f0)
theorem VJ[Syms]{P:Program}{call:CallF}{f0:FuncId}{as:List AVal}{K:Heap}{nx0:Nat}{v:AVal}{H1:Heap}{nx1:Nat}(hcall:call.ok P)(h:IF (call f0 as K nx0) K v H1 nx1=true):(VK f0 as K nx0 v H1 nx1).ok P:=by
 unfold IF at h
 split at h
 rotate_left
 ·cases h
 rename_i u H' nx' hr
 simp only[Bool.and_eq_true]at h
 obtain⟨h1,h2,h3,h4⟩:=h
 obtain rfl:=UV _ _ h1
 obtain rfl:=Nat.eq_of_beq_eq_true h2
 obtain⟨g1,g2⟩:=hcall _ _ _ _ _ _ _ hr
 intro f args H nx w Hw nw hm
 unfold VK at hm
 cases hb:Nat.beq f f0 with
 |false=>rw[hb]at hm;cases hm
 |true=>
  rw[hb]at hm
  obtain rfl:=Nat.eq_of_beq_eq_true hb
  cases hc:(Nat.beq nx nx0&&(Dg args as&&Iu K H))with
  |false=>rw[hc]at hm;cases hm
  |true=>
   rw[hc]at hm
   simp only[Bool.and_eq_true]at hc
   obtain⟨c1,c2,c3⟩:=hc
   obtain rfl:=Nat.eq_of_beq_eq_true c1
   obtain rfl:=Kt _ _ c2
   cases hm
   exact⟨g1,DD (JU g2 (FJ h3)) (FJ c3) (EI h4)⟩
end Go.Av
end
end
