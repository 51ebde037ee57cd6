/-
  A region that draws its order, whole. Over every program.
-/
import Derived.Test.YtgaacnljcnibdaaAvT
set_option linter.unusedVariables false
set_option linter.unusedSimpArgs false
noncomputable section
namespace Go.Av

section
variable {P : Program} {N : Nat} {ops : Array Oper} {n : Nat} {M : Nat → Nat → Bool} {s : St} {v : Nat → AVal} {nw : Nat → List (Nat × Blk)} {ι0 : Inj} {w0 : World}

/-- The state behind the calm part. -/
def calmEnd (ops : Array Oper) (n : Nat) (s : St) (v : Nat → AVal) (nw : Nat → List (Nat × Blk)) : St := ⟨envAt s.env (dstAt ops) v n, visH s.heap nw (fun _ => true) n, s.nx + n * RR⟩

theorem dsts_ne (pl : Plan ops n M) : ∀ k l t, k < l → l < n → dstAt ops k = some t → dstAt ops l ≠ some t := by
  intro k l t hkl hln hk
  have hlsz : l < ops.size := Nat.lt_of_lt_of_le hln pl.le
  have hk' : ops[k]? = some (ops[k]'(by omega)) := Array.getElem?_eq_getElem _
  have hl' : ops[l]? = some (ops[l]'hlsz) := Array.getElem?_eq_getElem _
  have e1 : dstAt ops k = (ops[k]'(by omega)).dst := by simp [dstAt, hk']
  have e2 : dstAt ops l = (ops[l]'hlsz).dst := by simp [dstAt, hl']
  rw [e1] at hk
  rw [e2]
  exact pl.dsts k l _ _ t hk' hl' hkl hln hk

theorem dinv_done [Syms] (pl : Plan ops n M) (hS : RelH ι0 s.heap w0 ∧ Bound ι0 s.nx w0) {D : Nat → Prop} {ι : Inj} {a : Act} {w : World} (hI : DInv N ops n M s v nw ι0 w0 D ι a w) (hall : ∀ k, k < n → D k) :
    RelS N ι (calmEnd ops n s v nw) a w ∧ StepN ι0 s.heap s.nx w0 ι (calmEnd ops n s v nw).heap (calmEnd ops n s v nw).nx w := by
  have hb : ∀ m L, ι m = some L → m < s.nx + n * RR ∧ L.g < w.heap.size := by
    intro m L hm
    obtain ⟨h1, h2⟩ := hI.ids m L hm
    refine ⟨?_, h1⟩
    rcases h2 with h2 | ⟨k, hk, _, hown⟩
    · have := (hS.2 m L h2).1; omega
    · unfold ownN at hown
      have : (k + 1) * RR ≤ n * RR := Nat.mul_le_mul_right _ (by omega)
      omega
  refine ⟨⟨hI.defers, hI.size, fun t => ?_, ⟨fun m b hm => ?_, fun m m' b b' L L' h1 h2 h3 h4 h5 => ?_⟩, hb⟩, ⟨⟨hI.le, hI.os, hI.tape, hI.output, hI.hsize, fun g hg _ => hI.same g hg, fun g hg => ?_⟩, by simp [calmEnd], fun m L hm => ?_⟩⟩
  · by_cases hex : ∃ k, k < n ∧ dstAt ops k = some t
    · obtain ⟨k, hk, hd⟩ := hex
      have hval : (envAt s.env (dstAt ops) v n).get t = v k := by
        have := envAt_hit (env0 := s.env) (dst := fun q => if q < n then dstAt ops q else none) (v := v) (i := n) (k := k) (t := t) (fun k l t hkl hk => by
          by_cases hl : l < n
          · have hk2 : k < n := by omega
            simp only [hk2, if_true] at hk
            simp only [hl, if_true]
            exact dsts_ne pl k l t hkl hl hk
          · simp [hl]) hk (by simp [hk, hd])
        rw [← this]
        have heq : ∀ j, j ≤ n → envAt s.env (dstAt ops) v j = envAt s.env (fun q => if q < n then dstAt ops q else none) v j := by
          intro j
          induction j with
          | zero => intro _; rfl
          | succ j ih => intro hj; simp only [envAt]; rw [ih (by omega)]; rw [if_pos (by omega)]
        rw [heq n (Nat.le_refl _)]
      show RelV ι ((envAt s.env (dstAt ops) v n).get t) _
      rw [hval]
      exact (hI.hit k t hk (hall k hk) hd).mono (cutI_le_self _ _)
    · have hno : ∀ k, k < n → dstAt ops k ≠ some t := fun k h1 h2 => hex ⟨k, h1, h2⟩
      show RelV ι ((envAt s.env (dstAt ops) v n).get t) _
      rw [envAt_miss hno]
      exact (hI.miss t (fun k hk _ => hno k hk)).mono hI.le
  · rcases visH_get n m b hm with h1 | ⟨k, h1, _, h3⟩
    · obtain ⟨L, hL, hB⟩ := hS.1.blk m b h1
      exact ⟨L, hI.le m L hL, hB.keep hI.le (hI.same _ (hS.2 m L hL).2)⟩
    · obtain ⟨L, hL, _, hB⟩ := hI.made k m b h1 (hall k h1) h3
      exact ⟨L, hL, hB.keep (cutI_le_self _ _) rfl⟩
  · rcases visH_get n m b h1 with g1 | ⟨k, g1, _, g3⟩
    · obtain ⟨X, hX, _⟩ := hS.1.blk m b g1
      obtain rfl : X = L := by have := hI.le m X hX; rw [h3] at this; exact (Option.some.inj this).symm
      have hXg := (hS.2 m X hX).2
      rcases visH_get n m' b' h2 with g1' | ⟨k', g1', _, g3'⟩
      · obtain ⟨X', hX', _⟩ := hS.1.blk m' b' g1'
        obtain rfl : X' = L' := by have := hI.le m' X' hX'; rw [h4] at this; exact (Option.some.inj this).symm
        exact hS.1.inj m m' b b' X X' g1 g1' hX hX' h5
      · obtain ⟨Y, hY, hYg, _⟩ := hI.made k' m' b' g1' (hall k' g1') g3'
        rw [h4] at hY
        cases hY
        omega
    · obtain ⟨Y, hY, hYg, _⟩ := hI.made k m b g1 (hall k g1) g3
      rw [h3] at hY
      cases hY
      rcases visH_get n m' b' h2 with g1' | ⟨k', g1', _, g3'⟩
      · obtain ⟨X', hX', _⟩ := hS.1.blk m' b' g1'
        obtain rfl : X' = L' := by have := hI.le m' X' hX'; rw [h4] at this; exact (Option.some.inj this).symm
        have hXg := (hS.2 m' X' hX').2
        omega
      · exact .inl (hI.apart k k' m m' b b' L L' g1 g1' (hall k g1) (hall k' g1') g3 g3' h3 h4 h5)
  · obtain ⟨m, b, L, h1, h2, h3, h4⟩ := hg
    rcases visH_get n m b h1 with g1 | ⟨k, g1, _, g3⟩
    · obtain ⟨X, hX, _⟩ := hS.1.blk m b g1
      obtain rfl : X = L := by have := hI.le m X hX; rw [h3] at this; exact (Option.some.inj this).symm
      exact .inl ⟨m, b, X, g1, h2, hX, h4⟩
    · obtain ⟨Y, hY, hYg, _⟩ := hI.made k m b g1 (hall k g1) g3
      rw [h3] at hY
      cases hY
      exact .inr (by omega)
  · rcases (hI.ids m L hm).2 with h | ⟨k, _, _, hown⟩
    · exact .inl h
    · right
      unfold ownN at hown
      omega

def Lst (listed : Array Bool) (k : Nat) : Prop := listed.getD k false = true

structure Cl (ops : Array Oper) (listed : Array Bool) : Prop where
  size : listed.size = ops.size
  closed : ∀ k o, ops[k]? = some o → Lst listed k → ∀ e ∈ o.after, Region.binds .any e = true → Lst listed e.on

theorem cl_pre (pl : Plan ops n M) {listed : Array Bool} (hc : Cl ops listed) : ∀ i k, Lst listed i → M i k = true → Lst listed k := by
  intro i
  induction i using Nat.strongRecOn with
  | _ i ih =>
    intro k hi hm
    obtain ⟨o, ho, e, he, hb, hor⟩ := pl.by_ i k hm
    have hl := hc.closed i o ho hi e he hb
    rcases hor with rfl | h
    · exact hl
    · exact ih e.on (pl.edge i o ho e he hb).1 k hl h

theorem lst_set {listed : Array Bool} {i k : Nat} (hi : i < listed.size) : Lst (listed.setIfInBounds i true) k ↔ Lst listed k ∨ k = i := by
  unfold Lst
  by_cases h : i = k
  · subst h
    simp [hi]
  · rw [getD_set_ne false h]
    have : ¬ k = i := fun e => h e.symm
    simp [this]

/-- How many are not listed. -/
def left (listed : Array Bool) : Nat := listed.toList.count false

theorem left_set {listed : Array Bool} {i : Nat} (hi : listed.getD i true = false) : left (listed.setIfInBounds i true) + 1 = left listed ∧ i < listed.size := by
  have hlt : i < listed.size := by
    rcases Nat.lt_or_ge i listed.size with h | h
    · exact h
    · simp [Array.getElem?_eq_none h] at hi
  have hv : listed.toList[i]'(by simpa using hlt) = false := by simpa [hlt] using hi
  refine ⟨?_, hlt⟩
  unfold left
  rw [Array.toList_setIfInBounds, List.count_set (by simpa using hlt)]
  rw [hv]
  have hpos : 0 < listed.toList.count false := List.count_pos_iff.2 (by rw [← hv]; exact List.getElem_mem _)
  rw [show (false == false) = true from rfl, show (true == false) = false from rfl, if_pos rfl, if_neg (by simp)]
  omega

theorem left_zero {listed : Array Bool} (h : left listed = 0) (k : Nat) (hk : k < listed.size) : Lst listed k := by
  have : ¬ false ∈ listed.toList := List.count_eq_zero.1 h
  unfold Lst
  have hv : listed.getD k false = listed[k] := by simp [hk]
  rw [hv]
  cases hb : listed[k] with
  | true => rfl
  | false => exact absurd (by rw [← hb]; exact Array.mem_toList_iff.2 (Array.getElem_mem hk)) this

theorem not_lst {listed : Array Bool} {k : Nat} (hk : k < listed.size) (h : ¬ Lst listed k) : listed.getD k true = false := by
  unfold Lst at h
  simp [hk] at h ⊢
  exact h

/-- If none is ready, all are listed. -/
theorem all_listed [Syms] (pl : Plan ops n M) {listed : Array Bool} (hc : Cl ops listed) (hr : Region.ready .any ops listed = []) : ∀ k, k < ops.size → Lst listed k := by
  intro k
  induction k using Nat.strongRecOn with
  | _ k ih =>
    intro hk
    rcases Classical.em (Lst listed k) with h | h
    · exact h
    · have ho : ops[k]? = some (ops[k]'hk) := Array.getElem?_eq_getElem _
      have : k ∈ Region.ready .any ops listed := mem_ready.2 ⟨not_lst (by rw [hc.size]; exact hk) h, _, ho, fun e he hb => by
        have := (pl.edge k _ ho e he hb).1
        exact ih e.on this (by omega)⟩
      rw [hr] at this
      cases this

/-- What is asked of a drawing region. -/
structure Drawn [Syms] (P : Program) (N : Nat) (ops : Array Oper) (n : Nat) (M : Nat → Nat → Bool) (s : St) (v : Nat → AVal) (nw : Nat → List (Nat × Blk)) (s' : St) : Prop where
  plan : Plan ops n M
  dst : ∀ i o, ops[i]? = some o → i < n → dstOk N o.dst = true
  news : ∀ k, k < n → ∀ id b, (id, b) ∈ nw k → ownN s.nx k id
  calm : ∀ i o, ops[i]? = some o → i < n → CalmSem P N ops o ((envAt s.env (dstAt ops) v i).only (o.looksAt ops)) (visH s.heap nw (M i) i) (s.nx + i * RR) (v i) (nw i)
  tail : Chain P N ops (ops.toList.drop n) (calmEnd ops n s v nw) s'

theorem draw_any [Syms] {s' : St} {Q : Exit → Act → World → Prop} (hd : Drawn P N ops n M s v nw s') (hS : RelH ι0 s.heap w0 ∧ Bound ι0 s.nx w0)
    (hQ : ∀ κ a' w', RelS N κ s' a' w' → StepN ι0 s.heap s.nx w0 κ s'.heap s'.nx w' → Q .normal a' w') : ∀ (fuel : Nat) (listed : Array Bool) (a : Act) (w : World) (ι : Inj), Cl ops listed → left listed ≤ fuel →
    (((∀ k, Lst listed k → k < n) ∧ DInv N ops n M s v nw ι0 w0 (Lst listed) ι a w) ∨
      ∃ j sj, n ≤ j ∧ (∀ k, k < ops.size → (Lst listed k ↔ k < j)) ∧ Chain P N ops (ops.toList.drop j) sj s' ∧ RelS N ι sj a w ∧ StepN ι0 s.heap s.nx w0 ι sj.heap sj.nx w) →
    wpAny P .any ops Q fuel listed a w := by
  have pl := hd.plan
  -- all listed: the end
  have fin : ∀ (listed : Array Bool) (a : Act) (w : World) (ι : Inj), (∀ k, k < ops.size → Lst listed k) →
      (((∀ k, Lst listed k → k < n) ∧ DInv N ops n M s v nw ι0 w0 (Lst listed) ι a w) ∨
      ∃ j sj, n ≤ j ∧ (∀ k, k < ops.size → (Lst listed k ↔ k < j)) ∧ Chain P N ops (ops.toList.drop j) sj s' ∧ RelS N ι sj a w ∧ StepN ι0 s.heap s.nx w0 ι sj.heap sj.nx w) → Q .normal a w := by
    intro listed a w ι hall hst
    rcases hst with ⟨h1, h2⟩ | ⟨j, sj, h1, h2, h3, h4, h5⟩
    · have hn : ops.size ≤ n := by
        rcases Nat.lt_or_ge n ops.size with h | h
        · exact absurd (h1 n (hall n h)) (Nat.lt_irrefl _)
        · exact h
      obtain ⟨g1, g2⟩ := dinv_done pl hS h2 (fun k hk => hall k (Nat.lt_of_lt_of_le hk pl.le))
      have ht := hd.tail
      rw [List.drop_of_length_le (by simpa using hn)] at ht
      have ht : calmEnd ops n s v nw = s' := ht
      rw [ht] at g1 g2
      exact hQ ι a w g1 g2
    · have hj : ops.size ≤ j := by
        rcases Nat.lt_or_ge j ops.size with h | h
        · exact absurd ((h2 j h).1 (hall j h)) (Nat.lt_irrefl _)
        · exact h
      rw [List.drop_of_length_le (by simpa using hj)] at h3
      have h3 : sj = s' := h3
      subst h3
      exact hQ ι a w h4 h5
  intro fuel
  induction fuel with
  | zero =>
    intro listed a w ι hc hf hst
    have hall : ∀ k, k < ops.size → Lst listed k := fun k hk => left_zero (by omega) k (by rw [hc.size]; exact hk)
    refine ⟨?_, fin listed a w ι hall hst⟩
    cases hr : Region.ready .any ops listed with
    | nil => rfl
    | cons x xs =>
      have hx : x ∈ Region.ready .any ops listed := by rw [hr]; exact List.mem_cons_self ..
      obtain ⟨h1, o, ho, _⟩ := mem_ready.1 hx
      have hxs : x < ops.size := (Array.getElem?_eq_some_iff.1 ho).1
      have := hall x hxs
      unfold Lst at this
      have hxl : x < listed.size := by rw [hc.size]; exact hxs
      simp [hxl] at this h1
      rw [this] at h1
      cases h1
  | succ fuel ih =>
    intro listed a w ι hc hf hst
    refine ⟨fun hr => fin listed a w ι (all_listed pl hc hr) hst, fun i hir => ?_⟩
    obtain ⟨hun, o, ho, hedges⟩ := mem_ready.1 hir
    have hisz : i < ops.size := (Array.getElem?_eq_some_iff.1 ho).1
    obtain ⟨hleft, hilt⟩ := left_set hun
    have hnl : ¬ Lst listed i := by
      unfold Lst
      simp [hilt] at hun ⊢
      exact hun
    have hpre : ∀ k, M i k = true → Lst listed k := by
      intro k hm
      obtain ⟨o', ho', e, he, hb, hor⟩ := pl.by_ i k hm
      rw [ho] at ho'
      cases ho'
      have hl := hedges e he hb
      rcases hor with rfl | h
      · exact hl
      · exact cl_pre pl hc e.on k hl h
    have hpost : ∀ k, M k i = true → ¬ Lst listed k := fun k hm hl => hnl (cl_pre pl hc k i hl hm)
    have hc' : Cl ops (listed.setIfInBounds i true) := by
      refine ⟨by simp [hc.size], fun k p hp hl e he hb => ?_⟩
      rw [lst_set hilt] at hl ⊢
      rcases hl with hl | rfl
      · exact .inl (hc.closed k p hp hl e he hb)
      · rw [ho] at hp
        cases hp
        exact .inl (hedges e he hb)
    have tailStep : ∀ (j : Nat) (sj : St), n ≤ j → (∀ k, k < ops.size → (Lst listed k ↔ k < j)) → Chain P N ops (ops.toList.drop j) sj s' → RelS N ι sj a w → StepN ι0 s.heap s.nx w0 ι sj.heap sj.nx w → n ≤ i →
        wpOp P ops Q i (wpAny P .any ops Q fuel (listed.setIfInBounds i true)) a w := by
      intro j sj hj hlist hch hRS hSt hni
      have hij : i = j := by
        have h1 : ¬ i < j := fun h => hnl ((hlist i hisz).2 h)
        have h2 : ¬ j < i := by
          intro h
          have := hpre j (pl.tail i j hni hisz h)
          exact absurd ((hlist j (by omega)).1 this) (Nat.lt_irrefl _)
        omega
      subst hij
      have hdrop : ops.toList.drop i = o :: ops.toList.drop (i + 1) := by
        have hv : ops.toList[i]'(by simpa using hisz) = o := by
          have := Array.getElem?_eq_some_iff.1 ho
          simpa using this.2
        rw [List.drop_eq_getElem_cons (by simpa using hisz), hv]
      rw [hdrop] at hch
      obtain ⟨s1, hop, hch'⟩ := hch
      unfold wpOp
      rw [ho]
      refine hop ι a w _ Q hRS (fun κ a' w' hRS' hSt' => ?_)
      refine ih _ a' w' κ hc' (by omega) (.inr ⟨i + 1, s1, by omega, fun k hk => ?_, hch', hRS', hSt.trans hSt'⟩)
      rw [lst_set hilt, hlist k hk]
      omega
    rcases hst with ⟨h1, h2⟩ | ⟨j, sj, h1, h2, h3, h4, h5⟩
    · by_cases hin : i < n
      · unfold wpOp
        rw [ho]
        refine dinv_step pl hS h2 ho hin hnl hpre hpost (hd.dst i o ho hin) hd.news (hd.calm i o ho hin) (fun κ a' w' hI => ?_)
        refine ih _ a' w' κ hc' (by omega) (.inl ⟨fun k hk => ?_, ?_⟩)
        · rw [lst_set hilt] at hk
          rcases hk with hk | rfl
          · exact h1 k hk
          · exact hin
        · have : (fun k => Lst listed k ∨ k = i) = Lst (listed.setIfInBounds i true) := funext fun k => propext (lst_set hilt).symm
          rw [← this]
          exact hI
      · have hall : ∀ k, k < n → Lst listed k := fun k hk => hpre k (pl.tail i k (by omega) hisz (by omega))
        obtain ⟨g1, g2⟩ := dinv_done pl hS h2 hall
        exact tailStep n _ (Nat.le_refl _) (fun k hk => ⟨h1 k, hall k⟩) hd.tail g1 g2 (by omega)
    · have hin : n ≤ i := by
        rcases Nat.lt_or_ge i n with h | h
        · exact absurd ((h2 i hisz).2 (by omega)) hnl
        · exact h
      exact tailStep j sj h1 h2 h3 h4 h5 hin

theorem drawn_region [Syms] {s' : St} {Q : Exit → Act → World → Prop} {id : Nat} {a : Act} {w : World} {ι : Inj} (hm : P.follows .mixedOrders = true) (hd : Drawn P N ops n M s v nw s') (hS : RelS N ι s a w)
    (hQ : ∀ κ a' w', RelS N κ s' a' w' → StepN ι s.heap s.nx w κ s'.heap s'.nx w' → Q .normal a' w') : (Code.region id ops true).wp P Q a w := by
  refine wp_region_any hm ?_
  have hH : RelH ι s.heap { w with drawn := w.drawn + 1 } := ⟨fun n b hb => let ⟨L, h1, h2⟩ := hS.heap.blk n b hb; ⟨L, h1, h2.keep (Inj.le_refl ι) rfl⟩, hS.heap.inj⟩
  have hst : StepN ι s.heap s.nx w ι s.heap s.nx { w with drawn := w.drawn + 1 } := ⟨Step.drew ι s.heap w _, Nat.le_refl _, fun _ _ h => .inl h⟩
  have no : ∀ k, ¬ Lst (Array.replicate ops.size false) k := by
    intro k h
    unfold Lst at h
    rcases Nat.lt_or_ge k ops.size with h' | h'
    · simp [h'] at h
    · simp [h'] at h
  refine draw_any (w0 := { w with drawn := w.drawn + 1 }) hd ⟨hH, hS.bound⟩ (fun κ a' w' h1 h2 => hQ κ a' w' h1 (hst.trans h2)) _ _ a _ ι ⟨by simp, fun k o ho h => absurd h (no k)⟩ (by simp [left]) (.inl ⟨fun k h => absurd h (no k), ?_⟩)
  exact ⟨hS.defers, hS.size, Inj.le_refl ι, fun m L hm => ⟨(hS.bound m L hm).2, .inl hm⟩, rfl, rfl, rfl, Nat.le_refl _, fun _ _ => rfl, fun t _ => hS.env t, fun k t _ h => absurd h (no k), fun k id b _ h => absurd h (no k), fun k k' id id' b b' L L' _ _ h => absurd h (no k)⟩

end
end Go.Av
