/-
  A region that draws its order, whole. Over every program.
-/
import Derived.Test.YtgaacnljcnibdaaAvT
set_option linter.unusedVariables false
set_option linter.unusedSimpArgs false
noncomputable section
namespace Go.Av

section
variable {P : Program} {N : Nat} {ops : Array Oper} {n : Nat} {M : Nat → Nat → Bool} {s : St} {v : Nat → AVal} {nw : Nat → List (Nat × Blk)} {ι0 : Inj} {w0 : World}

/-- The state behind the calm part. -/
def calmEnd (ops : Array Oper) (n : Nat) (s : St) (v : Nat → AVal) (nw : Nat → List (Nat × Blk)) : St := ⟨envAt s.env (dstAt ops) v n, visH s.heap nw (fun _ => true) n, s.nx + n * RR⟩

theorem dsts_ne {Mv : Nat → Bool} (pl : Plan ops n M Mv) : ∀ k l t, k < l → l < n → dstAt ops k = some t → dstAt ops l ≠ some t := by
  intro k l t hkl hln hk
  have hlsz : l < ops.size := Nat.lt_of_lt_of_le hln pl.le
  have hk' : ops[k]? = some (ops[k]'(by omega)) := Array.getElem?_eq_getElem _
  have hl' : ops[l]? = some (ops[l]'hlsz) := Array.getElem?_eq_getElem _
  have e1 : dstAt ops k = (ops[k]'(by omega)).dst := by simp [dstAt, hk']
  have e2 : dstAt ops l = (ops[l]'hlsz).dst := by simp [dstAt, hl']
  rw [e1] at hk
  rw [e2]
  exact pl.dsts k l _ _ t hk' hl' hkl hln hk

theorem dinv_done [Syms] {Mv : Nat → Bool} (pl : Plan ops n M Mv) (hS : RelH ι0 s.heap w0 ∧ Bound ι0 s.nx w0) {D : Nat → Prop} {ι : Inj} {a : Act} {w : World} (hI : DInv N ops n M s v nw ι0 w0 D ι a w) (hall : ∀ k, k < n → D k) :
    RelS N ι (calmEnd ops n s v nw) a w ∧ StepN ι0 s.heap s.nx w0 ι (calmEnd ops n s v nw).heap (calmEnd ops n s v nw).nx w := by
  have hb : ∀ m L, ι m = some L → m < s.nx + n * RR ∧ L.g < w.heap.size := by
    intro m L hm
    obtain ⟨h1, h2⟩ := hI.ids m L hm
    refine ⟨?_, h1⟩
    rcases h2 with h2 | ⟨k, hk, _, hown⟩
    · have := (hS.2 m L h2).1; omega
    · unfold ownN at hown
      have : (k + 1) * RR ≤ n * RR := Nat.mul_le_mul_right _ (by omega)
      omega
  refine ⟨⟨hI.defers, hI.size, fun t => ?_, ⟨fun m b hm => ?_, fun m m' b b' L L' h1 h2 h3 h4 h5 => ?_, fun g cs hg => ⟨(hI.fz g cs hg).2.1, fun ho => ?_⟩⟩, hb⟩, ⟨⟨hI.le, hI.os, hI.tape, hI.output, hI.hsize, fun g hg _ => hI.same g hg, fun g hg => ?_, fun g cs hg => (hI.fz g cs hg).1.elim .inl (fun h => .inr (.inl h))⟩, by simp [calmEnd], fun m L hm => ?_⟩⟩
  · by_cases hex : ∃ k, k < n ∧ dstAt ops k = some t
    · obtain ⟨k, hk, hd⟩ := hex
      have hval : (envAt s.env (dstAt ops) v n).get t = v k := by
        have := envAt_hit (env0 := s.env) (dst := fun q => if q < n then dstAt ops q else none) (v := v) (i := n) (k := k) (t := t) (fun k l t hkl hk => by
          by_cases hl : l < n
          · have hk2 : k < n := by omega
            simp only [hk2, if_true] at hk
            simp only [hl, if_true]
            exact dsts_ne pl k l t hkl hl hk
          · simp [hl]) hk (by simp [hk, hd])
        rw [← this]
        have heq : ∀ j, j ≤ n → envAt s.env (dstAt ops) v j = envAt s.env (fun q => if q < n then dstAt ops q else none) v j := by
          intro j
          induction j with
          | zero => intro _; rfl
          | succ j ih => intro hj; simp only [envAt]; rw [ih (by omega)]; rw [if_pos (by omega)]
        rw [heq n (Nat.le_refl _)]
      show RelV ι ((envAt s.env (dstAt ops) v n).get t) _
      rw [hval]
      exact (hI.hit k t hk (hall k hk) hd).mono (cutI_le_self _ _)
    · have hno : ∀ k, k < n → dstAt ops k ≠ some t := fun k h1 h2 => hex ⟨k, h1, h2⟩
      show RelV ι ((envAt s.env (dstAt ops) v n).get t) _
      rw [envAt_miss hno]
      exact (hI.miss t (fun k hk _ => hno k hk)).mono hI.le
  · rcases visH_get n m b hm with h1 | ⟨k, h1, _, h3⟩
    · obtain ⟨L, hL, hB⟩ := hS.1.blk m b h1
      exact ⟨L, hI.le.1 m L hL, hB.keep hI.le (hI.same _ (hS.2 m L hL).2)⟩
    · obtain ⟨L, hL, _, hB⟩ := hI.made k m b h1 (hall k h1) h3
      exact ⟨L, hL, hB.keep (cutI_le_self _ _) rfl⟩
  · rcases visH_get n m b h1 with g1 | ⟨k, g1, _, g3⟩
    · obtain ⟨X, hX, _⟩ := hS.1.blk m b g1
      obtain rfl : X = L := by have := hI.le.1 m X hX; rw [h3] at this; exact (Option.some.inj this).symm
      have hXg := (hS.2 m X hX).2
      rcases visH_get n m' b' h2 with g1' | ⟨k', g1', _, g3'⟩
      · obtain ⟨X', hX', _⟩ := hS.1.blk m' b' g1'
        obtain rfl : X' = L' := by have := hI.le.1 m' X' hX'; rw [h4] at this; exact (Option.some.inj this).symm
        exact hS.1.inj m m' b b' X X' g1 g1' hX hX' h5
      · obtain ⟨Y, hY, hYg, _⟩ := hI.made k' m' b' g1' (hall k' g1') g3'
        rw [h4] at hY
        cases hY
        omega
    · obtain ⟨Y, hY, hYg, _⟩ := hI.made k m b g1 (hall k g1) g3
      rw [h3] at hY
      cases hY
      rcases visH_get n m' b' h2 with g1' | ⟨k', g1', _, g3'⟩
      · obtain ⟨X', hX', _⟩ := hS.1.blk m' b' g1'
        obtain rfl : X' = L' := by have := hI.le.1 m' X' hX'; rw [h4] at this; exact (Option.some.inj this).symm
        have hXg := (hS.2 m' X' hX').2
        omega
      · exact .inl (hI.apart k k' m m' b b' L L' g1 g1' (hall k g1) (hall k' g1') g3 g3' h3 h4 h5)
  · obtain ⟨m, b, L, h1, h2, h3, h4⟩ := ho
    rcases visH_get n m b h1 with g1 | ⟨k, g1, _, g3⟩
    · obtain ⟨X, hX, _⟩ := hS.1.blk m b g1
      obtain rfl : X = L := by have := hI.le.1 m X hX; rw [h3] at this; exact (Option.some.inj this).symm
      rcases (hI.fz g cs hg).1 with hz | hz
      · exact (hS.1.fz g cs hz).2 ⟨m, b, X, g1, h2, hX, h4⟩
      · have := (hS.2 m X hX).2
        omega
    · exact (hI.fz g cs hg).2.2 k m b L g1 (hall k g1) g3 h3 h4
  · obtain ⟨m, b, L, h1, h2, h3, h4⟩ := hg
    rcases visH_get n m b h1 with g1 | ⟨k, g1, _, g3⟩
    · obtain ⟨X, hX, _⟩ := hS.1.blk m b g1
      obtain rfl : X = L := by have := hI.le.1 m X hX; rw [h3] at this; exact (Option.some.inj this).symm
      exact .inl ⟨m, b, X, g1, h2, hX, h4⟩
    · obtain ⟨Y, hY, hYg, _⟩ := hI.made k m b g1 (hall k g1) g3
      rw [h3] at hY
      cases hY
      exact .inr (by omega)
  · rcases (hI.ids m L hm).2 with h | ⟨k, _, _, hown⟩
    · exact .inl h
    · right
      unfold ownN at hown
      omega

def Lst (listed : Array Bool) (k : Nat) : Prop := listed.getD k false = true

structure Cl (ops : Array Oper) (listed : Array Bool) : Prop where
  size : listed.size = ops.size
  closed : ∀ k o, ops[k]? = some o → Lst listed k → ∀ e ∈ o.after, Region.binds .any e = true → Lst listed e.on

theorem cl_pre {Mv : Nat → Bool} (pl : Plan ops n M Mv) {listed : Array Bool} (hc : Cl ops listed) (hmv : ∀ k, Mv k = true → Lst listed k) : ∀ i k, Lst listed i → M i k = true → Lst listed k := by
  intro i
  induction i using Nat.strongRecOn with
  | _ i ih =>
    intro k hi hm
    rcases pl.by_ i k hm with hv | ⟨o, ho, e, he, hb, hor⟩
    · exact hmv k hv
    have hl := hc.closed i o ho hi e he hb
    rcases hor with rfl | h
    · exact hl
    · exact ih e.on (pl.edge i o ho e he hb).1 k hl h

theorem lst_set {listed : Array Bool} {i k : Nat} (hi : i < listed.size) : Lst (listed.setIfInBounds i true) k ↔ Lst listed k ∨ k = i := by
  unfold Lst
  by_cases h : i = k
  · subst h
    simp [hi]
  · rw [getD_set_ne false h]
    have : ¬ k = i := fun e => h e.symm
    simp [this]

/-- How many are not listed. -/
def left (listed : Array Bool) : Nat := listed.toList.count false

theorem left_set {listed : Array Bool} {i : Nat} (hi : listed.getD i true = false) : left (listed.setIfInBounds i true) + 1 = left listed ∧ i < listed.size := by
  have hlt : i < listed.size := by
    rcases Nat.lt_or_ge i listed.size with h | h
    · exact h
    · simp [Array.getElem?_eq_none h] at hi
  have hv : listed.toList[i]'(by simpa using hlt) = false := by simpa [hlt] using hi
  refine ⟨?_, hlt⟩
  unfold left
  rw [Array.toList_setIfInBounds, List.count_set (by simpa using hlt)]
  rw [hv]
  have hpos : 0 < listed.toList.count false := List.count_pos_iff.2 (by rw [← hv]; exact List.getElem_mem _)
  rw [show (false == false) = true from rfl, show (true == false) = false from rfl, if_pos rfl, if_neg (by simp)]
  omega

theorem left_zero {listed : Array Bool} (h : left listed = 0) (k : Nat) (hk : k < listed.size) : Lst listed k := by
  have : ¬ false ∈ listed.toList := List.count_eq_zero.1 h
  unfold Lst
  have hv : listed.getD k false = listed[k] := by simp [hk]
  rw [hv]
  cases hb : listed[k] with
  | true => rfl
  | false => exact absurd (by rw [← hb]; exact Array.mem_toList_iff.2 (Array.getElem_mem hk)) this

theorem not_lst {listed : Array Bool} {k : Nat} (hk : k < listed.size) (h : ¬ Lst listed k) : listed.getD k true = false := by
  unfold Lst at h
  simp [hk] at h ⊢
  exact h

/-- If none is ready, all are listed. -/
theorem all_listed [Syms] {Mv : Nat → Bool} (pl : Plan ops n M Mv) {listed : Array Bool} (hc : Cl ops listed) (hr : Region.ready .any ops listed = []) : ∀ k, k < ops.size → Lst listed k := by
  intro k
  induction k using Nat.strongRecOn with
  | _ k ih =>
    intro hk
    rcases Classical.em (Lst listed k) with h | h
    · exact h
    · have ho : ops[k]? = some (ops[k]'hk) := Array.getElem?_eq_getElem _
      have : k ∈ Region.ready .any ops listed := mem_ready.2 ⟨not_lst (by rw [hc.size]; exact hk) h, _, ho, fun e he hb => by
        have := (pl.edge k _ ho e he hb).1
        exact ih e.on this (by omega)⟩
      rw [hr] at this
      cases this

/-- What is asked of a drawing region. -/
structure Drawn [Syms] (P : Program) (N : Nat) (ops : Array Oper) (n : Nat) (M : Nat → Nat → Bool) (s : St) (v : Nat → AVal) (nw : Nat → List (Nat × Blk)) (s' : St) (Mv : Nat → Bool) : Prop where
  plan : Plan ops n M Mv
  dst : ∀ i o, ops[i]? = some o → i < n → dstOk N o.dst = true
  news : ∀ k, k < n → ∀ id b, (id, b) ∈ nw k → ownN s.nx k id
  calm : ∀ i o, ops[i]? = some o → i < n → CalmSem P N ops o ((envAt s.env (dstAt ops) v i).only (o.looksAt ops)) (visH s.heap nw (M i) i) (s.nx + i * RR) (v i) (nw i)
  tail : Chain P N ops (ops.toList.drop n) (calmEnd ops n s v nw) s'

theorem draw_any [Syms] {s' : St} {Mv : Nat → Bool} {Q : Exit → Act → World → Prop} (hd : Drawn P N ops n M s v nw s' Mv) (hS : RelH ι0 s.heap w0 ∧ Bound ι0 s.nx w0)
    (hQ : ∀ κ a' w', RelS N κ s' a' w' → StepN ι0 s.heap s.nx w0 κ s'.heap s'.nx w' → Q .normal a' w') : ∀ (fuel : Nat) (listed : Array Bool) (a : Act) (w : World) (ι : Inj), Cl ops listed → (∀ k, Mv k = true → Lst listed k) → left listed ≤ fuel →
    (((∀ k, Lst listed k → k < n) ∧ DInv N ops n M s v nw ι0 w0 (Lst listed) ι a w) ∨
      ∃ j sj, n ≤ j ∧ (∀ k, k < ops.size → (Lst listed k ↔ k < j)) ∧ Chain P N ops (ops.toList.drop j) sj s' ∧ RelS N ι sj a w ∧ StepN ι0 s.heap s.nx w0 ι sj.heap sj.nx w) →
    wpAny P .any ops Q fuel listed a w := by
  have pl := hd.plan
  -- all listed: the end
  have fin : ∀ (listed : Array Bool) (a : Act) (w : World) (ι : Inj), (∀ k, k < ops.size → Lst listed k) →
      (((∀ k, Lst listed k → k < n) ∧ DInv N ops n M s v nw ι0 w0 (Lst listed) ι a w) ∨
      ∃ j sj, n ≤ j ∧ (∀ k, k < ops.size → (Lst listed k ↔ k < j)) ∧ Chain P N ops (ops.toList.drop j) sj s' ∧ RelS N ι sj a w ∧ StepN ι0 s.heap s.nx w0 ι sj.heap sj.nx w) → Q .normal a w := by
    intro listed a w ι hall hst
    rcases hst with ⟨h1, h2⟩ | ⟨j, sj, h1, h2, h3, h4, h5⟩
    · have hn : ops.size ≤ n := by
        rcases Nat.lt_or_ge n ops.size with h | h
        · exact absurd (h1 n (hall n h)) (Nat.lt_irrefl _)
        · exact h
      obtain ⟨g1, g2⟩ := dinv_done pl hS h2 (fun k hk => hall k (Nat.lt_of_lt_of_le hk pl.le))
      have ht := hd.tail
      rw [List.drop_of_length_le (by simpa using hn)] at ht
      have ht : calmEnd ops n s v nw = s' := ht
      rw [ht] at g1 g2
      exact hQ ι a w g1 g2
    · have hj : ops.size ≤ j := by
        rcases Nat.lt_or_ge j ops.size with h | h
        · exact absurd ((h2 j h).1 (hall j h)) (Nat.lt_irrefl _)
        · exact h
      rw [List.drop_of_length_le (by simpa using hj)] at h3
      have h3 : sj = s' := h3
      subst h3
      exact hQ ι a w h4 h5
  intro fuel
  induction fuel with
  | zero =>
    intro listed a w ι hc hmv hf hst
    have hall : ∀ k, k < ops.size → Lst listed k := fun k hk => left_zero (by omega) k (by rw [hc.size]; exact hk)
    refine ⟨?_, fin listed a w ι hall hst⟩
    cases hr : Region.ready .any ops listed with
    | nil => rfl
    | cons x xs =>
      have hx : x ∈ Region.ready .any ops listed := by rw [hr]; exact List.mem_cons_self ..
      obtain ⟨h1, o, ho, _⟩ := mem_ready.1 hx
      have hxs : x < ops.size := (Array.getElem?_eq_some_iff.1 ho).1
      have := hall x hxs
      unfold Lst at this
      have hxl : x < listed.size := by rw [hc.size]; exact hxs
      simp [hxl] at this h1
      rw [this] at h1
      cases h1
  | succ fuel ih =>
    intro listed a w ι hc hmv hf hst
    refine ⟨fun hr => fin listed a w ι (all_listed pl hc hr) hst, fun i hir => ?_⟩
    obtain ⟨hun, o, ho, hedges⟩ := mem_ready.1 hir
    have hisz : i < ops.size := (Array.getElem?_eq_some_iff.1 ho).1
    obtain ⟨hleft, hilt⟩ := left_set hun
    have hnl : ¬ Lst listed i := by
      unfold Lst
      simp [hilt] at hun ⊢
      exact hun
    have hpre : ∀ k, M i k = true → Lst listed k := by
      intro k hm
      rcases pl.by_ i k hm with hv | ⟨o', ho', e, he, hb, hor⟩
      · exact hmv k hv
      rw [ho] at ho'
      cases ho'
      have hl := hedges e he hb
      rcases hor with rfl | h
      · exact hl
      · exact cl_pre pl hc hmv e.on k hl h
    have hpost : ∀ k, M k i = true → ¬ Lst listed k := fun k hm hl => hnl (cl_pre pl hc hmv k i hl hm)
    have hc' : Cl ops (listed.setIfInBounds i true) := by
      refine ⟨by simp [hc.size], fun k p hp hl e he hb => ?_⟩
      rw [lst_set hilt] at hl ⊢
      rcases hl with hl | rfl
      · exact .inl (hc.closed k p hp hl e he hb)
      · rw [ho] at hp
        cases hp
        exact .inl (hedges e he hb)
    have hmv' : ∀ k, Mv k = true → Lst (listed.setIfInBounds i true) k := fun k hk => (lst_set hilt).2 (.inl (hmv k hk))
    have tailStep : ∀ (j : Nat) (sj : St), n ≤ j → (∀ k, k < ops.size → (Lst listed k ↔ k < j)) → Chain P N ops (ops.toList.drop j) sj s' → RelS N ι sj a w → StepN ι0 s.heap s.nx w0 ι sj.heap sj.nx w → n ≤ i →
        wpOp P ops Q i (wpAny P .any ops Q fuel (listed.setIfInBounds i true)) a w := by
      intro j sj hj hlist hch hRS hSt hni
      have hij : i = j := by
        have h1 : ¬ i < j := fun h => hnl ((hlist i hisz).2 h)
        have h2 : ¬ j < i := by
          intro h
          have := hpre j (pl.tail i j hni hisz h)
          exact absurd ((hlist j (by omega)).1 this) (Nat.lt_irrefl _)
        omega
      subst hij
      have hdrop : ops.toList.drop i = o :: ops.toList.drop (i + 1) := by
        have hv : ops.toList[i]'(by simpa using hisz) = o := by
          have := Array.getElem?_eq_some_iff.1 ho
          simpa using this.2
        rw [List.drop_eq_getElem_cons (by simpa using hisz), hv]
      rw [hdrop] at hch
      obtain ⟨s1, hop, hch'⟩ := hch
      unfold wpOp
      rw [ho]
      refine hop ι a w _ Q hRS (fun κ a' w' hRS' hSt' => ?_)
      refine ih _ a' w' κ hc' hmv' (by omega) (.inr ⟨i + 1, s1, by omega, fun k hk => ?_, hch', hRS', hSt.trans hSt'⟩)
      rw [lst_set hilt, hlist k hk]
      omega
    rcases hst with ⟨h1, h2⟩ | ⟨j, sj, h1, h2, h3, h4, h5⟩
    · by_cases hin : i < n
      · unfold wpOp
        rw [ho]
        refine dinv_step pl hS h2 ho hin hnl hpre hpost (hd.dst i o ho hin) hd.news (hd.calm i o ho hin) (fun κ a' w' hI => ?_)
        refine ih _ a' w' κ hc' hmv' (by omega) (.inl ⟨fun k hk => ?_, ?_⟩)
        · rw [lst_set hilt] at hk
          rcases hk with hk | rfl
          · exact h1 k hk
          · exact hin
        · have : (fun k => Lst listed k ∨ k = i) = Lst (listed.setIfInBounds i true) := funext fun k => propext (lst_set hilt).symm
          rw [← this]
          exact hI
      · have hall : ∀ k, k < n → Lst listed k := fun k hk => hpre k (pl.tail i k (by omega) hisz (by omega))
        obtain ⟨g1, g2⟩ := dinv_done pl hS h2 hall
        exact tailStep n _ (Nat.le_refl _) (fun k hk => ⟨h1 k, hall k⟩) hd.tail g1 g2 (by omega)
    · have hin : n ≤ i := by
        rcases Nat.lt_or_ge i n with h | h
        · exact absurd ((h2 i hisz).2 (by omega)) hnl
        · exact h
      exact tailStep j sj h1 h2 h3 h4 h5 hin

theorem left_many : ∀ (l : List Nat) (listed : Array Bool), l.Nodup → (∀ i ∈ l, listed.getD i true = false) → l.length ≤ left listed
  | [], _, _, _ => Nat.zero_le _
  | i :: l, listed, hnd, h => by
    obtain ⟨hleft, hilt⟩ := left_set (h i (List.mem_cons_self ..))
    have := left_many l (listed.setIfInBounds i true) (List.nodup_cons.1 hnd).2 (fun j hj => by
      rw [getD_set_ne true (fun e => by subst e; exact (List.nodup_cons.1 hnd).1 hj)]
      exact h j (List.mem_cons_of_mem _ hj))
    rw [List.length_cons]
    omega

/-- A move that waits for none, and that none disturbs. -/
def Movable (ops : Array Oper) (i : Nat) : Prop :=
  ∃ o x, ops[i]? = some o ∧ (o.op = .move x ∨ o.op = .assign x) ∧ o.guard = none ∧ (∀ e ∈ o.after, Region.binds .any e = false) ∧
    ∀ j oj, ops[j]? = some oj → j ≠ i → (∀ e ∈ oj.after, Region.binds .any e = true → e.on ≠ i) → o.apart ops oj = true

theorem peel_one [Syms] {Mv : Nat → Bool} (pl : Plan ops n M Mv) (hS : RelH ι0 s.heap w0 ∧ Bound ι0 s.nx w0) {D : Nat → Prop} {ι : Inj} {a : Act} {w : World} (hI : DInv N ops n M s v nw ι0 w0 D ι a w) {i : Nat} {o : Oper} (ho : ops[i]? = some o) (hi : i < n) (hiD : ¬ D i)
    (hpre : ∀ k, M i k = true → D k) (hpost : ∀ k, M k i = true → ¬ D k) (hdst : dstOk N o.dst = true)
    (hnw : ∀ k, k < n → ∀ id b, (id, b) ∈ nw k → ownN s.nx k id)
    (hc : CalmSem P N ops o ((envAt s.env (dstAt ops) v i).only (o.looksAt ops)) (visH s.heap nw (M i) i) (s.nx + i * RR) (v i) (nw i))
    (hw : Region.wanted o (yielded ops a.tmps) = true) {u : Value} (hu : (execOp a.eval o).run P w = .ok (.value u) w) :
    ∃ κ, DInv N ops n M s v nw ι0 w0 (fun k => D k ∨ k = i) κ (a.put o.dst u) w := by
  have := dinv_step pl hS hI ho hi hiD hpre hpost hdst hnw hc (K := fun a' w' => ∃ κ, DInv N ops n M s v nw ι0 w0 (fun k => D k ∨ k = i) κ a' w') (Q := fun _ _ _ => False) (fun κ a' w' h => ⟨κ, h⟩)
  rw [hw] at this
  simp only [if_true] at this
  rcases this with h | ⟨_, a', w', h⟩
  · unfold Oper.wp at h
    rw [hu] at h
    exact h
  · exact h.elim

theorem draw_peel [Syms] {s' : St} {Mv : Nat → Bool} {Q : Exit → Act → World → Prop} (hd : Drawn P N ops n M s v nw s' Mv) (hS : RelH ι0 s.heap w0 ∧ Bound ι0 s.nx w0) (hQ : ∀ c a w, ¬ Q (.panic c) a w) :
    ∀ (l : List Nat), l.Nodup → (∀ i ∈ l, Movable ops i ∧ i < n ∧ (∀ k, M i k = false)) → ∀ (fuel : Nat) (listed : Array Bool) (a : Act) (w : World) (ι : Inj), Cl ops listed → (∀ i ∈ l, ¬ Lst listed i) → (∀ i ∈ l, ∀ k, Lst listed k → M k i = false) →
      (∀ i ∈ l, ∀ j ∈ l, M i j = false) →
      DInv N ops n M s v nw ι0 w0 (Lst listed) ι a w →
      (∀ (listed' : Array Bool) (a' : Act) (κ : Inj), Cl ops listed' → left listed' + l.length = left listed → (∀ k, Lst listed' k ↔ Lst listed k ∨ k ∈ l) → DInv N ops n M s v nw ι0 w0 (Lst listed') κ a' w → wpAny P .any ops Q fuel listed' a' w) →
      wpAny P .any ops Q (fuel + l.length) listed a w
  | [], _, _, fuel, listed, a, w, ι, hc, _, _, _, hI, hK => hK listed a ι hc rfl (fun k => by simp) hI
  | i :: l, hnd, hl, fuel, listed, a, w, ι, hc, hnl, hlm, hmm, hI, hK => by
    obtain ⟨⟨o, x, ho, hop, hg, haf, hap⟩, hin, hM⟩ := hl i (List.mem_cons_self ..)
    have hisz : i < ops.size := (Array.getElem?_eq_some_iff.1 ho).1
    have hunl := not_lst (listed := listed) (k := i) (by rw [hc.size]; exact hisz) (hnl i (List.mem_cons_self ..))
    obtain ⟨hleft, hilt⟩ := left_set hunl
    have hw : Region.wanted o (yielded ops a.tmps) = true := by simp [Region.wanted, hg]
    have hu : ∀ w, (execOp a.eval o).run P w = .ok (.value (a.eval x)) w := by
      intro w
      unfold execOp
      rcases hop with hop | hop <;> simp [hop, Sem.run_bind, Sem.run_pure, Result.andThen_ok]
    have hready : i ∈ Region.ready .any ops listed := mem_ready.2 ⟨hunl, o, ho, fun e he hb => by rw [haf e he] at hb; cases hb⟩
    have hsel := hd.plan.sel
    obtain ⟨κ, hI'⟩ := peel_one hd.plan hS hI ho hin (hnl i (List.mem_cons_self ..)) (fun k hk => by rw [hM k] at hk; cases hk) (fun k hk hkl => by rw [hlm i (List.mem_cons_self ..) k hkl] at hk; cases hk) (hd.dst i o ho hin) hd.news (hd.calm i o ho hin) hw (hu w)
    have hfun : (fun k => Lst listed k ∨ k = i) = Lst (listed.setIfInBounds i true) := funext fun k => propext (lst_set hilt).symm
    rw [hfun] at hI'
    have hc' : Cl ops (listed.setIfInBounds i true) := by
      refine ⟨by simp [hc.size], fun k p hp hl e he hb => ?_⟩
      rw [lst_set hilt] at hl ⊢
      rcases hl with hl | rfl
      · exact .inl (hc.closed k p hp hl e he hb)
      · rw [ho] at hp
        cases hp
        rw [haf e he] at hb
        cases hb
    rw [List.length_cons, ← Nat.add_assoc]
    refine wpAny_first ho hsel (fun c a w h => (hQ _ _ _ h).elim) (fuel + l.length) listed a w (fun j oj hj hne _ hed => hap j oj hj hne hed) hready (.inl ⟨hw, hu⟩) ?_
    refine draw_peel hd hS hQ l (List.nodup_cons.1 hnd).2 (fun j hj => hl j (List.mem_cons_of_mem _ hj)) fuel _ _ w κ hc' (fun j hj h => ?_) (fun j hj k hk => ?_) (fun j hj k hk => hmm j (List.mem_cons_of_mem _ hj) k (List.mem_cons_of_mem _ hk)) hI' (fun listed' a' μ hcl hle hli hI'' => hK listed' a' μ hcl (by rw [List.length_cons]; omega) (fun k => by rw [hli k, lst_set hilt]; simp [or_assoc]) hI'')
    · rw [lst_set hilt] at h
      rcases h with h | rfl
      · exact hnl j (List.mem_cons_of_mem _ hj) h
      · exact (List.nodup_cons.1 hnd).1 hj
    · rw [lst_set hilt] at hk
      rcases hk with hk | rfl
      · exact hlm j (List.mem_cons_of_mem _ hj) k hk
      · exact hmm k (List.mem_cons_self ..) j (List.mem_cons_of_mem _ hj)

theorem drawn_region [Syms] {s' : St} {Mv : Nat → Bool} {Q : Exit → Act → World → Prop} {id : Nat} {a : Act} {w : World} {ι : Inj} (hm : P.follows .mixedOrders = true) (hd : Drawn P N ops n M s v nw s' Mv) {l : List Nat} (hlv : ∀ k, Mv k = true → k ∈ l) (hnd : l.Nodup) (hl : ∀ i ∈ l, Movable ops i ∧ i < n ∧ (∀ k, M i k = false)) (hS : RelS N ι s a w)
    (hQ : ∀ κ a' w', RelS N κ s' a' w' → StepN ι s.heap s.nx w κ s'.heap s'.nx w' → Q .normal a' w') : (Code.region id ops true).wp P Q a w := by
  refine Code.wp_mono (Q := fun e a w => e = .normal ∧ Q e a w) (fun _ _ _ h => h.2) ?_
  refine wp_region_any hm ?_
  have hH : RelH ι s.heap { w with drawn := w.drawn + 1 } := ⟨fun n b hb => let ⟨L, h1, h2⟩ := hS.heap.blk n b hb; ⟨L, h1, h2.keep (Inj.le_refl ι) rfl⟩, hS.heap.inj, hS.heap.fz⟩
  have hst : StepN ι s.heap s.nx w ι s.heap s.nx { w with drawn := w.drawn + 1 } := ⟨Step.drew ι s.heap w _, Nat.le_refl _, fun _ _ h => .inl h⟩
  have no : ∀ k, ¬ Lst (Array.replicate ops.size false) k := by
    intro k h
    unfold Lst at h
    rcases Nat.lt_or_ge k ops.size with h' | h'
    · simp [h'] at h
    · simp [h'] at h
  have hlen : l.length ≤ ops.size := by
    have hlt : ∀ i ∈ l, i < ops.size := fun i hi => let ⟨⟨o, _, ho, _⟩, _⟩ := hl i hi; (Array.getElem?_eq_some_iff.1 ho).1
    have := left_many l (Array.replicate ops.size false) hnd (fun i hi => by simp [hlt i hi])
    simpa [left] using this
  have key := draw_peel (Q := fun e a w => e = .normal ∧ Q e a w) (w0 := { w with drawn := w.drawn + 1 }) hd ⟨hH, hS.bound⟩ (fun c a w h => by cases h.1) l hnd hl (ops.size - l.length) (Array.replicate ops.size false) a { w with drawn := w.drawn + 1 } ι ⟨by simp, fun k o ho h => absurd h (no k)⟩ (fun i _ => no i) (fun i _ k hk => absurd hk (no k))
    (fun i hi j _ => (hl i hi).2.2 j)
    ⟨hS.defers, hS.size, Inj.le_refl ι, fun m L hm => ⟨(hS.bound m L hm).2, .inl hm⟩, rfl, rfl, rfl, Nat.le_refl _, fun _ _ => rfl, fun t _ => hS.env t, fun k t _ h => absurd h (no k), fun k id b _ h => absurd h (no k), fun k k' id id' b b' L L' _ _ h => absurd h (no k), fun g cs hg => ⟨.inl hg, (hS.heap.fz g cs hg).1, fun k id b L _ h => absurd h (no k)⟩⟩
    (fun listed' a' κ hcl hle hli hI => ?_)
  · rw [show ops.size - l.length + l.length = ops.size by omega] at key
    exact key
  · refine draw_any (w0 := { w with drawn := w.drawn + 1 }) hd ⟨hH, hS.bound⟩ (fun κ a' w' h1 h2 => ⟨rfl, hQ κ a' w' h1 (hst.trans h2)⟩) _ _ a' _ κ hcl (fun k hk => (hli k).2 (.inr (hlv k hk))) ?_ (.inl ⟨fun k h => ?_, hI⟩)
    · have : left (Array.replicate ops.size false) = ops.size := by simp [left]
      omega
    · rcases (hli k).1 h with h | h
      · exact absurd h (no k)
      · exact (hl k h).2.1

end
end Go.Av
