/-
  The program's 'Check' and the document's answer the same. Plain.
-/
import Derived.Test.YtjffmehcbaechaaSchRCheckP
set_option linter.unusedVariables false
set_option linter.unusedSimpArgs false
namespace Go.Proofs.Ytjffmehcbaechaa
open Go Go.Av
/-- How many fields the open groups lack together. -/
def sumP : Stk → Int
  | [] => 0
  | (_, k) :: t => (if 0 < k then k else 0) + sumP t
theorem sumP_pos : ∀ st : Stk, 0 ≤ sumP st
  | [] => Int.le_refl _
  | (a, k) :: t => by have := sumP_pos t; rw [sumP]; split <;> omega
theorem sumP_pop : ∀ st : Stk, sumP (popZ st) = sumP st
  | [] => rfl
  | (a, k) :: t => by
    rw [popZ]
    split
    · rw [sumP_pop t, sumP, if_neg (by omega)]; omega
    · rfl
theorem popZ_head {st : Stk} {a k : Int} {t : Stk} (h : popZ st = (a, k) :: t) : 0 < k := by
  induction st with
  | nil => cases h
  | cons q s ih =>
    obtain ⟨b, j⟩ := q
    rw [popZ] at h
    split at h
    · exact ih h
    · cases h; omega
theorem openS_sum : ∀ st : Stk, openS st = true ↔ 0 < sumP st
  | [] => by simp [openS, sumP]
  | (a, k) :: t => by
    have ih := openS_sum t
    have := sumP_pos t
    simp only [openS, List.any_cons, Bool.or_eq_true, decide_eq_true_eq] at ih ⊢
    rw [ih, sumP]
    split <;> omega
def sumK (l : List Fd) : Int := (l.map Fd.kids).sum
/-- Each field is right for itself, and in a group. -/
def goodW : List Fd → Nat → Stk → Prop
  | [], _, _ => True
  | f :: l, i, st => 0 ≤ parOf (popZ st) ∧ (f.kind = 0 → 1 ≤ f.kids) ∧ (f.kind ≠ 0 → f.kids = 0) ∧ goodW l (i + 1) (pushS i f (decS (popZ st)))
theorem goodW_sum : ∀ (l : List Fd) (i : Nat) (st : Stk), goodW l i st → sumP (wfin l i st) = sumP st + sumK l - l.length
  | [], _, st, _ => by simp [wfin, sumK]
  | f :: l, i, st, ⟨h1, h2, h3, h4⟩ => by
    rw [wfin, goodW_sum l _ _ h4]
    have hs := sumP_pop st
    cases hp : popZ st with
    | nil => rw [hp] at h1; exact absurd h1 (by decide)
    | cons q t =>
      obtain ⟨a, k⟩ := q
      have hk := popZ_head hp
      rw [hp] at hs
      have hd : sumP (decS ((a, k) :: t)) = sumP st - 1 := by
        rw [← hs, decS, sumP, sumP, if_pos hk]
        split <;> omega
      have hpu : sumP (pushS i f (decS ((a, k) :: t))) = sumP st - 1 + f.kids := by
        unfold pushS
        split
        · rename_i hf
          have := h2 hf
          rw [sumP, if_pos (by omega), hd]; omega
        · rename_i hf
          rw [hd, h3 hf]; omega
      rw [hpu]
      simp only [sumK, List.map_cons, List.sum_cons, List.length_cons]
      omega
theorem wrun_tail {fs : List Fd} {i : Nat} {st : Stk} (h : i < fs.length) (hw : wrun (fs.drop i) i st = (wrun fs 0 []).drop i) : (parentsF fs).getD i 0 = parOf (popZ st) ∧ wrun (fs.drop (i + 1)) (i + 1) (pushS i (fs.getD i default) (decS (popZ st))) = (wrun fs 0 []).drop (i + 1) := by
  have hl : i < (wrun fs 0 []).length := by rw [wrun_length]; exact h
  have e1 : fs.drop i = fs.getD i default :: fs.drop (i + 1) := by rw [List.drop_eq_getElem_cons h]; simp [h]
  rw [e1, wrun, List.drop_eq_getElem_cons hl] at hw
  injection hw with h1 h2
  refine ⟨?_, h2⟩
  rw [parentsF, List.getD_eq_getElem?_getD, List.getElem?_map, List.getElem?_eq_getElem hl, ← h1]; rfl
theorem chkFrom_zero {fs : List Fd} : ∀ (n i : Nat), chkFrom fs i n = 0 → ∀ j, i ≤ j → j < i + n → chkD fs j = 0
  | 0, i, _, j, h1, h2 => by omega
  | n + 1, i, h, j, h1, h2 => by
    rw [chkFrom] at h
    split at h
    · rename_i hne; exact absurd h hne
    · rename_i hne
      by_cases hj : j = i
      · subst hj; exact Decidable.not_not.1 hne
      · exact chkFrom_zero n (i + 1) h j (by omega) (by omega)
theorem chkFrom_D (fs : List Fd) (i n : Nat) : chkFrom fs i (n + 1) = if chkD fs i ≠ 0 then chkD fs i else chkFrom fs (i + 1) n := rfl
theorem chkD_info {fs : List Fd} {i : Nat} (h : chkD fs i = 0) : (0 < i → 0 ≤ (parentsF fs).getD i 0) ∧ (i = 0 → (fs.getD i default).rep = 0 ∧ (fs.getD i default).kind = 0) ∧ ((fs.getD i default).kind = 0 → 1 ≤ (fs.getD i default).kids) ∧ ((fs.getD i default).kind ≠ 0 → (fs.getD i default).kids = 0) := by
  obtain ⟨z1, _, _, _, _, _, _, _, z2, z3, z4⟩ := chk1_zero h
  exact ⟨z1, z2, z3, z4⟩
theorem good_of {fs : List Fd} (h : ∀ j, j < fs.length → chkD fs j = 0) : ∀ (m i : Nat) (st : Stk), 0 < i → i + m = fs.length → wrun (fs.drop i) i st = (wrun fs 0 []).drop i → goodW (fs.drop i) i st
  | 0, i, st, _, hm, _ => by rw [List.drop_of_length_le (by omega)]; exact trivial
  | m + 1, i, st, hi, hm, hw => by
    obtain ⟨h1, h2⟩ := wrun_tail (by omega) hw
    obtain ⟨z1, _, z2, z3⟩ := chkD_info (h i (by omega))
    have e1 : fs.drop i = fs.getD i default :: fs.drop (i + 1) := by rw [List.drop_eq_getElem_cons (by omega)]; simp [show i < fs.length by omega]
    rw [e1]
    refine ⟨?_, z2, z3, good_of h m (i + 1) _ (by omega) (by omega) h2⟩
    rw [← h1]; exact z1 hi
theorem open_sum {fs : List Fd} (hn : 0 < fs.length) (h : ∀ j, j < fs.length → chkD fs j = 0) : sumP (wfin fs 0 []) = sumK fs - (fs.length - 1) := by
  cases fs with
  | nil => simp at hn
  | cons f l =>
    obtain ⟨_, z1, z2, z3⟩ := chkD_info (h 0 hn)
    have hk : f.kind = 0 := (z1 rfl).2
    have hki : 1 ≤ f.kids := z2 hk
    have hg := good_of h l.length 1 [((0 : Nat), f.kids)] (by omega) (by simp; omega) (by
      show wrun l 1 _ = wrun l (0 + 1) (pushS 0 f (decS (popZ [])))
      rw [pushS, if_pos hk]; rfl)
    have := goodW_sum l 1 _ hg
    have hw : wfin (f :: l) 0 [] = wfin l 1 [((0 : Nat), f.kids)] := by
      show wfin l (0 + 1) (pushS 0 f (decS (popZ []))) = _
      rw [pushS, if_pos hk]; rfl
    rw [hw, this, sumP, if_pos (by omega)]
    simp only [sumK, sumP, List.map_cons, List.sum_cons, List.length_cons]
    omega
theorem lacksF_eq (fs : List Fd) : ∀ n i, lacksF fs i n = if chkFrom fs i n ≠ 0 then chkFrom fs i n else 1
  | 0, _ => by simp [lacksF, chkFrom]
  | n + 1, i => by
    rw [lacksF, chkFrom_D, lacksF_eq fs n]
    by_cases h : chkD fs i = 0
    · simp [h]
    · simp [h]
def bigK (l : List Fd) : Bool := l.any fun f => decide (40 < f.kids)
theorem rFrom_eq (fs : List Fd) : ∀ n i k, i + n = fs.length → rFrom fs i n k = if chkFrom fs i n ≠ 0 then chkFrom fs i n else if bigK (fs.drop i) = true ∨ k + sumK (fs.drop i) ≠ fs.length - 1 then 1 else 0
  | 0, i, k, h => by
    rw [List.drop_of_length_le (by omega)]
    simp [bigK, sumK, rFrom, chkFrom]
  | n + 1, i, k, h => by
    have e1 : fs.drop i = fs.getD i default :: fs.drop (i + 1) := by rw [List.drop_eq_getElem_cons (by omega)]; simp [show i < fs.length by omega]
    rw [rFrom, chkFrom_D, rFrom_eq fs n (i + 1) _ (by omega), lacksF_eq, e1]
    have hs : sumK (fs.getD i default :: fs.drop (i + 1)) = (fs.getD i default).kids + sumK (fs.drop (i + 1)) := rfl
    have hb : bigK (fs.getD i default :: fs.drop (i + 1)) = (decide (40 < (fs.getD i default).kids) || bigK (fs.drop (i + 1))) := rfl
    rw [hs, hb]
    by_cases h0 : chkD fs i = 0
    · by_cases h1 : chkFrom fs (i + 1) n = 0
      · by_cases h2 : 40 < (fs.getD i default).kids
        · simp only [h0, h1, ne_eq, not_true_eq_false, if_false, h2, decide_true, Bool.true_or, true_or, if_true]
        · simp only [h0, h1, ne_eq, not_true_eq_false, if_false, h2, decide_false, Bool.false_or, Int.add_assoc]
      · simp only [h0, h1, ne_eq, not_true_eq_false, not_false_eq_true, if_false, if_true]
        split <;> rfl
    · simp only [h0, ne_eq, not_false_eq_true, if_true]
theorem sumK_ge {fs : List Fd} (h : ∀ f ∈ fs, 0 ≤ f.kids) : 0 ≤ sumK fs ∧ ∀ f ∈ fs, f.kids ≤ sumK fs := by
  induction fs with
  | nil => exact ⟨Int.le_refl _, fun f hf => nomatch hf⟩
  | cons g l ih =>
    obtain ⟨h1, h2⟩ := ih fun f hf => h f (List.mem_cons_of_mem _ hf)
    have hg := h g (List.mem_cons_self ..)
    have e : sumK (g :: l) = g.kids + sumK l := rfl
    refine ⟨by omega, fun f hf => ?_⟩
    rcases List.mem_cons.1 hf with rfl | hf
    · omega
    · have := h2 f hf; omega
theorem rcheck_eq (fs : List Fd) : rcheckF fs = checkF fs := by
  unfold rcheckF checkF
  by_cases hn : fs.length < 1 ∨ 40 < fs.length
  · rw [if_pos hn, if_pos hn]
  rw [if_neg hn, if_neg hn, rFrom_eq fs _ 0 0 (by omega), List.drop_zero]
  by_cases h0 : chkFrom fs 0 fs.length = 0
  · have hz : ∀ j, j < fs.length → chkD fs j = 0 := fun j hj => chkFrom_zero _ 0 h0 j (by omega) (by omega)
    have hs := open_sum (by omega) hz
    have hp := sumP_pos (wfin fs 0 [])
    have hkk : ∀ f ∈ fs, 0 ≤ f.kids := fun f hf => by
      obtain ⟨j, hj, rfl⟩ := List.getElem_of_mem hf
      have := chkD_zero (hz j hj)
      rwa [List.getD_eq_getElem?_getD, List.getElem?_eq_getElem hj] at this
    obtain ⟨hk0, hk1⟩ := sumK_ge hkk
    have ho := openS_sum (wfin fs 0 [])
    simp only [h0, ne_eq, not_true_eq_false, if_false]
    by_cases hop : openS (wfin fs 0 []) = true
    · rw [if_pos hop, if_pos]
      right
      have := ho.1 hop
      omega
    · rw [if_neg hop, if_neg]
      have hsp : sumP (wfin fs 0 []) = 0 := by
        have : ¬ 0 < sumP (wfin fs 0 []) := fun h => hop (ho.2 h)
        omega
      rintro (hbig | hne)
      · obtain ⟨f, hm, h40⟩ := List.any_eq_true.1 hbig
        have := hk1 f hm
        have := of_decide_eq_true h40
        omega
      · omega
  · simp only [h0, ne_eq, not_false_eq_true, if_true]
end Go.Proofs.Ytjffmehcbaechaa
