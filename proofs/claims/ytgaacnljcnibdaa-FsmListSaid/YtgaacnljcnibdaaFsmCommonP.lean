/-
  How far two leaves are repeated together. Plain.
-/
import Derived.Test.YtgaacnljcnibdaaFsmWayP
set_option linter.unusedVariables false
set_option linter.unusedSimpArgs false
namespace Go.Proofs.Ytgaacnljcnibdaa
open Go Go.Av
def repB (fs : List Fd) (k : Int) : Int := if (fs.getD k.toNat default).rep = 2 then 1 else 0
def preF (fs : List Fd) : List Int → List Int → Int
  | a :: xs, b :: ys => if a = b then repB fs a + preF fs xs ys else 0
  | _, _ => 0
def leafAt (fs : List Fd) (i : Int) : Int := ((leavesF fs).getD i.toNat default).field
def commonF (fs : List Fd) (i j : Int) : Int :=
  if i < 0 ∨ (leavesF fs).length ≤ i ∨ j < 0 ∨ (leavesF fs).length ≤ j then 0 else preF fs (wayF (parentsF fs) (leafAt fs i)) (wayF (parentsF fs) (leafAt fs j))
theorem preF_nil_left (fs : List Fd) (b : List Int) : preF fs [] b = 0 := by cases b <;> rfl
theorem preF_nil_right (fs : List Fd) (a : List Int) : preF fs a [] = 0 := by cases a <;> rfl
theorem repB_range (fs : List Fd) (k : Int) : 0 ≤ repB fs k ∧ repB fs k ≤ 1 := by unfold repB; split <;> omega
theorem preF_comm (fs : List Fd) : ∀ a b : List Int, preF fs a b = preF fs b a
  | [], b => by rw [preF_nil_left, preF_nil_right]
  | _ :: _, [] => rfl
  | a :: xs, b :: ys => by
    rw [preF, preF]
    by_cases h : a = b
    · subst h; rw [preF_comm fs xs ys]
    · rw [if_neg h, if_neg (fun e => h e.symm)]
theorem preF_pos (fs : List Fd) : ∀ a b : List Int, 0 ≤ preF fs a b
  | [], b => by rw [preF_nil_left]; exact Int.le_refl 0
  | _ :: _, [] => Int.le_refl 0
  | a :: xs, b :: ys => by
    rw [preF]
    have := preF_pos fs xs ys
    have := repB_range fs a
    split <;> omega
theorem preF_le (fs : List Fd) : ∀ a b : List Int, preF fs a b ≤ preF fs a a
  | [], b => by rw [preF_nil_left, preF_nil_left]; exact Int.le_refl 0
  | a :: xs, [] => by
    rw [preF_nil_right]; exact preF_pos fs _ _
  | a :: xs, b :: ys => by
    have h1 := preF_le fs xs ys
    have h2 := preF_pos fs xs xs
    have h3 := repB_range fs a
    rw [preF, preF, if_pos rfl]
    split <;> omega
def sumR (fs : List Fd) (l : List Int) : Int := (l.map (repB fs)).sum
theorem preF_self (fs : List Fd) : ∀ a : List Int, preF fs a a = sumR fs a
  | [] => rfl
  | a :: xs => by rw [preF, if_pos rfl, preF_self fs xs]; simp [sumR]
theorem sumR_reverse (fs : List Fd) (a : List Int) : sumR fs a.reverse = sumR fs a := by
  unfold sumR
  induction a with
  | nil => rfl
  | cons x t ih => simp at ih ⊢; omega
theorem sumR_up {fs : List Fd} {ps : List Int} {n : Nat} (ha : Ahead ps n) : ∀ (f : Nat) (k : Int), k < n → k < f → sumR fs (upL ps f k) = upR fs ps n k
  | 0, k, _, h => by rw [upL, upR, if_neg (by omega)]; rfl
  | f + 1, k, hn, h => by
    rw [upL]
    by_cases h0 : 0 ≤ k
    · obtain ⟨k, rfl⟩ := Int.eq_ofNat_of_zero_le h0
      have hq := ha k (by omega)
      rw [if_pos h0, Int.toNat_natCast, show sumR fs ((k : Int) :: upL ps f (ps.getD k 0)) = repB fs k + sumR fs (upL ps f (ps.getD k 0)) by simp [sumR], sumR_up ha f _ (by omega) (by omega), upR_step ha (by omega)]
      simp only [repB, Int.toNat_natCast]
      omega
    · rw [if_neg h0, upR, if_neg h0]; rfl
theorem upL_mem {ps : List Int} {n : Nat} (ha : Ahead ps n) : ∀ (f : Nat) (k : Int), k < n → ∀ x ∈ upL ps f k, 0 ≤ x ∧ x < n
  | 0, _, _, x, hx => by cases hx
  | f + 1, k, hk, x, hx => by
    rw [upL] at hx
    split at hx
    · rcases List.mem_cons.1 hx with rfl | hx
      · exact ⟨by assumption, hk⟩
      · have := ha k.toNat (by omega)
        exact upL_mem ha f _ (by omega) x hx
    · cases hx
theorem wayF_mem {ps : List Int} {n : Nat} (ha : Ahead ps n) {k : Int} (hk : k < n) : ∀ x ∈ wayF ps k, 0 ≤ x ∧ x < n := fun x hx => upL_mem ha _ k hk x (List.mem_reverse.1 hx)
theorem wayF_len (ps : List Int) (k : Int) : (wayF ps k).length ≤ ps.length + 1 := by rw [wayF, List.length_reverse]; exact upL_len ps _ k
/-- A leaf's place lies among the fields. -/
theorem lvOut_field {fs : List Fd} {ps : List Int} : ∀ (n : Nat) (l : Lf), l ∈ lvOut fs ps n → 0 ≤ l.field ∧ l.field < n ∧ l = mkL fs ps (lvRun fs ps l.field.toNat) l.field.toNat
  | 0, l, h => by cases h
  | n + 1, l, h => by
    rw [lvOut_succ] at h
    split at h
    · rcases List.mem_append.1 h with h | h
      · have := lvOut_field n l h; exact ⟨this.1, by omega, this.2.2⟩
      · simp only [List.mem_singleton] at h
        subst h
        exact ⟨by simp [mkL], by simp only [mkL]; omega, by simp [mkL]⟩
    · have := lvOut_field n l h; exact ⟨this.1, by omega, this.2.2⟩
theorem leafAt_range {fs : List Fd} {i : Int} (h0 : 0 ≤ i) (h1 : i < (leavesF fs).length) : 0 ≤ leafAt fs i ∧ leafAt fs i < fs.length := by
  have hlt : i.toNat < (leavesF fs).length := by omega
  have hm : (leavesF fs).getD i.toNat default ∈ leavesF fs := by rw [List.getD_eq_getElem?_getD, List.getElem?_eq_getElem hlt]; exact List.getElem_mem hlt
  have := lvOut_field _ _ hm
  exact ⟨this.1, this.2.1⟩
theorem common_self {fs : List Fd} {i : Int} (h0 : 0 ≤ i) (h1 : i < (leavesF fs).length) : commonF fs i i = ((leavesF fs).getD i.toNat default).r := by
  have hr := leafAt_range h0 h1
  have ha := parents_ahead fs
  have hpl := parents_length fs
  rw [commonF, if_neg (by omega), preF_self, wayF, sumR_reverse, sumR_up (n := fs.length) ha _ _ (by omega) (by omega)]
  have hlt : i.toNat < (leavesF fs).length := by omega
  have hm : (leavesF fs).getD i.toNat default ∈ leavesF fs := by rw [List.getD_eq_getElem?_getD, List.getElem?_eq_getElem hlt]; exact List.getElem_mem hlt
  have h3 := (lvOut_field _ _ hm).2.2
  unfold leafAt at *
  generalize (leavesF fs).getD i.toNat default = L at *
  rw [upR, if_pos hr.1, lvRun_at fs (parentsF fs) (by omega), ← h3]
theorem common_comm (fs : List Fd) (i j : Int) : commonF fs i j = commonF fs j i := by
  unfold commonF
  by_cases h : i < 0 ∨ (leavesF fs).length ≤ i ∨ j < 0 ∨ (leavesF fs).length ≤ j
  · rw [if_pos h, if_pos (by omega)]
  · rw [if_neg h, if_neg (by omega), preF_comm]
theorem common_le {fs : List Fd} {i j : Int} (h0 : 0 ≤ i) (h1 : i < (leavesF fs).length) : 0 ≤ commonF fs i j ∧ commonF fs i j ≤ commonF fs i i := by
  unfold commonF
  by_cases h : i < 0 ∨ (leavesF fs).length ≤ i ∨ j < 0 ∨ (leavesF fs).length ≤ j
  · rw [if_pos h, if_neg (by omega)]
    exact ⟨Int.le_refl 0, preF_pos fs _ _⟩
  · rw [if_neg h, if_neg (by omega)]
    exact ⟨preF_pos fs _ _, preF_le fs _ _⟩
end Go.Proofs.Ytgaacnljcnibdaa
