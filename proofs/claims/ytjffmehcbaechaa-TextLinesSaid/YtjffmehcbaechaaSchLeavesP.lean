/-
  Leaves: how far each field is repeated and defined. Plain.
-/
import Derived.Test.YtjffmehcbaechaaSchPathsP
set_option linter.unusedVariables false
set_option linter.unusedSimpArgs false
namespace Go.Proofs.Ytjffmehcbaechaa
open Go Go.Av

def lf0 : Lf := ⟨0, 0, 0, 0⟩
def baseL (L : List Lf) (p : Int) : Lf := if 0 ≤ p then L.getD p.toNat default else lf0
def mkL (fs : List Fd) (ps : List Int) (L : List Lf) (i : Nat) : Lf :=
  let f := fs.getD i default
  let b := baseL L (ps.getD i 0)
  ⟨i, if f.rep = 2 then b.r + 1 else b.r, if f.rep ≠ 0 then b.d + 1 else b.d, f.kind⟩
def lvRun (fs : List Fd) (ps : List Int) : Nat → List Lf
  | 0 => []
  | i + 1 => lvRun fs ps i ++ [mkL fs ps (lvRun fs ps i) i]
def isLeaf (l : Lf) : Bool := decide (l.kind ≠ 0)
def lvOut (fs : List Fd) (ps : List Int) (i : Nat) : List Lf := (lvRun fs ps i).filter isLeaf
def leavesF (fs : List Fd) : List Lf := lvOut fs (parentsF fs) fs.length

theorem lvRun_length (fs : List Fd) (ps : List Int) : ∀ i, (lvRun fs ps i).length = i
  | 0 => rfl
  | i + 1 => by simp [lvRun, lvRun_length fs ps i]
theorem lvRun_at (fs : List Fd) (ps : List Int) {j : Nat} : ∀ {i : Nat}, j < i → (lvRun fs ps i).getD j default = mkL fs ps (lvRun fs ps j) j
  | 0, h => by omega
  | i + 1, h => by
    by_cases hj : j < i
    · rw [lvRun, getD_app_lt (by rw [lvRun_length]; exact hj)]; exact lvRun_at fs ps hj
    · obtain rfl : j = i := by omega
      have := getD_app_eq (l := lvRun fs ps j) (x := mkL fs ps (lvRun fs ps j) j) (d := default)
      rw [lvRun_length] at this
      exact this
theorem lvRun_same (fs : List Fd) (ps : List Int) {j i k : Nat} (h1 : j < i) (h2 : j < k) : (lvRun fs ps i).getD j default = (lvRun fs ps k).getD j default := by rw [lvRun_at fs ps h1, lvRun_at fs ps h2]
theorem lvOut_succ (fs : List Fd) (ps : List Int) (i : Nat) : lvOut fs ps (i + 1) = if (fs.getD i default).kind ≠ 0 then lvOut fs ps i ++ [mkL fs ps (lvRun fs ps i) i] else lvOut fs ps i := by
  unfold lvOut
  rw [lvRun, List.filter_append]
  by_cases h : (fs.getD i default).kind ≠ 0
  · have hl : isLeaf (mkL fs ps (lvRun fs ps i) i) = true := decide_eq_true h
    rw [if_pos h, List.filter_cons, if_pos hl]; rfl
  · have hl : isLeaf (mkL fs ps (lvRun fs ps i) i) = false := decide_eq_false h
    rw [if_neg h, List.filter_cons, if_neg (by rw [hl]; decide)]; simp
theorem lvOut_len_le (fs : List Fd) (ps : List Int) (i : Nat) : (lvOut fs ps i).length ≤ i := by
  have := List.length_filter_le isLeaf (lvRun fs ps i)
  rw [lvRun_length] at this
  exact this
/-- The parents lie ahead. -/
def Ahead (ps : List Int) (n : Nat) : Prop := ∀ j, j < n → -1 ≤ ps.getD j 0 ∧ ps.getD j 0 < j
theorem parents_ahead (fs : List Fd) : Ahead (parentsF fs) fs.length := fun j h => parents_lt fs j h
theorem lv_bound {fs : List Fd} {ps : List Int} {n : Nat} (ha : Ahead ps n) : ∀ i, i ≤ n → ∀ j, j < i → 0 ≤ ((lvRun fs ps i).getD j default).r ∧ ((lvRun fs ps i).getD j default).r ≤ ((lvRun fs ps i).getD j default).d ∧ ((lvRun fs ps i).getD j default).d ≤ j + 1
  | 0, _, j, h => by omega
  | i + 1, hi, j, h => by
    by_cases hj : j < i
    · rw [lvRun_same fs ps h hj]; exact lv_bound ha i (by omega) j hj
    · obtain rfl : j = i := by omega
      rw [lvRun_at fs ps h]
      have hp := ha j (by omega)
      have hb : 0 ≤ (baseL (lvRun fs ps j) (ps.getD j 0)).r ∧ (baseL (lvRun fs ps j) (ps.getD j 0)).r ≤ (baseL (lvRun fs ps j) (ps.getD j 0)).d ∧ (baseL (lvRun fs ps j) (ps.getD j 0)).d ≤ j := by
        unfold baseL
        split
        · have := lv_bound (fs := fs) ha j (by omega) (ps.getD j 0).toNat (by omega)
          omega
        · simp [lf0]
      simp only [mkL]
      split <;> split <;> omega
theorem lf_default : (default : Lf) = lf0 := rfl

/-! ### Climbing -/
/-- How far a place is repeated, from there up. -/
def upR (fs : List Fd) (ps : List Int) (n : Nat) (k : Int) : Int := if 0 ≤ k then ((lvRun fs ps n).getD k.toNat default).r else 0
def upD (fs : List Fd) (ps : List Int) (n : Nat) (k : Int) : Int := if 0 ≤ k then ((lvRun fs ps n).getD k.toNat default).d else 0
theorem upR_step {fs : List Fd} {ps : List Int} {n k : Nat} (ha : Ahead ps n) (hk : k < n) : upR fs ps n k = upR fs ps n (ps.getD k 0) + (if (fs.getD k default).rep = 2 then 1 else 0) := by
  have hp := ha k hk
  unfold upR
  rw [if_pos (by omega), Int.toNat_natCast, lvRun_at fs ps hk]
  simp only [mkL, baseL]
  by_cases h : 0 ≤ ps.getD k 0
  · rw [if_pos h, if_pos h, lvRun_same fs ps (i := k) (k := n) (by omega) (by omega)]
    split <;> omega
  · rw [if_neg h, if_neg h]
    simp only [lf0]; split <;> rfl
theorem upD_step {fs : List Fd} {ps : List Int} {n k : Nat} (ha : Ahead ps n) (hk : k < n) : upD fs ps n k = upD fs ps n (ps.getD k 0) + (if (fs.getD k default).rep ≠ 0 then 1 else 0) := by
  have hp := ha k hk
  unfold upD
  rw [if_pos (by omega), Int.toNat_natCast, lvRun_at fs ps hk]
  simp only [mkL, baseL]
  by_cases h : 0 ≤ ps.getD k 0
  · rw [if_pos h, if_pos h, lvRun_same fs ps (i := k) (k := n) (by omega) (by omega)]
    split <;> omega
  · rw [if_neg h, if_neg h]
    simp only [lf0]; split <;> rfl
/-- The leaf behind the leaves ahead. -/
theorem lvOut_at {fs : List Fd} {ps : List Int} {i : Nat} : ∀ {n : Nat}, i < n → (fs.getD i default).kind ≠ 0 → (lvOut fs ps n).getD (lvOut fs ps i).length default = mkL fs ps (lvRun fs ps i) i ∧ (lvOut fs ps i).length < (lvOut fs ps n).length
  | 0, h, _ => by omega
  | n + 1, h, hk => by
    by_cases hi : i < n
    · obtain ⟨h1, h2⟩ := lvOut_at (ps := ps) hi hk
      rw [lvOut_succ]
      split
      · refine ⟨?_, by simp; omega⟩
        rw [getD_app_lt h2]; exact h1
      · exact ⟨h1, h2⟩
    · obtain rfl : i = n := by omega
      rw [lvOut_succ, if_pos hk]
      exact ⟨getD_app_eq, by simp⟩

/-! ### A shape of raw numbers has a leaf: its last field -/
structure LastI (fs : List Fd) (op : List Int) : Prop where
  pos : 0 < fs.length
  last : (fs.getD (fs.length - 1) default).kind = 0 → topM op = ((fs.length - 1 : Nat) : Int) ∧ (fs.getD (fs.length - 1) default).kids = 0
theorem lastI_step {fs : List Fd} {op : List Int} (h : LastI fs op) (i : Nat) (x : Int) : LastI (stepM fs op i x).1 (stepM fs op i x).2 := by
  have hp := h.pos
  refine ⟨by simp [stepM], fun hk => ?_⟩
  simp only [stepM] at hk ⊢
  have hl : ∀ a y, (incK fs a ++ [y]).length - 1 = (incK fs a).length := fun a y => by simp
  rw [hl] at hk ⊢
  rw [getD_app_eq] at hk
  rw [getD_app_eq, if_pos hk]
  exact ⟨by simp [topM, incK_length], rfl⟩
theorem lastI_run {ns : List Int} : ∀ (n i : Nat) (fs : List Fd) (op : List Int), LastI fs op → LastI (runM ns n i fs op).1 (runM ns n i fs op).2
  | 0, i, fs, op, h => h
  | n + 1, i, fs, op, h => by
    rw [runM]
    split
    · exact lastI_run n (i + 1) _ _ (lastI_step h _ _)
    · exact h
theorem make_last (ns : List Int) : ((makeF ns).getD ((makeF ns).length - 1) default).kind ≠ 0 := by
  have h : LastI (runM ns 12 0 fs0 [0]).1 (runM ns 12 0 fs0 [0]).2 := lastI_run 12 0 _ _ ⟨by decide, fun _ => ⟨rfl, rfl⟩⟩
  simp only [makeF]
  generalize (runM ns 12 0 fs0 [0]).1 = fs at *
  generalize (runM ns 12 0 fs0 [0]).2 = op at *
  unfold endM
  split
  · rw [show (incK fs (topM op).toNat ++ [(⟨[122], 0, 4, 0⟩ : Fd)]).length - 1 = (incK fs (topM op).toNat).length by simp, getD_app_eq]
    decide
  · rename_i h0
    intro hk
    obtain ⟨h1, h2⟩ := h.last hk
    rw [h1, Int.toNat_natCast] at h0
    exact h0 h2
theorem make_leaves (ns : List Int) : 0 < (leavesF (makeF ns)).length := by
  have hn := (make_nam ns).pos
  have := (lvOut_at (ps := parentsF (makeF ns)) (n := (makeF ns).length) (by omega) (make_last ns)).2
  unfold leavesF
  omega
end Go.Proofs.Ytjffmehcbaechaa
