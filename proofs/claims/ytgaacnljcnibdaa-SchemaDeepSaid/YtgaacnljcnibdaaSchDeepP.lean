/-
  A way of groups, one in the other, and a leaf. Plain.
-/
import Derived.Test.YtgaacnljcnibdaaSchLeavesP
import Derived.Test.YtgaacnljcnibdaaSchCheckP
set_option linter.unusedVariables false
set_option linter.unusedSimpArgs false
namespace Go.Proofs.Ytgaacnljcnibdaa
open Go Go.Av
def deepP (rs : List Int) : List Fd := ⟨[109], 0, 0, 1⟩ :: rs.map fun r => ⟨[103], r, 0, 1⟩
def deepF (rs : List Int) (z : Int) : List Fd := deepP rs ++ [⟨[122], z, 3, 0⟩]
theorem deepP_length (rs : List Int) : (deepP rs).length = rs.length + 1 := by simp [deepP]
theorem deepF_length (rs : List Int) (z : Int) : (deepF rs z).length = rs.length + 2 := by simp [deepF, deepP]
theorem deepP_snoc (rs : List Int) (r : Int) : deepP (rs ++ [r]) = deepP rs ++ [⟨[103], r, 0, 1⟩] := by simp [deepP]
/-- A field as if it were required. -/
def er (f : Fd) : Fd := { f with rep := 0 }
theorem er_wrun : ∀ (fs : List Fd) (i : Nat) (st : Stk), wrun (fs.map er) i st = wrun fs i st
  | [], _, _ => rfl
  | f :: fs, i, st => by
    show (_, _) :: wrun (fs.map er) (i + 1) (pushS i (er f) (decS (popZ st))) = (_, _) :: _
    rw [er_wrun fs]; rfl
theorem er_wfin : ∀ (fs : List Fd) (i : Nat) (st : Stk), wfin (fs.map er) i st = wfin fs i st
  | [], _, _ => rfl
  | f :: fs, i, st => by
    show wfin (fs.map er) (i + 1) (pushS i (er f) (decS (popZ st))) = wfin fs (i + 1) _
    rw [er_wfin fs]; rfl
theorem er_parents (fs : List Fd) : parentsF (fs.map er) = parentsF fs := by rw [parentsF, parentsF, er_wrun]
theorem er_depths (fs : List Fd) : depthsF (fs.map er) = depthsF fs := by rw [depthsF, depthsF, er_wrun]
theorem er_at {fs : List Fd} {i : Nat} (h : i < fs.length) : (fs.map er).getD i default = er (fs.getD i default) := by simp [List.getD_eq_getElem?_getD, h]
theorem er_twin {fs : List Fd} {ps : List Int} {i : Nat} (h : i < fs.length) : twinF (fs.map er) ps i = twinF fs ps i := by
  have h1 : ∀ k, k < i → twinAt (fs.map er) ps i k = twinAt fs ps i k := fun k hk => by
    rw [twinAt, twinAt, er_at h, er_at (by omega)]; rfl
  unfold twinF
  rw [Bool.eq_iff_iff, List.any_eq_true, List.any_eq_true]
  constructor
  · rintro ⟨k, hk, h2⟩; exact ⟨k, hk, by rw [← h1 k (List.mem_range.1 hk)]; exact h2⟩
  · rintro ⟨k, hk, h2⟩; exact ⟨k, hk, by rw [h1 k (List.mem_range.1 hk)]; exact h2⟩
theorem er_chk {fs : List Fd} {i : Nat} (h : i < fs.length) (hr : 0 ≤ (fs.getD i default).rep ∧ (fs.getD i default).rep ≤ 2) (h0 : (fs.getD 0 default).rep = 0) (ps : List Int) (dep : Int) : chkAt (fs.map er) ps i dep = chkAt fs ps i dep := by
  unfold chkAt
  rw [er_at h, er_twin h]
  show chk1 (er (fs.getD i default)) i (ps.getD i 0) dep (nameF (fs.getD i default).name) (twinF fs ps i) = _
  generalize nameF (fs.getD i default).name = a
  generalize twinF fs ps i = b
  have h0i : i = 0 → (fs.getD i default).rep = 0 := fun e => by rw [e]; exact h0
  generalize fs.getD i default = f at *
  unfold chk1 er
  simp only
  by_cases hi : i = 0
  · have := h0i hi
    simp only [this, hi, Int.lt_irrefl]
  · have e1 : (f.rep < 0 ∨ 2 < f.rep ∨ f.kind < 0 ∨ 4 < f.kind) ↔ ((0 : Int) < 0 ∨ 2 < (0 : Int) ∨ f.kind < 0 ∨ 4 < f.kind) := by omega
    simp only [e1, hi, false_and]
theorem er_from {fs : List Fd} (hr : ∀ i, i < fs.length → 0 ≤ (fs.getD i default).rep ∧ (fs.getD i default).rep ≤ 2) (h0 : (fs.getD 0 default).rep = 0) : ∀ n i, i + n = fs.length → chkFrom (fs.map er) i n = chkFrom fs i n
  | 0, _, _ => rfl
  | n + 1, i, h => by
    rw [chkFrom, chkFrom, er_parents, er_depths, er_chk (by omega) (hr i (by omega)) h0, er_from hr h0 n (i + 1) (by omega)]
theorem er_check {fs : List Fd} (hr : ∀ i, i < fs.length → 0 ≤ (fs.getD i default).rep ∧ (fs.getD i default).rep ≤ 2) (h0 : (fs.getD 0 default).rep = 0) : checkF (fs.map er) = checkF fs := by
  unfold checkF
  rw [List.length_map, er_from hr h0 _ 0 (by omega), er_wfin]
theorem er_deep (rs : List Int) (z : Int) : (deepF rs z).map er = deepF (List.replicate rs.length 0) 0 := by
  simp only [deepF, deepP, List.map_append, List.map_cons, List.map_nil, List.map_map, List.map_replicate]
  congr 2
  rw [List.eq_replicate_iff]
  simp [er]
theorem deep_check0 : ∀ n, n < 12 → checkF (deepF (List.replicate n 0) 0) = if 8 < n + 1 then 11 else 0 := by decide +kernel
theorem deep_par0 : ∀ n, n < 12 → ∀ i, i < n + 2 → (parentsF (deepF (List.replicate n 0) 0)).getD i 0 = (i : Int) - 1 := by decide +kernel
theorem deep_mem {rs : List Int} {z : Int} {i : Nat} (h : i < (deepF rs z).length) : (i = 0 ∧ (deepF rs z).getD i default = ⟨[109], 0, 0, 1⟩) ∨ (∃ r ∈ rs, (deepF rs z).getD i default = ⟨[103], r, 0, 1⟩ ∧ i < rs.length + 1) ∨ (i = rs.length + 1 ∧ (deepF rs z).getD i default = ⟨[122], z, 3, 0⟩) := by
  rw [deepF_length] at h
  by_cases h0 : i = 0
  · subst h0; exact .inl ⟨rfl, rfl⟩
  · by_cases h1 : i < rs.length + 1
    · refine .inr (.inl ⟨rs.getD (i - 1) 0, ?_, ?_, h1⟩)
      · rw [List.getD_eq_getElem?_getD, List.getElem?_eq_getElem (by omega)]; exact List.getElem_mem _
      · obtain ⟨j, rfl⟩ : ∃ j, i = j + 1 := ⟨i - 1, by omega⟩
        rw [deepF, List.getD_eq_getElem?_getD, List.getElem?_append_left (by rw [deepP_length]; omega), deepP, List.getElem?_cons_succ, List.getElem?_map, List.getElem?_eq_getElem (by omega)]
        simp [List.getD_eq_getElem?_getD, show j < rs.length by omega]
    · obtain rfl : i = rs.length + 1 := by omega
      refine .inr (.inr ⟨rfl, ?_⟩)
      rw [deepF, List.getD_eq_getElem?_getD, List.getElem?_append_right (by rw [deepP_length]; omega), deepP_length, Nat.sub_self]; rfl
structure DeepOk (rs : List Int) (z : Int) : Prop where
  len : rs.length < 12
  rs : ∀ r ∈ rs, 0 ≤ r ∧ r ≤ 2
  z : 0 ≤ z ∧ z ≤ 2
theorem deep_rep {rs : List Int} {z : Int} (h : DeepOk rs z) (i : Nat) (hi : i < (deepF rs z).length) : 0 ≤ ((deepF rs z).getD i default).rep ∧ ((deepF rs z).getD i default).rep ≤ 2 := by
  rcases deep_mem hi with ⟨_, e⟩ | ⟨r, hr, e, _⟩ | ⟨_, e⟩
  · rw [e]; decide
  · rw [e]; exact h.rs r hr
  · rw [e]; exact h.z
theorem deep_check {rs : List Int} {z : Int} (h : DeepOk rs z) : checkF (deepF rs z) = if 8 < rs.length + 1 then 11 else 0 := by
  rw [← er_check (deep_rep h) rfl, er_deep, deep_check0 _ h.len]
theorem deep_par {rs : List Int} {z : Int} (h : DeepOk rs z) {i : Nat} (hi : i < rs.length + 2) : (parentsF (deepF rs z)).getD i 0 = (i : Int) - 1 := by
  rw [← er_parents, er_deep]; exact deep_par0 _ h.len i hi
theorem deep_ok {rs : List Int} {z : Int} (h : DeepOk rs z) : FsOk (deepF rs z) := by
  refine ⟨by rw [deepF_length]; have := h.len; omega, fun i => ?_, fun i => ?_⟩
  · by_cases hi : i < (deepF rs z).length
    · rcases deep_mem hi with ⟨_, e⟩ | ⟨r, hr, e, _⟩ | ⟨_, e⟩ <;> rw [e] <;> simp only <;> omega
    · rw [List.getD_eq_getElem?_getD, List.getElem?_eq_none (by omega)]; decide
  · by_cases hi : i < (deepF rs z).length
    · rcases deep_mem hi with ⟨_, e⟩ | ⟨r, hr, e, _⟩ | ⟨_, e⟩ <;> rw [e] <;> simp
    · rw [List.getD_eq_getElem?_getD, List.getElem?_eq_none (by omega)]; decide
/-- How many of the first fields are repeated. -/
def cntR (fs : List Fd) : Nat → Int
  | 0 => 0
  | n + 1 => cntR fs n + if (fs.getD n default).rep = 2 then 1 else 0
theorem cntR_range (fs : List Fd) : ∀ n : Nat, 0 ≤ cntR fs n ∧ cntR fs n ≤ n
  | 0 => by simp [cntR]
  | n + 1 => by have := cntR_range fs n; rw [cntR]; split <;> omega
theorem lvOut_none {fs : List Fd} {ps : List Int} : ∀ n, (∀ j, j < n → (fs.getD j default).kind = 0) → lvOut fs ps n = []
  | 0, _ => rfl
  | n + 1, h => by rw [lvOut_succ, if_neg (fun hk => hk (h n (by omega))), lvOut_none n fun j hj => h j (by omega)]
theorem deep_up {rs : List Int} {z : Int} (h : DeepOk rs z) : ∀ k : Nat, k < rs.length + 2 → upR (deepF rs z) (parentsF (deepF rs z)) (deepF rs z).length k = cntR (deepF rs z) (k + 1)
  | k, hk => by
    have ha := parents_ahead (deepF rs z)
    rw [upR_step ha (by rw [deepF_length]; exact hk), deep_par h hk, cntR]
    cases k with
    | zero => rw [upR, if_neg (by omega)]; rfl
    | succ k => rw [show ((k + 1 : Nat) : Int) - 1 = (k : Int) by omega, deep_up h k (by omega)]
theorem deep_leaves {rs : List Int} {z : Int} (h : DeepOk rs z) : ∃ L : Lf, leavesF (deepF rs z) = [L] ∧ L.field = (rs.length + 1 : Nat) ∧ L.r = cntR (deepF rs z) (rs.length + 2) := by
  have hl := deepF_length rs z
  have hk : ∀ j, j < rs.length + 1 → ((deepF rs z).getD j default).kind = 0 := fun j hj => by
    rcases deep_mem (rs := rs) (z := z) (i := j) (by omega) with ⟨_, e⟩ | ⟨r, hr, e, _⟩ | ⟨e0, e⟩
    · rw [e]
    · rw [e]
    · omega
  have hz : (deepF rs z).getD (rs.length + 1) default = ⟨[122], z, 3, 0⟩ := by
    rcases deep_mem (rs := rs) (z := z) (i := rs.length + 1) (by omega) with ⟨e0, e⟩ | ⟨r, hr, e, e0⟩ | ⟨e0, e⟩
    · omega
    · omega
    · exact e
  have hu := deep_up h (rs.length + 1) (by omega)
  rw [upR, if_pos (by omega), Int.toNat_natCast, lvRun_at _ _ (by omega)] at hu
  rw [leavesF, hl, lvOut_succ, if_pos (by rw [hz]; simp), lvOut_none _ hk, List.nil_append]
  generalize hm : mkL (deepF rs z) (parentsF (deepF rs z)) (lvRun (deepF rs z) (parentsF (deepF rs z)) (rs.length + 1)) (rs.length + 1) = L at *
  have h1 : L.field = (rs.length + 1 : Nat) := by rw [← hm]; rfl
  have h2 : L.r = cntR (deepF rs z) (rs.length + 2) := hu
  exact ⟨L, rfl, h1, h2⟩
end Go.Proofs.Ytgaacnljcnibdaa
