/-
  The statement SchemaPaths: its walk.
-/
import Derived.Test.YtgaacnljcnibdaaSchKnown
import Derived.Test.YtgaacnljcnibdaaSchPathsP
set_option linter.unusedVariables false
set_option linter.unusedSimpArgs false
namespace Go.Proofs.Ytgaacnljcnibdaa
open Go Go.Av
set_option maxRecDepth 100000
set_option maxHeartbeats 4000000
def S_make : SpecI := fun args K => ∃ ns, args = [vI ns] ∧ (ns.length ≤ 9223372036854775807 ∧ K (vF (makeF ns)))
theorem make_ok' [Syms] : ImmOk Try.prog 17 S_make := by
  rintro args K ⟨ns, rfl, h, hk⟩
  exact ⟨rfl, _, rfl, hk, fnI tys_ok fns_ok cWi_det cWi_ok mixed (make_t ns h)⟩
abbrev cPaths : CallT := pickT 14 (immT S_known) (pickT 17 (immT S_make) (pickT 18 (immT S_path) noneT))
theorem cPaths_ok [Syms] : cPaths.ok Try.prog := pickT_imm_ok known_ok (pickT_imm_ok make_ok' (pickT_imm_ok path_ok noneT_ok))
theorem eqb_false [Syms] {s t : List UInt8} (h : s ≠ t) : eqb s t = false := by rw [eqb_eq]; exact decide_eq_false h
theorem paths_t [Syms] (ns : List Int) (hn : ns.length ≤ 9223372036854775807) :
    fnT noneT cPaths (fnTab fns) (tyTab tys) (plTab plt) 100 4 [vI ns] [] 0 (fun v H _ => v = .bool true ∧ H = []) := by
  repeat' (first | (refine And.intro ?_ ?_) | (intro h; try simp only [decide_eq_true_eq, decide_eq_false_iff_not, Int.not_lt, Int.not_le, Int.toNat_natCast, ↓reduceIte, Nat.reduceAdd, reduceCtorEq, Int.reduceLT, Int.lt_irrefl, gt_iff_lt, not_true_eq_false, not_false_eq_true, Bool.not_true, Bool.not_false, decide_false, decide_true, Int.reduceLE, Int.reduceSub, Bool.false_eq_true, Bool.true_eq_false, Nat.reduceEqDiff, Nat.one_ne_zero, Nat.reduceLT, and_self, and_true, true_and, Int.natCast_zero, Int.cast_ofNat_Int, List.length_nil] at h))
  all_goals (try first | exact PlanIs.mk (by kernel_rfl) | omega | exact rfl | exact Nat.le_of_ble_eq_true rfl | (show (_ : Nat) ≤ (_ : Nat); simp; done) | (show (_ : Nat) ≤ (_ : Nat); simp; omega))
  refine ⟨_, rfl, hn, ?_⟩
  have hF := make_ok ns
  have hN := make_nam ns
  have hl := hN.le
  have hp0 := hN.pos
  generalize makeF ns = fs at *
  refine ⟨fun n s => ∃ i : Nat, (1 ≤ i ∧ i ≤ fs.length ∧ n = fs.length - i) ∧ s = ⟨[(0, vI ns), (3, vF fs), (4, .int .i64 i)], [], 0⟩, ⟨_, ⟨[(0, vI ns), (3, vF fs), (4, .int .i64 1)], [], 0⟩, reb_cut [0, 3, 4], 1, ⟨by omega, by omega, rfl⟩, rfl⟩, ?_⟩
  rintro n s ⟨i, ⟨h1, h2, rfl⟩, rfl⟩
  repeat' (first | (refine And.intro ?_ ?_) | (intro h; try simp only [decide_eq_true_eq, decide_eq_false_iff_not, Int.not_lt, Int.not_le, Int.toNat_natCast, ↓reduceIte, Nat.reduceAdd, reduceCtorEq, Int.reduceLT, Int.lt_irrefl, gt_iff_lt, not_true_eq_false, not_false_eq_true, Bool.not_true, Bool.not_false, decide_false, decide_true, Int.reduceLE, Int.reduceSub, Bool.false_eq_true, Bool.true_eq_false, Nat.reduceEqDiff, Nat.one_ne_zero, Nat.reduceLT, and_self, and_true, true_and, Int.natCast_zero, Int.cast_ofNat_Int, List.length_nil] at h))
  all_goals (try first | exact PlanIs.mk (by kernel_rfl) | omega | exact rfl | exact Nat.le_of_ble_eq_true rfl | (show (_ : Nat) ≤ (_ : Nat); simp; done) | (show (_ : Nat) ≤ (_ : Nat); simp; omega))
  · refine ⟨fun n s => ∃ k : Nat, (k ≤ i ∧ n = i - k) ∧ s = ⟨[(0, vI ns), (3, vF fs), (4, .int .i64 i), (5, .int .i64 k)], [], 0⟩, ⟨_, ⟨[(0, vI ns), (3, vF fs), (4, .int .i64 i), (5, .int .i64 0)], [], 0⟩, reb_cut [0, 3, 4, 5], 0, ⟨by omega, rfl⟩, rfl⟩, ?_⟩
    rintro n s ⟨k, ⟨h3, rfl⟩, rfl⟩
    repeat' (first | (refine And.intro ?_ ?_) | (intro h; try simp only [decide_eq_true_eq, decide_eq_false_iff_not, Int.not_lt, Int.not_le, Int.toNat_natCast, ↓reduceIte, Nat.reduceAdd, reduceCtorEq, Int.reduceLT, Int.lt_irrefl, gt_iff_lt, not_true_eq_false, not_false_eq_true, Bool.not_true, Bool.not_false, decide_false, decide_true, Int.reduceLE, Int.reduceSub, Bool.false_eq_true, Bool.true_eq_false, Nat.reduceEqDiff, Nat.one_ne_zero, Nat.reduceLT, and_self, and_true, true_and, Int.natCast_zero, Int.cast_ofNat_Int, List.length_nil] at h))
    all_goals (try first | exact PlanIs.mk (by kernel_rfl) | omega | exact rfl | exact Nat.le_of_ble_eq_true rfl | (show (_ : Nat) ≤ (_ : Nat); simp; done) | (show (_ : Nat) ≤ (_ : Nat); simp; omega))
    · refine ⟨fs, _, rfl, hF, ?_⟩
      repeat' (first | (refine And.intro ?_ ?_) | (intro h; try simp only [decide_eq_true_eq, decide_eq_false_iff_not, Int.not_lt, Int.not_le, Int.toNat_natCast, ↓reduceIte, Nat.reduceAdd, reduceCtorEq, Int.reduceLT, Int.lt_irrefl, gt_iff_lt, not_true_eq_false, not_false_eq_true, Bool.not_true, Bool.not_false, decide_false, decide_true, Int.reduceLE, Int.reduceSub, Bool.false_eq_true, Bool.true_eq_false, Nat.reduceEqDiff, Nat.one_ne_zero, Nat.reduceLT, and_self, and_true, true_and, Int.natCast_zero, Int.cast_ofNat_Int, List.length_nil] at h))
      all_goals (try first | exact PlanIs.mk (by kernel_rfl) | omega | exact rfl | exact Nat.le_of_ble_eq_true rfl | (show (_ : Nat) ≤ (_ : Nat); simp; done) | (show (_ : Nat) ≤ (_ : Nat); simp; omega))
      refine ⟨fs, _, rfl, hF, ?_⟩
      repeat' (first | (refine And.intro ?_ ?_) | (intro h; try simp only [decide_eq_true_eq, decide_eq_false_iff_not, Int.not_lt, Int.not_le, Int.toNat_natCast, ↓reduceIte, Nat.reduceAdd, reduceCtorEq, Int.reduceLT, Int.lt_irrefl, gt_iff_lt, not_true_eq_false, not_false_eq_true, Bool.not_true, Bool.not_false, decide_false, decide_true, Int.reduceLE, Int.reduceSub, Bool.false_eq_true, Bool.true_eq_false, Nat.reduceEqDiff, Nat.one_ne_zero, Nat.reduceLT, and_self, and_true, true_and, Int.natCast_zero, Int.cast_ofNat_Int, List.length_nil] at h))
      all_goals (try first | exact PlanIs.mk (by kernel_rfl) | omega | exact rfl | exact Nat.le_of_ble_eq_true rfl | (show (_ : Nat) ≤ (_ : Nat); simp; done) | (show (_ : Nat) ≤ (_ : Nat); simp; omega))
      · have h := paths_apart (ps := parentsF fs) hN h1 (by omega) (k := k) (by omega)
        have h' := eqb_false h
        simp_all
      · exact ⟨_, ⟨[(0, vI ns), (3, vF fs), (4, .int .i64 i), (5, .int .i64 (k + 1 : Nat))], [], 0⟩, reb_cut [0, 3, 4, 5], ⟨k + 1, ⟨by omega, rfl⟩, rfl⟩, by omega⟩
    · exact ⟨_, ⟨[(0, vI ns), (3, vF fs), (4, .int .i64 (i + 1 : Nat))], [], 0⟩, reb_cut [0, 3, 4], ⟨i + 1, ⟨by omega, by omega, rfl⟩, rfl⟩, by omega⟩
  · refine ⟨fs, _, rfl, hF, ?_⟩
    rw [path_none (.inl (by omega))]
    repeat' (first | (refine And.intro ?_ ?_) | (intro h; try simp only [decide_eq_true_eq, decide_eq_false_iff_not, Int.not_lt, Int.not_le, Int.toNat_natCast, ↓reduceIte, Nat.reduceAdd, reduceCtorEq, Int.reduceLT, Int.lt_irrefl, gt_iff_lt, not_true_eq_false, not_false_eq_true, Bool.not_true, Bool.not_false, decide_false, decide_true, Int.reduceLE, Int.reduceSub, Bool.false_eq_true, Bool.true_eq_false, Nat.reduceEqDiff, Nat.one_ne_zero, Nat.reduceLT, and_self, and_true, true_and, Int.natCast_zero, Int.cast_ofNat_Int, List.length_nil] at h))
    all_goals (try first | exact PlanIs.mk (by kernel_rfl) | omega | exact rfl | exact Nat.le_of_ble_eq_true rfl | (show (_ : Nat) ≤ (_ : Nat); simp; done) | (show (_ : Nat) ≤ (_ : Nat); simp; omega))
    all_goals (try (exact absurd (by assumption) (show ¬ eqb [] [] = false by decide)))
    refine ⟨fs, _, rfl, hF, ?_⟩
    rw [path_none (.inr (by simp))]
    repeat' (first | (refine And.intro ?_ ?_) | (intro h; try simp only [decide_eq_true_eq, decide_eq_false_iff_not, Int.not_lt, Int.not_le, Int.toNat_natCast, ↓reduceIte, Nat.reduceAdd, reduceCtorEq, Int.reduceLT, Int.lt_irrefl, gt_iff_lt, not_true_eq_false, not_false_eq_true, Bool.not_true, Bool.not_false, decide_false, decide_true, Int.reduceLE, Int.reduceSub, Bool.false_eq_true, Bool.true_eq_false, Nat.reduceEqDiff, Nat.one_ne_zero, Nat.reduceLT, and_self, and_true, true_and, Int.natCast_zero, Int.cast_ofNat_Int, List.length_nil] at h))
    all_goals (try first | exact PlanIs.mk (by kernel_rfl) | omega | exact rfl | exact Nat.le_of_ble_eq_true rfl | (show (_ : Nat) ≤ (_ : Nat); simp; done) | (show (_ : Nat) ≤ (_ : Nat); simp; omega))
    all_goals (try (exact absurd (by assumption) (show ¬ eqb [] [] = false by decide)))
    refine ⟨fs, _, rfl, hF, ?_⟩
    rw [path_none (.inl (by omega))]
    exact ⟨_, reb_flat [2] rfl, _, rfl, rfl, rfl⟩
theorem paths_sem [Syms] (ns : List Int) (hn : ns.length ≤ 9223372036854775807) : FnSem Try.prog 4 [vI ns] [] 0 (fun v H _ => v = .bool true ∧ H = []) :=
  fnT_sound tys_ok fns_ok noneT_det cPaths_ok mixed (paths_t ns hn)
end Go.Proofs.Ytgaacnljcnibdaa
