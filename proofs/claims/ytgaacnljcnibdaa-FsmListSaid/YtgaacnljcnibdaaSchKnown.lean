/-
  'known' of chapter 5: no fields are too many.
-/
import Derived.Test.YtgaacnljcnibdaaSchMake
set_option linter.unusedVariables false
set_option linter.unusedSimpArgs false
namespace Go.Proofs.Ytgaacnljcnibdaa
open Go Go.Av
set_option maxRecDepth 100000
set_option maxHeartbeats 4000000
def S_known : SpecI := fun args K => args = [] ∧ K (.bool true)
theorem known_t [Syms] : fnT noneT (pickT 16 (tB noneT noneT) noneT) (fnTab fns) (tyTab tys) (plTab plt) 100 14 [] [] 0 (fun v H _ => v = .bool true ∧ H = []) := by
  repeat' (first | (refine And.intro ?_ ?_) | (intro h; try simp only [decide_eq_true_eq, decide_eq_false_iff_not, Int.not_lt, Int.not_le, Int.toNat_natCast, ↓reduceIte, Nat.reduceAdd, reduceCtorEq, Int.reduceLT, Int.lt_irrefl, gt_iff_lt, not_true_eq_false, not_false_eq_true, Bool.not_true, Bool.not_false, decide_false, decide_true, Int.reduceLE, Int.reduceSub, Bool.false_eq_true, Bool.true_eq_false, Nat.reduceEqDiff, Nat.one_ne_zero, Nat.reduceLT, and_self, and_true, true_and, Int.natCast_zero, Int.cast_ofNat_Int, List.length_nil, ne_eq, Decidable.not_not] at h))
  all_goals (try first | exact PlanIs.mk (by kernel_rfl) | omega | (show (_ : Int) * ((32 : Nat) : Int) ≤ _; omega) | (show (_ : Int) * ((8 : Nat) : Int) ≤ _; omega) | (show (_ : Int) * ((24 : Nat) : Int) ≤ _; omega) | exact rfl | exact Nat.le_of_ble_eq_true rfl | (show (_ : Nat) ≤ (_ : Nat); simp; done) | (show (_ : Nat) ≤ (_ : Nat); simp; omega))
  refine ⟨_, .refl _ _ _, _, rfl, ?_⟩
  exact ⟨_, reb_flat [0] rfl, _, rfl, rfl, rfl⟩
theorem known_ok [Syms] : ImmOk Try.prog 14 S_known := by
  rintro args K ⟨rfl, hk⟩
  exact ⟨rfl, _, rfl, hk, fnI tys_ok fns_ok noneT_det (pickT_ok (bodyT_ok tys_ok fns_ok noneT_det noneT_ok mixed) noneT_ok) mixed known_t⟩
end Go.Proofs.Ytgaacnljcnibdaa
