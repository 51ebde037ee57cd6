/-
  'twin': has a field ahead in the same group that name?
-/
import Derived.Test.YtjffmehcbaechaaSchBase
set_option linter.unusedVariables false
set_option linter.unusedSimpArgs false
namespace Go.Proofs.Ytjffmehcbaechaa
open Go Go.Av
def twinAt (fs : List Fd) (ps : List Int) (i k : Nat) : Bool := decide (ps.getD k 0 = ps.getD i 0) && eqb (fs.getD k default).name (fs.getD i default).name
def twinF (fs : List Fd) (ps : List Int) (i : Nat) : Bool := (List.range i).any (twinAt fs ps i)
set_option maxRecDepth 100000
set_option maxHeartbeats 2000000
theorem twin_t [Syms] (fs : List Fd) (ps : List Int) (i : Nat) (hi : i < fs.length) (hp : ps.length = fs.length) (hl : fs.length < 1000) :
    fnT noneT noneT (fnTab fns) (tyTab tys) (plTab plt) 100 60 [vF fs, vI ps, .int .i64 i] [] 0 (fun v H _ => v = .bool (twinF fs ps i) ∧ H = []) := by
  refine ⟨fun n s => ∃ k : Nat, (k ≤ i ∧ n = i - k ∧ ∀ j, j < k → twinAt fs ps i j = false) ∧ s = ⟨[(0, vF fs), (1, vI ps), (2, .int .i64 i), (6, .bool false), (8, .int .i64 i), (9, .int .i64 k)], [], 0⟩,
    ⟨_, _, .refl _ _ _, 0, ⟨by omega, rfl, fun j h => by omega⟩, rfl⟩, ?_⟩
  rintro n s ⟨k, ⟨hk, rfl, hj⟩, rfl⟩
  have next : ∀ {j : Nat}, twinAt fs ps i k = false → j < k + 1 → twinAt fs ps i j = false := fun {j} h hlt => by
    rcases Nat.lt_or_ge j k with h' | h'
    · exact hj j h'
    · obtain rfl : j = k := by omega
      exact h
  repeat' (first | (refine And.intro ?_ ?_) | (intro h; try simp only [decide_eq_true_eq, decide_eq_false_iff_not, Int.not_lt, Int.toNat_natCast, ↓reduceIte, Nat.reduceAdd, reduceCtorEq] at h))
  any_goals first | exact PlanIs.mk (by kernel_rfl) | omega | exact rfl
  · refine ⟨_, .refl _ _ _, _, rfl, ?_, rfl⟩
    have h1 : twinAt fs ps i k = true := by rw [twinAt, Bool.and_eq_true]; exact ⟨decide_eq_true ‹_›, ‹_›⟩
    exact congrArg AVal.bool (List.any_eq_true.2 ⟨k, List.mem_range.2 (by omega), h1⟩).symm
  · exact ⟨_, _, reb_flat [0, 1, 2, 6, 8, 9] rfl, ⟨k + 1, ⟨by omega, rfl, fun j => next (by rw [twinAt, Bool.and_eq_false_iff]; exact .inr ‹_›)⟩, rfl⟩, by omega⟩
  · exact ⟨_, _, reb_flat [0, 1, 2, 6, 8, 9] rfl, ⟨k + 1, ⟨by omega, rfl, fun j => next (by rw [twinAt, Bool.and_eq_false_iff]; exact .inl (decide_eq_false ‹_›))⟩, rfl⟩, by omega⟩
  · refine ⟨_, .refl _ _ _, _, rfl, ?_, rfl⟩
    refine congrArg AVal.bool (a₂ := twinF fs ps i) (Bool.eq_false_iff.2 fun h => ?_).symm
    obtain ⟨j, h1, h2⟩ := List.any_eq_true.1 h
    rw [hj j (by have := List.mem_range.1 h1; omega)] at h2
    cases h2
end Go.Proofs.Ytjffmehcbaechaa
