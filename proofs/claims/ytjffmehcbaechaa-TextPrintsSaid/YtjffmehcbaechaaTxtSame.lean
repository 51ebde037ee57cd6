/-
  The document's 'Same': a shape is the same as itself.
-/
import Derived.Test.YtjffmehcbaechaaSchFacts
import Derived.Test.YtjffmehcbaechaaSchParents
set_option linter.unusedVariables false
set_option linter.unusedSimpArgs false
namespace Go.Proofs.Ytjffmehcbaechaa
open Go Go.Av
set_option maxRecDepth 100000
set_option maxHeartbeats 4000000
theorem eqb_self [Syms] (s : List UInt8) : eqb s s = true := by rw [eqb_eq]; exact decide_eq_true rfl
theorem rsame_t [Syms] (l : List Fd) (hl : l.length < 100000) :
    fnT noneT noneT (fnTab fns) (tyTab tys) (plTab plt) 100 18 [vF l, vF l] [] 0 (fun v H _ => v = .bool true ∧ H = []) := by
  repeat' (first | (refine And.intro ?_ ?_) | (intro h; (try first | replace h := of_decide_eq_true h | replace h := of_decide_eq_false h); (try simp only [sg] at h); (try simp only [sx, ↓reduceIte, Nat.reduceAdd, reduceCtorEq, Int.reduceLT, Int.reduceLE, Int.reduceSub, Nat.reduceEqDiff, Nat.reduceLT] at h); try exact nz h))
  all_goals (try exact cz)
  refine ⟨fun n s => ∃ k : Nat, (k ≤ l.length ∧ n = l.length - k) ∧ s = ⟨[(0, vF l), (1, vF l), (5, .int .i64 k)], [], 0⟩, ⟨_, ⟨[(0, vF l), (1, vF l), (5, .int .i64 (0 : Nat))], [], 0⟩, reb_flat [0, 1, 5] rfl, 0, ⟨by omega, rfl⟩, rfl⟩, ?_⟩
  rintro n s ⟨k, ⟨hk, rfl⟩, rfl⟩
  by_cases hin : k < l.length
  · repeat' (first | (refine And.intro ?_ ?_) | (intro h; (try first | replace h := of_decide_eq_true h | replace h := of_decide_eq_false h); (try simp only [sg] at h); (try simp only [sx, ↓reduceIte, Nat.reduceAdd, reduceCtorEq, Int.reduceLT, Int.reduceLE, Int.reduceSub, Nat.reduceEqDiff, Nat.reduceLT] at h); try exact nz h))
    all_goals (try exact cz)
    · exact absurd h (by simp [eqb_self])
    · exact ⟨_, ⟨[(0, vF l), (1, vF l), (5, .int .i64 (k + 1 : Nat))], [], 0⟩, reb_flat [0, 1, 5] rfl, ⟨k + 1, ⟨by omega, rfl⟩, rfl⟩, by omega⟩
  · repeat' (first | (refine And.intro ?_ ?_) | (intro h; (try first | replace h := of_decide_eq_true h | replace h := of_decide_eq_false h); (try simp only [sg] at h); (try simp only [sx, ↓reduceIte, Nat.reduceAdd, reduceCtorEq, Int.reduceLT, Int.reduceLE, Int.reduceSub, Nat.reduceEqDiff, Nat.reduceLT] at h); try exact nz h))
    all_goals (try exact cz)
    exact ⟨_, reb_flat [4] rfl, _, rfl, rfl, rfl⟩
def S_rsame : SpecI := fun args K => ∃ l : List Fd, args = [vF l, vF l] ∧ l.length < 100000 ∧ K (.bool true)
theorem rsame_ok [Syms] : ImmOk Try.prog 18 S_rsame := by
  rintro args K ⟨l, rfl, h, hk⟩
  exact ⟨rfl, _, rfl, hk, fnI tys_ok fns_ok noneT_det noneT_ok mixed (rsame_t l h)⟩
end Go.Proofs.Ytjffmehcbaechaa
