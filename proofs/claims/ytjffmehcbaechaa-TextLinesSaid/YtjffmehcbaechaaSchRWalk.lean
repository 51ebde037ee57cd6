/-
  The document's 'walk': what is asked of it, and what it answers.
-/
import Derived.Test.YtjffmehcbaechaaSchRefWalk
set_option linter.unusedVariables false
set_option linter.unusedSimpArgs false
namespace Go.Proofs.Ytjffmehcbaechaa
open Go Go.Av
set_option maxRecDepth 100000
set_option maxHeartbeats 4000000
def S_rwalk : SpecI := fun args K => ∃ fs, args = [vF fs] ∧ FsOk fs ∧ K (.tup [vI (parentsF fs), vI (depthsF fs)])
theorem rwalk_ok [Syms] : ImmOk Try.prog 51 S_rwalk := by
  rintro args K ⟨fs, rfl, h, hk⟩
  exact ⟨rfl, _, rfl, hk, fnI tys_ok fns_ok noneT_det noneT_ok mixed (rwalk_t fs h.len h.kids)⟩
end Go.Proofs.Ytjffmehcbaechaa
