/-
  What is asked of 'Make', and what it answers.
-/
import Derived.Test.YtjffmehcbaechaaSchMake
set_option linter.unusedVariables false
set_option linter.unusedSimpArgs false
namespace Go.Proofs.Ytjffmehcbaechaa
open Go Go.Av
def S_make : SpecI := fun args K => ∃ ns, args = [vI ns] ∧ (ns.length ≤ 9223372036854775807 ∧ K (vF (makeF ns)))
theorem make_ok' [Syms] : ImmOk Try.prog 14 S_make := by
  rintro args K ⟨ns, rfl, h, hk⟩
  exact ⟨rfl, _, rfl, hk, fnI tys_ok fns_ok cWi_det cWi_ok mixed (make_t ns h)⟩
end Go.Proofs.Ytjffmehcbaechaa
