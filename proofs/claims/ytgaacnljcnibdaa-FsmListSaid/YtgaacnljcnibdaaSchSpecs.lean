/-
  What is asked of the functions of shapes, and what they answer.
-/
import Derived.Test.YtgaacnljcnibdaaSchKnown
import Derived.Test.YtgaacnljcnibdaaSchLeaves
set_option linter.unusedVariables false
set_option linter.unusedSimpArgs false
namespace Go.Proofs.Ytgaacnljcnibdaa
open Go Go.Av
def S_make : SpecI := fun args K => ∃ ns, args = [vI ns] ∧ (ns.length ≤ 9223372036854775807 ∧ K (vF (makeF ns)))
theorem make_ok' [Syms] : ImmOk Try.prog 17 S_make := by
  rintro args K ⟨ns, rfl, h, hk⟩
  exact ⟨rfl, _, rfl, hk, fnI tys_ok fns_ok cWi_det cWi_ok mixed (make_t ns h)⟩
def S_leaves : SpecI := fun args K => ∃ fs, args = [vF fs] ∧ FsOk fs ∧ K (vL (leavesF fs))
theorem leaves_ok [Syms] : ImmOk Try.prog 20 S_leaves := by
  rintro args K ⟨fs, rfl, h, hk⟩
  exact ⟨rfl, _, rfl, hk, fnI tys_ok fns_ok noneT_det (pickT_imm_ok par_ok (pickT_ok (bodyT_ok tys_ok fns_ok noneT_det noneT_ok mixed) noneT_ok)) mixed (leaves_t fs h)⟩
abbrev cSch : CallT := pickT 14 (immT S_known) (pickT 17 (immT S_make) (pickT 18 (immT S_path) (pickT 19 (immT S_par) (pickT 20 (immT S_leaves) noneT))))
theorem cSch_ok [Syms] : cSch.ok Try.prog := pickT_imm_ok known_ok (pickT_imm_ok make_ok' (pickT_imm_ok path_ok (pickT_imm_ok par_ok (pickT_imm_ok leaves_ok noneT_ok))))
end Go.Proofs.Ytgaacnljcnibdaa
