/-
  'within' of chapter 15; names of one sign.
-/
import Derived.Test.YtgaacnljcnibdaaFsmKnown
import Derived.Test.YtgaacnljcnibdaaFsmNext
set_option linter.unusedVariables false
set_option linter.unusedSimpArgs false
namespace Go.Proofs.Ytgaacnljcnibdaa
open Go Go.Av
theorem nm_eq2 : ∀ i, i < 26 → bytesOf [[.int .u8 (wr .u8 (97 + (i : Nat)))]] = nmM i := by decide
def G_within15 : List AVal → (AVal → Prop) → Prop := fun args K => ∃ a n, args = [.int .i64 a, .int .i64 n] ∧ (0 < n ∧ n ≤ 4611686018427387904) ∧ K (.int .i64 (wi a n))
theorem within15_ok [Syms] : ValOk Try.prog 32 G_within15 := by
  rintro args K ⟨a, n, rfl, ⟨h1, h2⟩, hk⟩
  refine ⟨within_fn_law15, _, hk, fun ι w vs hv => ?_⟩
  obtain ⟨v0, vs0, rfl, hv0, hv⟩ := hv.uncons
  obtain ⟨v1, vs1, rfl, hv1, hv⟩ := hv.uncons
  obtain rfl := hv.unnil
  obtain rfl := hv0.of_int
  obtain rfl := hv1.of_int
  refine (within_calls_law15 a n h1 h2 w).mono ?_
  rintro e w' ⟨rfl, rfl⟩
  exact ⟨_, rfl, .int _ _, rfl⟩
abbrev cAd : CallT := pickT 32 (valT G_within15) noneT
theorem cAd_det [Syms] : cAd.det Try.prog := pickT_val within15_ok noneT_det
end Go.Proofs.Ytgaacnljcnibdaa
