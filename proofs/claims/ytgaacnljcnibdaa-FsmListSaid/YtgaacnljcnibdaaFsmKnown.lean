/-
  'known' of chapter 15: run as it stands.
-/
import Derived.Test.YtgaacnljcnibdaaSchBase
import Derived.Test.YtgaacnljcnibdaaSxOne
set_option linter.unusedVariables false
set_option linter.unusedSimpArgs false
namespace Go.Proofs.Ytgaacnljcnibdaa
open Go Go.Av
def noCall : CallF := fun _ _ _ _ => none
theorem noCall_ok [Syms] : noCall.ok Try.prog := fun _ _ _ _ _ _ _ h => by cases h
set_option maxRecDepth 1000000 in
theorem known15_run : isTrue (fnRunC noCall (puMask 0) (fnTab fns) (tyTab tys) 300 27 [] [] 0) = true := by kernel_rfl
theorem fnSem_true [Syms] {P : Program} {f : FuncId} {H' : Heap} {nx' : Nat} (hf : FnOk P f) (h : ACalls P f [] [] 0 (.bool true) H' nx') : FnSem P f [] [] 0 fun v H _ => v = .bool true ∧ H = [] := by
  refine ⟨hf, fun ι w vs hv hH hb => (h ι w vs hv hH hb).mono ?_⟩
  rintro e w' ⟨r, κ, he, hr, hH', hst, hb'⟩
  have hl := hst.l (Nat.le_refl 0)
  exact ⟨.bool true, [], nx', r, κ, ⟨rfl, rfl⟩, he, hr, hH'.sub (fun n b h => by rw [Heap.get_nil] at h; cases h), { hl with own := fun g ⟨n, b, L, h1, _⟩ => by rw [Heap.get_nil] at h1; cases h1 }, hb', Nat.zero_le _⟩
def S_known15 : SpecI := fun args K => args = [] ∧ K (.bool true)
theorem known15_ok [Syms] : ImmOk Try.prog 27 S_known15 := by
  rintro args K ⟨rfl, hk⟩
  have hall := fnRunC_ok (con := noCall) (pu := puMask 0) noCall_ok tys_ok fns_ok mixed 300
  have h := known15_run
  obtain ⟨H', nx', hc⟩ := acalls_true hall h
  have hf : FnOk Try.prog 27 := by
    unfold Av.isTrue at h
    split at h
    · rename_i b H'' nx'' hr
      exact (hall _ _ _ _ _ _ _ hr).1
    · cases h
  exact ⟨rfl, _, rfl, hk, fnSem_true hf hc⟩
end Go.Proofs.Ytgaacnljcnibdaa
