/-
  From a contract between abstract heaps to the statement's form. Over every program.
-/
import Derived.Test.YtgaacnljcnibdaaAvZ
import Derived.ProofKit
import Derived.OpenShut
set_option linter.unusedVariables false
set_option linter.unusedSimpArgs false
noncomputable section
namespace Go.Av
open Go.ChangeShapes Go.WideShapes Go.ChangeAt Go.RowKit

theorem post_of_below {P : Program} {H : Type} {enc : TypeId × Value → H} {f : Func} {s : ChangeSpec} {apart fresh handsOn again : Bool} {W W' : World} {args : Array Value} {v : Value} {ds gs : List (DataW H)} {before pa pv : List MemPlace}
    (hW : DataW.Whole enc P f.params.toList s.vars apart W args.toList ds gs before)
    (hres : ∀ (b : Nat) (sp : Nat → Bool) (hd : Bool), DataW.TrodAll enc P W' b sp hd f.resultTypes.toList (v.resultList f.resultTypes.size) (s.fn H (ds ++ gs)).results [])
    (hargs : ∀ sp : Nat → Bool, (∀ p ∈ before, sp p.block = true) → DataW.TrodAll enc P W' 0 sp true f.params.toList args.toList (s.fn H (ds ++ gs)).args pa)
    (hvars : ∀ sp : Nat → Bool, (∀ p ∈ before, sp p.block = true) → DataW.TrodVars enc P W' sp s.vars (s.fn H (ds ++ gs)).vars pv)
    (hps : before = pa ++ pv) (hb : Below W.heap.size W W')
    (hok : ∀ (j : Nat) (t : TypeId) (r : Value), f.resultTypes[j]? = some t → (v.resultList f.resultTypes.size)[j]? = some r → Value.okWide P W' .any 0 t r) :
    s.post enc P f apart fresh handsOn again W args v W' := by
  have hold : ∀ p ∈ before, (fun b => decide (b < W.heap.size)) p.block = true := fun p hp => by simpa using hW.lt p hp
  have hlt : ∀ p ∈ before, p.block < W.heap.size := fun p hp => hW.lt p hp
  refine ⟨ds, gs, before, [], pa, pv, hW, hres _ _ _, hargs _ hold, hvars _ hold, World.keptBut_mono (fun p hp => ⟨hp, ?_⟩) (hb.frame (· ∈ before)), fun _ => ?_⟩
  · rw [hps, List.mem_append] at hp
    exact Or.inr hp
  · obtain ⟨_, _, _, _, _, hz, hn⟩ := hW
    refine ⟨hok, _, _, ([] ++ pa) ++ pv, ⟨[] ++ pa, pv, trodAll_append (hargs _ (fun _ _ => rfl)) (hres _ _ _), hvars _ (fun _ _ => rfl), rfl, ?_, ?_⟩, ?_⟩
    · intro b off hp
      have hin : MemPlace.cell b off ∈ before := by rw [hps]; simpa using hp
      rw [hb.frozen (hlt _ hin)]
      exact hz b off hin
    · intro ha
      have := hn ha
      rw [hps] at this
      simpa using this
    · intro p hp _
      rw [hps]
      simpa using hp

/-- Does a call return 'true'? -/
def isTrue : Option (AVal × Heap × Nat) → Bool
  | some (.bool b, _, _) => b
  | _ => false

/-- Of functions by number: those of a mask. -/
def puMask (m : Nat) (f : Nat) : Bool := Nat.beq (Nat.land 1 (Nat.shiftRight m f)) 1

section
theorem acalls_true [Syms] {P : Program} {call : CallF} (hcall : call.ok P) {f : FuncId} {args : List AVal} {H : Heap} {nx : Nat} (h : isTrue (call f args H nx) = true) : ∃ H' nx', ACalls P f args H nx (.bool true) H' nx' := by
  unfold isTrue at h
  split at h
  · rename_i b H' nx' hr
    subst h
    exact ⟨H', nx', (hcall _ _ _ _ _ _ _ hr).2⟩
  · cases h

theorem Step.below {ι κ : Inj} {H' : Heap} {w w' : World} (h : Step ι [] w κ H' w') : Below w.heap.size w w' :=
  ⟨h.os, h.tape, h.output, h.size, fun g hg => h.same g hg (fun ⟨n, b, L, h1, _⟩ => by cases h1)⟩

theorem calls_true [Syms] {P : Program} {f : FuncId} {args : List AVal} {H' : Heap} {nx' : Nat} (h : ACalls P f args [] 0 (.bool true) H' nx') {vs : List Value} (hv : RelL ⟨fun _ => none, fun _ => none⟩ args vs) (w : World) :
    Calls P f ⟨vs⟩ w fun e w' => e = .returned (.bool true) ∧ Below w.heap.size w w' := by
  refine (h ⟨fun _ => none, fun _ => none⟩ w vs hv ⟨fun n b hb => (nomatch hb), fun n m b c L M hb => (nomatch hb), fun g cs hg => (nomatch hg)⟩ (fun n L hn => nomatch hn)).mono ?_
  rintro e w' ⟨r, κ, rfl, hr, _, hst, _⟩
  obtain rfl := hr.of_bool
  exact ⟨rfl, hst.st.below⟩
end
end Go.Av
