/-
  'shredderlaw6.TextWords' returns true, whatever the input, and its arguments read as they did. Conditions: none but the statement's own.
-/
import Derived.Test.YtjffmehcbaechaaRows
import Derived.Test.YtjffmehcbaechaaAvLaw
import Derived.Test.YtjffmehcbaechaaWithin
namespace Go.Proofs.Ytjffmehcbaechaa.textWords
open Go.ChangeShapes Go.WideShapes Go.ChangeAt Go.RowKit Go.Av
set_option linter.unusedVariables false      -- a walk need not use every 'w<i>' (that an integer argument fits its kind)

theorem own : ownKnob Try.prog.godebug = none := by kernel_rfl

section
set_option maxRecDepth 1000000
/-- The run at a case. -/
noncomputable def run (r0 : Int) : Option (AVal × Heap × Nat) := fnRunC (symCon 15 0 9 r0) (puMask (1729594050406813696)) (fnTab fns) (tyTab tys) 300 6 [.sym 0] [] 0
theorem run_0 : isTrue (run 0) = true := by kernel_rfl
theorem run_1 : isTrue (run 1) = true := by kernel_rfl
theorem run_2 : isTrue (run 2) = true := by kernel_rfl
theorem run_3 : isTrue (run 3) = true := by kernel_rfl
theorem run_4 : isTrue (run 4) = true := by kernel_rfl
theorem run_5 : isTrue (run 5) = true := by kernel_rfl
theorem run_6 : isTrue (run 6) = true := by kernel_rfl
theorem run_7 : isTrue (run 7) = true := by kernel_rfl
theorem run_8 : isTrue (run 8) = true := by kernel_rfl
theorem runs : ∀ (r0 : Nat) (_ : r0 < 9) , isTrue (run r0) = true
  | 0, _ => run_0
  | 1, _ => run_1
  | 2, _ => run_2
  | 3, _ => run_3
  | 4, _ => run_4
  | 5, _ => run_5
  | 6, _ => run_6
  | 7, _ => run_7
  | 8, _ => run_8
end

theorem walk (a0 : Int) (w : World) :
    Calls Try.prog 6 #[.int .i64 a0] w fun e w' => e = .returned (.bool true) ∧ Below w.heap.size w w' := by
  letI : Syms := sym1 a0
  obtain ⟨h0, k0⟩ := wi_range (a := a0) (n := 9) (by decide)
  obtain ⟨r0, hr0⟩ : ∃ r : Nat, wi a0 9 = r := ⟨(wi a0 9).toNat, by omega⟩
  have hcon0 : (symCon 15 0 9 (r0 : Int)).ok Try.prog := symCon_ok within_fn_law6 fun w => by
    have := within_calls_law6 a0 9 (by decide) (by decide) w
    rw [hr0] at this
    exact this
  obtain ⟨H', nx', hc⟩ := acalls_true (fnRunC_ok hcon0 tys_ok fns_ok mixed 300) (args := [.sym 0]) (runs r0 (by omega))
  exact calls_true hc (.cons (.sym 0) (.nil _)) w

/-! ### THE ROW's STEP: WRITTEN OUT: LEAVE IT -/
set_option maxRecDepth 100000 in
theorem lifted (os : Os) (started : os.Started) (H : Type) (enc : TypeId × Value → H) :
    ReturnsInHanded {} Try.checked os 6 .any (Rows.textWordsSpec.pre6 enc Try.prog Try.f6 Rows.textWordsRow.domain false) (Rows.textWordsSpec.post enc Try.prog Try.f6 false true false false) := by
  refine returnsInHanded_of_change (C := Try.checked) own started (by kernel_rfl) Try.func6
    (ChangeSpec.witness6 (enc := enc) (C := Try.checked) false ⟨#[], #[.int .i64 0], []⟩ 8 (by kernel_rfl) (by kernel_rfl) (by kernel_rfl) (by kernel_rfl)) ?_
  intro W base args ds gs before hval0 hW hcnd _
  have hval : ∀ (j : Nat) t v, Try.f6.params[j]? = some t → args[j]? = some v → Value.okWide Try.prog W .any base t v := hval0
  have hW' := hW
  obtain ⟨p, q, hA0, hV, rfl, hfz, hnd⟩ := hW
  have hA : DataW.TrodAll enc Try.prog W 0 (fun _ => true) true Try.f6.params.toList args.toList ds p := hA0
  rw [Try.params6] at hA hval
  obtain ⟨v0, vs0, d0, ds0, p0, q0, hargs, rfl, rfl, h0, r0⟩ := trodAll_cons hA
  obtain ⟨rfl, rfl, rfl⟩ := trodAll_nil r0
  obtain rfl : args = #[v0] := by cases args; simp_all
  obtain ⟨rfl, rfl⟩ := trodVars_none hV
  obtain ⟨a0, rfl, rfl, rfl, w0⟩ := open_int Try.underlying3 (hval 0 3 v0 rfl rfl) h0
  clear hA0 hval0
  simp only [List.append_nil] at hW'
  refine (walk a0 W).mono fun e W' ⟨he, hg⟩ => ?_
  subst he
  exact ⟨_, rfl, post_of_below (pa := []) (pv := []) hW' (fun _ _ _ => (trodAll_cons_mk (shut_bool Try.underlying4 _) trodAll_mk0)) (fun sp _ => (trodAll_cons_mk (shut_int Try.underlying3 w0) trodAll_mk0)) (fun _ _ => rfl) rfl
    hg (ok_one (by kernel_rfl) rfl (okWide_bool_mk Try.underlying4 _))⟩

theorem over : Rows.textWordsRow.holds Try.pinned (OpenSpec.ofChange Rows.textWordsSpec) :=
  OpenClaim.holds_of_wide 6 Try.f6 rfl rfl rfl rfl rfl rfl rfl ⟨rfl, rfl, rfl, rfl, rfl⟩ rfl rfl rfl rfl rfl (by kernel_rfl) Try.func6 (by kernel_rfl)
    (of_decide_eq_true (by kernel_rfl)) (by unfold Func.isWrapper; first | (rw [if_pos (by decide +kernel)]; kernel_rfl) | (rw [if_neg (by decide +kernel)]; exact ⟨rfl, rfl⟩))
    (fun os started H enc _ => lifted os started H enc)

/-- ████ THE STATEMENT ████ -/
theorem proved : Rows.TextWordsSaid :=
  over
#print axioms proved
end Go.Proofs.Ytjffmehcbaechaa.textWords
