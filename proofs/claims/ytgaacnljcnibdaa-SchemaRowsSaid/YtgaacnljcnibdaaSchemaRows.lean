/-
  'shredderlaw5.SchemaRows' returns true, whatever the input, and its arguments read as they did. Conditions: none but the statement's own.
-/
import Derived.Test.YtgaacnljcnibdaaRows
import Derived.Test.YtgaacnljcnibdaaAvLaw
import Derived.Test.YtgaacnljcnibdaaWithin
namespace Go.Proofs.Ytgaacnljcnibdaa.schemaRows
open Go.ChangeShapes Go.WideShapes Go.ChangeAt Go.RowKit Go.Av
set_option linter.unusedVariables false

theorem own : ownKnob Try.prog.godebug = none := by kernel_rfl

section
set_option maxRecDepth 1000000
/-- The run at a case. -/
noncomputable def run (r : Int) (b : Bool) : Option (AVal × Heap × Nat) := fnRunC (symCon 15 0 9 r) (puMask (2 ^ 14 + 2 ^ 16 + 2 ^ 36 + 2 ^ 52 + 2 ^ 53)) (fnTab fns) (tyTab tys) 300 3 [.sym 0, .bool b] [] 0
theorem run_0_false : isTrue (run 0 false) = true := by kernel_rfl
theorem run_0_true : isTrue (run 0 true) = true := by kernel_rfl
theorem run_1_false : isTrue (run 1 false) = true := by kernel_rfl
theorem run_1_true : isTrue (run 1 true) = true := by kernel_rfl
theorem run_2_false : isTrue (run 2 false) = true := by kernel_rfl
theorem run_2_true : isTrue (run 2 true) = true := by kernel_rfl
theorem run_3_false : isTrue (run 3 false) = true := by kernel_rfl
theorem run_3_true : isTrue (run 3 true) = true := by kernel_rfl
theorem run_4_false : isTrue (run 4 false) = true := by kernel_rfl
theorem run_4_true : isTrue (run 4 true) = true := by kernel_rfl
theorem run_5_false : isTrue (run 5 false) = true := by kernel_rfl
theorem run_5_true : isTrue (run 5 true) = true := by kernel_rfl
theorem run_6_false : isTrue (run 6 false) = true := by kernel_rfl
theorem run_6_true : isTrue (run 6 true) = true := by kernel_rfl
theorem run_7_false : isTrue (run 7 false) = true := by kernel_rfl
theorem run_7_true : isTrue (run 7 true) = true := by kernel_rfl
theorem run_8_false : isTrue (run 8 false) = true := by kernel_rfl
theorem run_8_true : isTrue (run 8 true) = true := by kernel_rfl
theorem runs : ∀ (r : Nat) (hr : r < 9) (b : Bool), isTrue (run r b) = true
  | 0, _, false => run_0_false
  | 0, _, true => run_0_true
  | 1, _, false => run_1_false
  | 1, _, true => run_1_true
  | 2, _, false => run_2_false
  | 2, _, true => run_2_true
  | 3, _, false => run_3_false
  | 3, _, true => run_3_true
  | 4, _, false => run_4_false
  | 4, _, true => run_4_true
  | 5, _, false => run_5_false
  | 5, _, true => run_5_true
  | 6, _, false => run_6_false
  | 6, _, true => run_6_true
  | 7, _, false => run_7_false
  | 7, _, true => run_7_true
  | 8, _, false => run_8_false
  | 8, _, true => run_8_true
end

theorem walk (a0 : Int) (a1 : Bool) (w : World) :
    Calls Try.prog 3 #[.int .i64 a0, .bool a1] w fun e w' => e = .returned (.bool true) ∧ Below w.heap.size w w' := by
  letI : Syms := sym1 a0
  obtain ⟨h1, h2⟩ := wi_range (a := a0) (n := 9) (by decide)
  obtain ⟨r, hr⟩ : ∃ r : Nat, wi a0 9 = r := ⟨(wi a0 9).toNat, by omega⟩
  have hcon : (symCon 15 0 9 (r : Int)).ok Try.prog := symCon_ok within_fn5 fun w => by
    have := within_calls5 a0 9 (by decide) (by decide) w
    rw [hr] at this
    exact this
  obtain ⟨H', nx', hc⟩ := acalls_true (fnRunC_ok hcon tys_ok fns_ok mixed 300) (args := [.sym 0, .bool a1]) (runs r (by omega) a1)
  exact calls_true hc (.cons (.sym 0) (.cons (.bool a1) (.nil _))) w

/-! ### THE ROW's STEP: WRITTEN OUT: LEAVE IT -/
set_option maxRecDepth 100000 in
theorem lifted (os : Os) (started : os.Started) (H : Type) (enc : TypeId × Value → H) :
    ReturnsInHanded {} Try.checked os 3 .any (Rows.schemaRowsSpec.pre6 enc Try.prog Try.f3 Rows.schemaRowsRow.domain false) (Rows.schemaRowsSpec.post enc Try.prog Try.f3 false true false false) := by
  refine returnsInHanded_of_change (C := Try.checked) own started (by kernel_rfl) Try.func3
    (ChangeSpec.witness6 (enc := enc) (C := Try.checked) false ⟨#[], #[.int .i64 0, .bool false], []⟩ 8 (by kernel_rfl) (by kernel_rfl) (by kernel_rfl) (by kernel_rfl)) ?_
  intro W base args ds gs before hval0 hW hcnd _
  have hval : ∀ (j : Nat) t v, Try.f3.params[j]? = some t → args[j]? = some v → Value.okWide Try.prog W .any base t v := hval0
  have hW' := hW
  obtain ⟨p, q, hA0, hV, rfl, hfz, hnd⟩ := hW
  have hA : DataW.TrodAll enc Try.prog W 0 (fun _ => true) true Try.f3.params.toList args.toList ds p := hA0
  rw [Try.params3] at hA hval
  obtain ⟨v0, vs0, d0, ds0, p0, q0, hargs, rfl, rfl, h0, r0⟩ := trodAll_cons hA
  obtain ⟨v1, vs1, d1, ds1, p1, q1, rfl, rfl, rfl, h1, r1⟩ := trodAll_cons r0
  obtain ⟨rfl, rfl, rfl⟩ := trodAll_nil r1
  obtain rfl : args = #[v0, v1] := by cases args; simp_all
  obtain ⟨rfl, rfl⟩ := trodVars_none hV
  obtain ⟨a0, rfl, rfl, rfl, w0⟩ := open_int Try.underlying3 (hval 0 3 v0 rfl rfl) h0
  obtain ⟨a1, rfl, rfl, rfl⟩ := open_bool Try.underlying4 (hval 1 4 v1 rfl rfl) h1
  clear hA0 hval0
  simp only [List.append_nil] at hW'
  refine (walk a0 a1 W).mono fun e W' ⟨he, hg⟩ => ?_
  subst he
  exact ⟨_, rfl, post_of_below (pa := []) (pv := []) hW' (fun _ _ _ => (trodAll_cons_mk (shut_bool Try.underlying4 _) trodAll_mk0)) (fun sp _ => (trodAll_cons_mk (shut_int Try.underlying3 w0) (trodAll_cons_mk (shut_bool Try.underlying4 _) trodAll_mk0))) (fun _ _ => rfl) rfl
    hg (ok_one (by kernel_rfl) rfl (okWide_bool_mk Try.underlying4 _))⟩

theorem over : Rows.schemaRowsRow.holds Try.pinned (OpenSpec.ofChange Rows.schemaRowsSpec) :=
  OpenClaim.holds_of_wide 3 Try.f3 rfl rfl rfl rfl rfl rfl rfl ⟨rfl, rfl, rfl, rfl, rfl⟩ rfl rfl rfl rfl rfl (by kernel_rfl) Try.func3 (by kernel_rfl)
    (of_decide_eq_true (by kernel_rfl)) (by unfold Func.isWrapper; first | (rw [if_pos (by decide +kernel)]; kernel_rfl) | (rw [if_neg (by decide +kernel)]; exact ⟨rfl, rfl⟩))
    (fun os started H enc _ => lifted os started H enc)

/-- ████ THE STATEMENT ████ -/
theorem proved : Rows.SchemaRowsSaid :=
  over
#print axioms proved
end Go.Proofs.Ytgaacnljcnibdaa.schemaRows
