/-
  'shredderlaw20.FileConfigs' returns true, whatever the input, and its arguments read as they did. Conditions: none but the statement's own.
-/
import Derived.Test.YthbojaniddldgaaGreatRows
import Derived.Test.YthbojaniddldgaaGreatAvLaw
import Derived.Test.YthbojaniddldgaaGreatWithin
namespace Go.Proofs.YthbojaniddldgaaGreat.fileConfigs
open Go.ChangeShapes Go.WideShapes Go.ChangeAt Go.RowKit Go.Av
set_option linter.unusedVariables false      -- a walk need not use every 'w<i>' (that an integer argument fits its kind)

theorem own : ownKnob Tryz.prog.godebug = none := by kernel_rfl

section
set_option maxRecDepth 1000000
/-- The run at a case. -/
noncomputable def run (r0 : Int) (b1 : Bool) : Option (AVal × Heap × Nat) := fnRunC (symCon 5 0 10 r0) (puMask (112)) (fnTab fns) (tyTab tys) 300 3 [.sym 0, .bool b1] [] 0
theorem run_0_false : isTrue (run 0 false) = true := by kernel_rfl
theorem run_0_true : isTrue (run 0 true) = true := by kernel_rfl
theorem run_1_false : isTrue (run 1 false) = true := by kernel_rfl
theorem run_1_true : isTrue (run 1 true) = true := by kernel_rfl
theorem run_2_false : isTrue (run 2 false) = true := by kernel_rfl
theorem run_2_true : isTrue (run 2 true) = true := by kernel_rfl
theorem run_3_false : isTrue (run 3 false) = true := by kernel_rfl
theorem run_3_true : isTrue (run 3 true) = true := by kernel_rfl
theorem run_4_false : isTrue (run 4 false) = true := by kernel_rfl
theorem run_4_true : isTrue (run 4 true) = true := by kernel_rfl
theorem run_5_false : isTrue (run 5 false) = true := by kernel_rfl
theorem run_5_true : isTrue (run 5 true) = true := by kernel_rfl
theorem run_6_false : isTrue (run 6 false) = true := by kernel_rfl
theorem run_6_true : isTrue (run 6 true) = true := by kernel_rfl
theorem run_7_false : isTrue (run 7 false) = true := by kernel_rfl
theorem run_7_true : isTrue (run 7 true) = true := by kernel_rfl
theorem run_8_false : isTrue (run 8 false) = true := by kernel_rfl
theorem run_8_true : isTrue (run 8 true) = true := by kernel_rfl
theorem run_9_false : isTrue (run 9 false) = true := by kernel_rfl
theorem run_9_true : isTrue (run 9 true) = true := by kernel_rfl
theorem runs : ∀ (r0 : Nat) (_ : r0 < 10) (b1 : Bool), isTrue (run r0 b1) = true := by
  intro r0 h0 b1
  rcases (show r0 = 0 ∨ r0 = 1 ∨ r0 = 2 ∨ r0 = 3 ∨ r0 = 4 ∨ r0 = 5 ∨ r0 = 6 ∨ r0 = 7 ∨ r0 = 8 ∨ r0 = 9 by omega) with rfl | rfl | rfl | rfl | rfl | rfl | rfl | rfl | rfl | rfl
  · cases b1
    · exact run_0_false
    · exact run_0_true
  · cases b1
    · exact run_1_false
    · exact run_1_true
  · cases b1
    · exact run_2_false
    · exact run_2_true
  · cases b1
    · exact run_3_false
    · exact run_3_true
  · cases b1
    · exact run_4_false
    · exact run_4_true
  · cases b1
    · exact run_5_false
    · exact run_5_true
  · cases b1
    · exact run_6_false
    · exact run_6_true
  · cases b1
    · exact run_7_false
    · exact run_7_true
  · cases b1
    · exact run_8_false
    · exact run_8_true
  · cases b1
    · exact run_9_false
    · exact run_9_true
end

theorem walk (a0 : Int) (a1 : Bool) (w : World) :
    Calls Tryz.prog 3 #[.int .i64 a0, .bool a1] w fun e w' => e = .returned (.bool true) ∧ Below w.heap.size w w' := by
  letI : Syms := sym1 a0
  obtain ⟨h0, k0⟩ := wi_range (a := a0) (n := 10) (by decide)
  obtain ⟨r0, hr0⟩ : ∃ r : Nat, wi a0 10 = r := ⟨(wi a0 10).toNat, by omega⟩
  have hcon0 : (symCon 5 0 10 (r0 : Int)).ok Tryz.prog := symCon_ok within_fn_law20 fun w => by
    have := within_calls_law20 a0 10 (by decide) (by decide) w
    rw [hr0] at this
    exact this
  obtain ⟨H', nx', hc⟩ := acalls_true (fnRunC_ok hcon0 tys_ok fns_ok mixed 300) (args := [.sym 0, .bool a1]) (runs r0 (by omega) a1)
  exact calls_true hc (.cons (.sym 0) (.cons (.bool a1) (.nil _))) w

/-! ### THE ROW's STEP: WRITTEN OUT: LEAVE IT -/
set_option maxRecDepth 100000 in
theorem lifted (os : Os) (started : os.Started) (H : Type) (enc : TypeId × Value → H) :
    ReturnsInHanded {} Tryz.checked os 3 .any (Rows.fileConfigsSpec.pre6 enc Tryz.prog Tryz.f3 Rows.fileConfigsRow.domain false) (Rows.fileConfigsSpec.post enc Tryz.prog Tryz.f3 false true false false) := by
  refine returnsInHanded_of_change (C := Tryz.checked) own started (by kernel_rfl) Tryz.func3
    (ChangeSpec.witness6 (enc := enc) (C := Tryz.checked) false ⟨#[], #[.int .i64 0, .bool false], []⟩ 8 (by kernel_rfl) (by kernel_rfl) (by kernel_rfl) (by kernel_rfl)) ?_
  intro W base args ds gs before hval0 hW hcnd _
  have hval : ∀ (j : Nat) t v, Tryz.f3.params[j]? = some t → args[j]? = some v → Value.okWide Tryz.prog W .any base t v := hval0
  have hW' := hW
  obtain ⟨p, q, hA0, hV, rfl, hfz, hnd⟩ := hW
  have hA : DataW.TrodAll enc Tryz.prog W 0 (fun _ => true) true Tryz.f3.params.toList args.toList ds p := hA0
  rw [Tryz.params3] at hA hval
  obtain ⟨v0, vs0, d0, ds0, p0, q0, hargs, rfl, rfl, h0, r0⟩ := trodAll_cons hA
  obtain ⟨v1, vs1, d1, ds1, p1, q1, rfl, rfl, rfl, h1, r1⟩ := trodAll_cons r0
  obtain ⟨rfl, rfl, rfl⟩ := trodAll_nil r1
  obtain rfl : args = #[v0, v1] := by cases args; simp_all
  obtain ⟨rfl, rfl⟩ := trodVars_none hV
  obtain ⟨a0, rfl, rfl, rfl, w0⟩ := open_int Tryz.underlying3 (hval 0 3 v0 rfl rfl) h0
  obtain ⟨a1, rfl, rfl, rfl⟩ := open_bool Tryz.underlying4 (hval 1 4 v1 rfl rfl) h1
  clear hA0 hval0
  simp only [List.append_nil] at hW'
  refine (walk a0 a1 W).mono fun e W' ⟨he, hg⟩ => ?_
  subst he
  exact ⟨_, rfl, post_of_below (pa := []) (pv := []) hW' (fun _ _ _ => (trodAll_cons_mk (shut_bool Tryz.underlying4 _) trodAll_mk0)) (fun sp _ => (trodAll_cons_mk (shut_int Tryz.underlying3 w0) (trodAll_cons_mk (shut_bool Tryz.underlying4 _) trodAll_mk0))) (fun _ _ => rfl) rfl
    hg (ok_one (by kernel_rfl) rfl (okWide_bool_mk Tryz.underlying4 _))⟩

theorem over : Rows.fileConfigsRow.holds Tryz.pinned (OpenSpec.ofChange Rows.fileConfigsSpec) :=
  OpenClaim.holds_of_wide 3 Tryz.f3 rfl rfl rfl rfl rfl rfl rfl ⟨rfl, rfl, rfl, rfl, rfl⟩ rfl rfl rfl rfl rfl (by kernel_rfl) Tryz.func3 (by kernel_rfl)
    (of_decide_eq_true (by kernel_rfl)) (by unfold Func.isWrapper; first | (rw [if_pos (by decide +kernel)]; kernel_rfl) | (rw [if_neg (by decide +kernel)]; exact ⟨rfl, rfl⟩))
    (fun os started H enc _ => lifted os started H enc)

/-- ████ THE STATEMENT ████ -/
theorem proved : Rows.FileConfigsSaid :=
  over
#print axioms proved
end Go.Proofs.YthbojaniddldgaaGreat.fileConfigs
