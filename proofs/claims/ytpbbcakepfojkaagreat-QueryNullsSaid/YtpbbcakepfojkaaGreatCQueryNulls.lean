/-
  'shredderlaw21.QueryNulls' returns true, whatever the input, and its arguments read as they did. Conditions: none but the statement's own.
-/
import Derived.Test.YtpbbcakepfojkaaGreatRows
import Derived.Test.YtpbbcakepfojkaaGreatAvThr
import Derived.Test.YtpbbcakepfojkaaGreatWithin
import Derived.Test.YtpbbcakepfojkaaGreatQKno
namespace Go.Proofs.YtpbbcakepfojkaaGreat.queryNulls
open Go.ChangeShapes Go.WideShapes Go.ChangeAt Go.RowKit Go.Av
set_option linter.unusedVariables false      -- a walk need not use every 'w<i>' (that an integer argument fits its kind)

theorem own : ownKnob Tryz.prog.godebug = none := by kernel_rfl

section
set_option maxRecDepth 1000000
/-- The run at a case. -/
noncomputable def run (r0 : Int) (b0 : Bool) : Option (AVal × Heap × Nat) := fnRunQ (orCall (conCall 5 (.bool true)) (orCall (symCon 7 1 5 r0) (qBase))) (puMask 1024) (puMask 56542955475833507266105290444041190424528126610383631550720) (fnTab fns) (tyTab tys) 300 4 [.bool b0, .sym 0, .sym 1] [] 0
theorem run_0_false : isTrue (run 0 false) = true := by kernel_rfl
theorem run_0_true : isTrue (run 0 true) = true := by kernel_rfl
theorem run_1_false : isTrue (run 1 false) = true := by kernel_rfl
theorem run_1_true : isTrue (run 1 true) = true := by kernel_rfl
theorem run_2_false : isTrue (run 2 false) = true := by kernel_rfl
theorem run_2_true : isTrue (run 2 true) = true := by kernel_rfl
theorem run_3_false : isTrue (run 3 false) = true := by kernel_rfl
theorem run_3_true : isTrue (run 3 true) = true := by kernel_rfl
theorem run_4_false : isTrue (run 4 false) = true := by kernel_rfl
theorem run_4_true : isTrue (run 4 true) = true := by kernel_rfl
theorem runs : ∀ (r0 : Nat) (_ : r0 < 5) (b0 : Bool), isTrue (run r0 b0) = true := by
  intro r0 h0 b0
  rcases (show r0 = 0 ∨ r0 = 1 ∨ r0 = 2 ∨ r0 = 3 ∨ r0 = 4 by omega) with rfl | rfl | rfl | rfl | rfl
  · cases b0
    · exact run_0_false
    · exact run_0_true
  · cases b0
    · exact run_1_false
    · exact run_1_true
  · cases b0
    · exact run_2_false
    · exact run_2_true
  · cases b0
    · exact run_3_false
    · exact run_3_true
  · cases b0
    · exact run_4_false
    · exact run_4_true
end

theorem walk (a0 : Bool) (a1 : Int) (a2 : Int) (w : World) :
    Calls Tryz.prog 4 #[.bool a0, .int .i64 a1, .int .i64 a2] w fun e w' => e = .returned (.bool true) ∧ Below w.heap.size w w' := by
  letI : Syms := sym2 a1 a2
  obtain ⟨h0, k0⟩ := wi_range (a := a2) (n := 5) (by decide)
  obtain ⟨r0, hr0⟩ : ∃ r : Nat, wi a2 5 = r := ⟨(wi a2 5).toNat, by omega⟩
  have hcon0 : (symCon 7 1 5 (r0 : Int)).ok Tryz.prog := symCon_ok within_fn_law21 fun w => by
    have := within_calls_law21 a2 5 (by decide) (by decide) w
    rw [hr0] at this
    exact this
  obtain ⟨H', nx', hc⟩ := acalls_true (fnRunQ_ok (orCall_ok (known_ok) (orCall_ok (hcon0) (qBase_ok))) tys_ok fns_ok mixed 300) (args := [.bool a0, .sym 0, .sym 1]) (runs r0 (by omega) a0)
  exact calls_true hc (.cons (.bool a0) (.cons (.sym 0) (.cons (.sym 1) (.nil _)))) w

/-! ### THE ROW's STEP: WRITTEN OUT: LEAVE IT -/
set_option maxRecDepth 100000 in
theorem lifted (os : Os) (started : os.Started) (H : Type) (enc : TypeId × Value → H) :
    ReturnsInHanded {} Tryz.checked os 4 .any (Rows.queryNullsSpec.pre6 enc Tryz.prog Tryz.f4 Rows.queryNullsRow.domain false) (Rows.queryNullsSpec.post enc Tryz.prog Tryz.f4 false true false false) := by
  refine returnsInHanded_of_change (C := Tryz.checked) own started (by kernel_rfl) Tryz.func4
    (ChangeSpec.witness6 (enc := enc) (C := Tryz.checked) false ⟨#[], #[.bool false, .int .i64 0, .int .i64 0], []⟩ 8 (by kernel_rfl) (by kernel_rfl) (by kernel_rfl) (by kernel_rfl)) ?_
  intro W base args ds gs before hval0 hW hcnd _
  have hval : ∀ (j : Nat) t v, Tryz.f4.params[j]? = some t → args[j]? = some v → Value.okWide Tryz.prog W .any base t v := hval0
  have hW' := hW
  obtain ⟨p, q, hA0, hV, rfl, hfz, hnd⟩ := hW
  have hA : DataW.TrodAll enc Tryz.prog W 0 (fun _ => true) true Tryz.f4.params.toList args.toList ds p := hA0
  rw [Tryz.params4] at hA hval
  obtain ⟨v0, vs0, d0, ds0, p0, q0, hargs, rfl, rfl, h0, r0⟩ := trodAll_cons hA
  obtain ⟨v1, vs1, d1, ds1, p1, q1, rfl, rfl, rfl, h1, r1⟩ := trodAll_cons r0
  obtain ⟨v2, vs2, d2, ds2, p2, q2, rfl, rfl, rfl, h2, r2⟩ := trodAll_cons r1
  obtain ⟨rfl, rfl, rfl⟩ := trodAll_nil r2
  obtain rfl : args = #[v0, v1, v2] := by cases args; simp_all
  obtain ⟨rfl, rfl⟩ := trodVars_none hV
  obtain ⟨a0, rfl, rfl, rfl⟩ := open_bool Tryz.underlying4 (hval 0 4 v0 rfl rfl) h0
  obtain ⟨a1, rfl, rfl, rfl, w1⟩ := open_int Tryz.underlying3 (hval 1 3 v1 rfl rfl) h1
  obtain ⟨a2, rfl, rfl, rfl, w2⟩ := open_int Tryz.underlying3 (hval 2 3 v2 rfl rfl) h2
  clear hA0 hval0
  simp only [List.append_nil] at hW'
  refine (walk a0 a1 a2 W).mono fun e W' ⟨he, hg⟩ => ?_
  subst he
  exact ⟨_, rfl, post_of_below (pa := []) (pv := []) hW' (fun _ _ _ => (trodAll_cons_mk (shut_bool Tryz.underlying4 _) trodAll_mk0)) (fun sp _ => (trodAll_cons_mk (shut_bool Tryz.underlying4 _) (trodAll_cons_mk (shut_int Tryz.underlying3 w1) (trodAll_cons_mk (shut_int Tryz.underlying3 w2) trodAll_mk0)))) (fun _ _ => rfl) rfl
    hg (ok_one (by kernel_rfl) rfl (okWide_bool_mk Tryz.underlying4 _))⟩

theorem over : Rows.queryNullsRow.holds Tryz.pinned (OpenSpec.ofChange Rows.queryNullsSpec) :=
  OpenClaim.holds_of_wide 4 Tryz.f4 rfl rfl rfl rfl rfl rfl rfl ⟨rfl, rfl, rfl, rfl, rfl⟩ rfl rfl rfl rfl rfl (by kernel_rfl) Tryz.func4 (by kernel_rfl)
    (of_decide_eq_true (by kernel_rfl)) (by unfold Func.isWrapper; first | (rw [if_pos (by decide +kernel)]; kernel_rfl) | (rw [if_neg (by decide +kernel)]; exact ⟨rfl, rfl⟩))
    (fun os started H enc _ => lifted os started H enc)

/-- ████ THE STATEMENT ████ -/
theorem proved : Rows.QueryNullsSaid :=
  over
#print axioms proved
end Go.Proofs.YtpbbcakepfojkaaGreat.queryNulls
