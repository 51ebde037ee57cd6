/-
  'shredderlaw6.TextBad' returns true, whatever the input, and its arguments read as they did. Conditions: none but the statement's own.
-/
import Derived.Test.YtjffmehcbaechaaRows
import Derived.Test.YtjffmehcbaechaaAvLaw
import Derived.Test.YtjffmehcbaechaaWithin
namespace Go.Proofs.Ytjffmehcbaechaa.textBad
open Go.ChangeShapes Go.WideShapes Go.ChangeAt Go.RowKit Go.Av
set_option linter.unusedVariables false      -- a walk need not use every 'w<i>' (that an integer argument fits its kind)

theorem own : ownKnob Try.prog.godebug = none := by kernel_rfl

section
set_option maxRecDepth 1000000
/-- The run at a case. -/
noncomputable def run (r0 : Int) : Option (AVal × Heap × Nat) := fnRunC (symCon 15 0 18 r0) (puMask (1729594050406813696)) (fnTab fns) (tyTab tys) 300 7 [.sym 0] [] 0
theorem run_0 : isTrue (run 0) = true := by kernel_rfl
theorem run_1 : isTrue (run 1) = true := by kernel_rfl
theorem run_2 : isTrue (run 2) = true := by kernel_rfl
theorem run_3 : isTrue (run 3) = true := by kernel_rfl
theorem run_4 : isTrue (run 4) = true := by kernel_rfl
theorem run_5 : isTrue (run 5) = true := by kernel_rfl
theorem run_6 : isTrue (run 6) = true := by kernel_rfl
theorem run_7 : isTrue (run 7) = true := by kernel_rfl
theorem run_8 : isTrue (run 8) = true := by kernel_rfl
theorem run_9 : isTrue (run 9) = true := by kernel_rfl
theorem run_10 : isTrue (run 10) = true := by kernel_rfl
theorem run_11 : isTrue (run 11) = true := by kernel_rfl
theorem run_12 : isTrue (run 12) = true := by kernel_rfl
theorem run_13 : isTrue (run 13) = true := by kernel_rfl
theorem run_14 : isTrue (run 14) = true := by kernel_rfl
theorem run_15 : isTrue (run 15) = true := by kernel_rfl
theorem run_16 : isTrue (run 16) = true := by kernel_rfl
theorem run_17 : isTrue (run 17) = true := by kernel_rfl
theorem runs : ∀ (r0 : Nat) (_ : r0 < 18) , isTrue (run r0) = true := by
  intro r0 h0
  rcases (show r0 = 0 ∨ r0 = 1 ∨ r0 = 2 ∨ r0 = 3 ∨ r0 = 4 ∨ r0 = 5 ∨ r0 = 6 ∨ r0 = 7 ∨ r0 = 8 ∨ r0 = 9 ∨ r0 = 10 ∨ r0 = 11 ∨ r0 = 12 ∨ r0 = 13 ∨ r0 = 14 ∨ r0 = 15 ∨ r0 = 16 ∨ r0 = 17 by omega) with rfl | rfl | rfl | rfl | rfl | rfl | rfl | rfl | rfl | rfl | rfl | rfl | rfl | rfl | rfl | rfl | rfl | rfl
  · exact run_0
  · exact run_1
  · exact run_2
  · exact run_3
  · exact run_4
  · exact run_5
  · exact run_6
  · exact run_7
  · exact run_8
  · exact run_9
  · exact run_10
  · exact run_11
  · exact run_12
  · exact run_13
  · exact run_14
  · exact run_15
  · exact run_16
  · exact run_17
end

theorem walk (a0 : Int) (w : World) :
    Calls Try.prog 7 #[.int .i64 a0] w fun e w' => e = .returned (.bool true) ∧ Below w.heap.size w w' := by
  letI : Syms := sym1 a0
  obtain ⟨h0, k0⟩ := wi_range (a := a0) (n := 18) (by decide)
  obtain ⟨r0, hr0⟩ : ∃ r : Nat, wi a0 18 = r := ⟨(wi a0 18).toNat, by omega⟩
  have hcon0 : (symCon 15 0 18 (r0 : Int)).ok Try.prog := symCon_ok within_fn_law6 fun w => by
    have := within_calls_law6 a0 18 (by decide) (by decide) w
    rw [hr0] at this
    exact this
  obtain ⟨H', nx', hc⟩ := acalls_true (fnRunC_ok hcon0 tys_ok fns_ok mixed 300) (args := [.sym 0]) (runs r0 (by omega))
  exact calls_true hc (.cons (.sym 0) (.nil _)) w

/-! ### THE ROW's STEP: WRITTEN OUT: LEAVE IT -/
set_option maxRecDepth 100000 in
theorem lifted (os : Os) (started : os.Started) (H : Type) (enc : TypeId × Value → H) :
    ReturnsInHanded {} Try.checked os 7 .any (Rows.textBadSpec.pre6 enc Try.prog Try.f7 Rows.textBadRow.domain false) (Rows.textBadSpec.post enc Try.prog Try.f7 false true false false) := by
  refine returnsInHanded_of_change (C := Try.checked) own started (by kernel_rfl) Try.func7
    (ChangeSpec.witness6 (enc := enc) (C := Try.checked) false ⟨#[], #[.int .i64 0], []⟩ 8 (by kernel_rfl) (by kernel_rfl) (by kernel_rfl) (by kernel_rfl)) ?_
  intro W base args ds gs before hval0 hW hcnd _
  have hval : ∀ (j : Nat) t v, Try.f7.params[j]? = some t → args[j]? = some v → Value.okWide Try.prog W .any base t v := hval0
  have hW' := hW
  obtain ⟨p, q, hA0, hV, rfl, hfz, hnd⟩ := hW
  have hA : DataW.TrodAll enc Try.prog W 0 (fun _ => true) true Try.f7.params.toList args.toList ds p := hA0
  rw [Try.params7] at hA hval
  obtain ⟨v0, vs0, d0, ds0, p0, q0, hargs, rfl, rfl, h0, r0⟩ := trodAll_cons hA
  obtain ⟨rfl, rfl, rfl⟩ := trodAll_nil r0
  obtain rfl : args = #[v0] := by cases args; simp_all
  obtain ⟨rfl, rfl⟩ := trodVars_none hV
  obtain ⟨a0, rfl, rfl, rfl, w0⟩ := open_int Try.underlying3 (hval 0 3 v0 rfl rfl) h0
  clear hA0 hval0
  simp only [List.append_nil] at hW'
  refine (walk a0 W).mono fun e W' ⟨he, hg⟩ => ?_
  subst he
  exact ⟨_, rfl, post_of_below (pa := []) (pv := []) hW' (fun _ _ _ => (trodAll_cons_mk (shut_bool Try.underlying4 _) trodAll_mk0)) (fun sp _ => (trodAll_cons_mk (shut_int Try.underlying3 w0) trodAll_mk0)) (fun _ _ => rfl) rfl
    hg (ok_one (by kernel_rfl) rfl (okWide_bool_mk Try.underlying4 _))⟩

theorem over : Rows.textBadRow.holds Try.pinned (OpenSpec.ofChange Rows.textBadSpec) :=
  OpenClaim.holds_of_wide 7 Try.f7 rfl rfl rfl rfl rfl rfl rfl ⟨rfl, rfl, rfl, rfl, rfl⟩ rfl rfl rfl rfl rfl (by kernel_rfl) Try.func7 (by kernel_rfl)
    (of_decide_eq_true (by kernel_rfl)) (by unfold Func.isWrapper; first | (rw [if_pos (by decide +kernel)]; kernel_rfl) | (rw [if_neg (by decide +kernel)]; exact ⟨rfl, rfl⟩))
    (fun os started H enc _ => lifted os started H enc)

/-- ████ THE STATEMENT ████ -/
theorem proved : Rows.TextBadSaid :=
  over
#print axioms proved
end Go.Proofs.Ytjffmehcbaechaa.textBad
