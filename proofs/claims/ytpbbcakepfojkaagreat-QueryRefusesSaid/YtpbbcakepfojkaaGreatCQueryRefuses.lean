/-
  'shredderlaw21.QueryRefuses' returns true, whatever the input, and its arguments read as they did. Conditions: none but the statement's own.
-/
import Derived.Test.YtpbbcakepfojkaaGreatRows
import Derived.Test.YtpbbcakepfojkaaGreatAvThr
import Derived.Test.YtpbbcakepfojkaaGreatWithin
import Derived.Test.YtpbbcakepfojkaaGreatQR0
import Derived.Test.YtpbbcakepfojkaaGreatQR1
import Derived.Test.YtpbbcakepfojkaaGreatQR2
import Derived.Test.YtpbbcakepfojkaaGreatQR3
import Derived.Test.YtpbbcakepfojkaaGreatQR4
import Derived.Test.YtpbbcakepfojkaaGreatQR5
import Derived.Test.YtpbbcakepfojkaaGreatQR6
import Derived.Test.YtpbbcakepfojkaaGreatQR7
import Derived.Test.YtpbbcakepfojkaaGreatQR8
import Derived.Test.YtpbbcakepfojkaaGreatQR9
namespace Go.Proofs.YtpbbcakepfojkaaGreat.queryRefuses
open Go.ChangeShapes Go.WideShapes Go.ChangeAt Go.RowKit Go.Av
set_option linter.unusedVariables false      -- a walk need not use every 'w<i>' (that an integer argument fits its kind)

theorem own : ownKnob Tryz.prog.godebug = none := by kernel_rfl

theorem go [Syms] (r0 r1 : Nat) (h0 : r0 < 10) (h1 : r1 < 9) (c0 : (symCon 7 0 10 (r0 : Int)).ok Tryz.prog) (c1 : (symCon 7 1 9 (r1 : Int)).ok Tryz.prog) : ∃ H' nx', ACalls Tryz.prog 3 [.sym 0, .sym 1] [] 0 (.bool true) H' nx' := by
  rcases (show r0 = 0 ∨ r0 = 1 ∨ r0 = 2 ∨ r0 = 3 ∨ r0 = 4 ∨ r0 = 5 ∨ r0 = 6 ∨ r0 = 7 ∨ r0 = 8 ∨ r0 = 9 by omega) with rfl | rfl | rfl | rfl | rfl | rfl | rfl | rfl | rfl | rfl
  · exact gR0 r1 h1 c0 c1
  · exact gR1 r1 h1 c0 c1
  · exact gR2 r1 h1 c0 c1
  · exact gR3 r1 h1 c0 c1
  · exact gR4 r1 h1 c0 c1
  · exact gR5 r1 h1 c0 c1
  · exact gR6 r1 h1 c0 c1
  · exact gR7 r1 h1 c0 c1
  · exact gR8 r1 h1 c0 c1
  · exact gR9 r1 h1 c0 c1

theorem walk (a0 : Int) (a1 : Int) (w : World) :
    Calls Tryz.prog 3 #[.int .i64 a0, .int .i64 a1] w fun e w' => e = .returned (.bool true) ∧ Below w.heap.size w w' := by
  letI : Syms := sym2 a0 a1
  obtain ⟨h0, k0⟩ := wi_range (a := a0) (n := 10) (by decide)
  obtain ⟨r0, hr0⟩ : ∃ r : Nat, wi a0 10 = r := ⟨(wi a0 10).toNat, by omega⟩
  have hcon0 : (symCon 7 0 10 (r0 : Int)).ok Tryz.prog := symCon_ok within_fn_law21 fun w => by
    have := within_calls_law21 a0 10 (by decide) (by decide) w
    rw [hr0] at this
    exact this
  obtain ⟨h1, k1⟩ := wi_range (a := a1) (n := 9) (by decide)
  obtain ⟨r1, hr1⟩ : ∃ r : Nat, wi a1 9 = r := ⟨(wi a1 9).toNat, by omega⟩
  have hcon1 : (symCon 7 1 9 (r1 : Int)).ok Tryz.prog := symCon_ok within_fn_law21 fun w => by
    have := within_calls_law21 a1 9 (by decide) (by decide) w
    rw [hr1] at this
    exact this
  obtain ⟨H', nx', hc⟩ := go r0 r1 (by omega) (by omega) hcon0 hcon1
  exact calls_true hc (.cons (.sym 0) (.cons (.sym 1) (.nil _))) w

/-! ### THE ROW's STEP: WRITTEN OUT: LEAVE IT -/
set_option maxRecDepth 100000 in
theorem lifted (os : Os) (started : os.Started) (H : Type) (enc : TypeId × Value → H) :
    ReturnsInHanded {} Tryz.checked os 3 .any (Rows.queryRefusesSpec.pre6 enc Tryz.prog Tryz.f3 Rows.queryRefusesRow.domain false) (Rows.queryRefusesSpec.post enc Tryz.prog Tryz.f3 false true false false) := by
  refine returnsInHanded_of_change (C := Tryz.checked) own started (by kernel_rfl) Tryz.func3
    (ChangeSpec.witness6 (enc := enc) (C := Tryz.checked) false ⟨#[], #[.int .i64 0, .int .i64 0], []⟩ 8 (by kernel_rfl) (by kernel_rfl) (by kernel_rfl) (by kernel_rfl)) ?_
  intro W base args ds gs before hval0 hW hcnd _
  have hval : ∀ (j : Nat) t v, Tryz.f3.params[j]? = some t → args[j]? = some v → Value.okWide Tryz.prog W .any base t v := hval0
  have hW' := hW
  obtain ⟨p, q, hA0, hV, rfl, hfz, hnd⟩ := hW
  have hA : DataW.TrodAll enc Tryz.prog W 0 (fun _ => true) true Tryz.f3.params.toList args.toList ds p := hA0
  rw [Tryz.params3] at hA hval
  obtain ⟨v0, vs0, d0, ds0, p0, q0, hargs, rfl, rfl, h0, r0⟩ := trodAll_cons hA
  obtain ⟨v1, vs1, d1, ds1, p1, q1, rfl, rfl, rfl, h1, r1⟩ := trodAll_cons r0
  obtain ⟨rfl, rfl, rfl⟩ := trodAll_nil r1
  obtain rfl : args = #[v0, v1] := by cases args; simp_all
  obtain ⟨rfl, rfl⟩ := trodVars_none hV
  obtain ⟨a0, rfl, rfl, rfl, w0⟩ := open_int Tryz.underlying3 (hval 0 3 v0 rfl rfl) h0
  obtain ⟨a1, rfl, rfl, rfl, w1⟩ := open_int Tryz.underlying3 (hval 1 3 v1 rfl rfl) h1
  clear hA0 hval0
  simp only [List.append_nil] at hW'
  refine (walk a0 a1 W).mono fun e W' ⟨he, hg⟩ => ?_
  subst he
  exact ⟨_, rfl, post_of_below (pa := []) (pv := []) hW' (fun _ _ _ => (trodAll_cons_mk (shut_bool Tryz.underlying4 _) trodAll_mk0)) (fun sp _ => (trodAll_cons_mk (shut_int Tryz.underlying3 w0) (trodAll_cons_mk (shut_int Tryz.underlying3 w1) trodAll_mk0))) (fun _ _ => rfl) rfl
    hg (ok_one (by kernel_rfl) rfl (okWide_bool_mk Tryz.underlying4 _))⟩

theorem over : Rows.queryRefusesRow.holds Tryz.pinned (OpenSpec.ofChange Rows.queryRefusesSpec) :=
  OpenClaim.holds_of_wide 3 Tryz.f3 rfl rfl rfl rfl rfl rfl rfl ⟨rfl, rfl, rfl, rfl, rfl⟩ rfl rfl rfl rfl rfl (by kernel_rfl) Tryz.func3 (by kernel_rfl)
    (of_decide_eq_true (by kernel_rfl)) (by unfold Func.isWrapper; first | (rw [if_pos (by decide +kernel)]; kernel_rfl) | (rw [if_neg (by decide +kernel)]; exact ⟨rfl, rfl⟩))
    (fun os started H enc _ => lifted os started H enc)

/-- ████ THE STATEMENT ████ -/
theorem proved : Rows.QueryRefusesSaid :=
  over
#print axioms proved
end Go.Proofs.YtpbbcakepfojkaaGreat.queryRefuses
