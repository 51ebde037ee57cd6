/-
  The functions 'within' at any number: one of 0 .. n - 1. By the kit's walk.
-/
import Derived.Test.YtpbbcakepfojkaaGreatTab
import Derived.WalkKit
set_option linter.unusedVariables false
set_option linter.unusedSimpArgs false
namespace Go.Proofs.YtpbbcakepfojkaaGreat
open Go.Av

/-- What 'within' answers. -/
def wi (a n : Int) : Int := if a.tmod n < 0 then a.tmod n + n else a.tmod n
theorem wi_range {a n : Int} (hn : 0 < n) : 0 ≤ wi a n ∧ wi a n < n := by
  unfold wi
  have h1 := Int.tmod_lt_of_pos a hn
  have h2 : -n < a.tmod n := by
    have := Int.tmod_lt_of_pos (-a) hn
    rw [Int.neg_tmod] at this
    omega
  split <;> omega

theorem within_calls_law21 (a n : Int) (hn : 0 < n) (hn2 : n ≤ 4611686018427387904) (w : World) : Calls Tryz.prog 7 #[.int .i64 a, .int .i64 n] w fun e w' => e = .returned (.int .i64 (wi a n)) ∧ w' = w := by
  have h1 := Int.tmod_lt_of_pos a hn
  have h2 : -n < a.tmod n := by
    have := Int.tmod_lt_of_pos (-a) hn
    rw [Int.neg_tmod] at this
    omega
  go_enter Tryz.func7, Tryz.ntmps7
  go_wp2
  all_goals go_ret
  · rename_i h; exact ⟨by rw [wi, if_pos h]; rfl, rfl⟩
  · rename_i h; exact ⟨by rw [wi, if_neg (by omega)]; rfl, rfl⟩
theorem within_fn_law21 : FnOk Tryz.prog 7 := ⟨_, Tryz.func7, by kernel_rfl, by kernel_rfl⟩

theorem within_calls_law20 (a n : Int) (hn : 0 < n) (hn2 : n ≤ 4611686018427387904) (w : World) : Calls Tryz.prog 24 #[.int .i64 a, .int .i64 n] w fun e w' => e = .returned (.int .i64 (wi a n)) ∧ w' = w := by
  have h1 := Int.tmod_lt_of_pos a hn
  have h2 : -n < a.tmod n := by
    have := Int.tmod_lt_of_pos (-a) hn
    rw [Int.neg_tmod] at this
    omega
  go_enter Tryz.func24, Tryz.ntmps24
  go_wp2
  all_goals go_ret
  · rename_i h; exact ⟨by rw [wi, if_pos h]; rfl, rfl⟩
  · rename_i h; exact ⟨by rw [wi, if_neg (by omega)]; rfl, rfl⟩
theorem within_fn_law20 : FnOk Tryz.prog 24 := ⟨_, Tryz.func24, by kernel_rfl, by kernel_rfl⟩

theorem within_calls_law5 (a n : Int) (hn : 0 < n) (hn2 : n ≤ 4611686018427387904) (w : World) : Calls Tryz.prog 33 #[.int .i64 a, .int .i64 n] w fun e w' => e = .returned (.int .i64 (wi a n)) ∧ w' = w := by
  have h1 := Int.tmod_lt_of_pos a hn
  have h2 : -n < a.tmod n := by
    have := Int.tmod_lt_of_pos (-a) hn
    rw [Int.neg_tmod] at this
    omega
  go_enter Tryz.func33, Tryz.ntmps33
  go_wp2
  all_goals go_ret
  · rename_i h; exact ⟨by rw [wi, if_pos h]; rfl, rfl⟩
  · rename_i h; exact ⟨by rw [wi, if_neg (by omega)]; rfl, rfl⟩
theorem within_fn_law5 : FnOk Tryz.prog 33 := ⟨_, Tryz.func33, by kernel_rfl, by kernel_rfl⟩

theorem within_calls_law8 (a n : Int) (hn : 0 < n) (hn2 : n ≤ 4611686018427387904) (w : World) : Calls Tryz.prog 36 #[.int .i64 a, .int .i64 n] w fun e w' => e = .returned (.int .i64 (wi a n)) ∧ w' = w := by
  have h1 := Int.tmod_lt_of_pos a hn
  have h2 : -n < a.tmod n := by
    have := Int.tmod_lt_of_pos (-a) hn
    rw [Int.neg_tmod] at this
    omega
  go_enter Tryz.func36, Tryz.ntmps36
  go_wp2
  all_goals go_ret
  · rename_i h; exact ⟨by rw [wi, if_pos h]; rfl, rfl⟩
  · rename_i h; exact ⟨by rw [wi, if_neg (by omega)]; rfl, rfl⟩
theorem within_fn_law8 : FnOk Tryz.prog 36 := ⟨_, Tryz.func36, by kernel_rfl, by kernel_rfl⟩

/-- One given number. -/
abbrev sym1 (a : Int) : Syms := ⟨fun _ => .int .i64 a, fun _ => ⟨rfl, rfl⟩, fun _ => ⟨_, rfl⟩⟩
/-- Two. -/
abbrev sym2 (a b : Int) : Syms := ⟨fun n => .int .i64 (if n = 0 then a else b), fun _ => ⟨rfl, rfl⟩, fun _ => ⟨_, rfl⟩⟩
end Go.Proofs.YtpbbcakepfojkaaGreat
