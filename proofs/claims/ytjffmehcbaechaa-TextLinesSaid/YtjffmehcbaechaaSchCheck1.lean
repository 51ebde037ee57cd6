/-
  'check': what is wrong with one field.
-/
import Derived.Test.YtjffmehcbaechaaSchName
set_option linter.unusedVariables false
set_option linter.unusedSimpArgs false
namespace Go.Proofs.Ytjffmehcbaechaa
open Go Go.Av
set_option maxRecDepth 100000
set_option maxHeartbeats 4000000
def S_name : SpecI := fun args K => ∃ s, args = [.str s] ∧ s.length ≤ 1000 ∧ K (.bool (nameF s))
theorem name_ok [Syms] : ImmOk Try.prog 59 S_name := by
  rintro args K ⟨s, rfl, h, hk⟩
  exact ⟨rfl, _, rfl, hk, fnI tys_ok fns_ok noneT_det noneT_ok mixed (name_t s h)⟩
def S_twin : SpecI := fun args K => ∃ (fs : List Fd) (ps : List Int) (i : Nat), args = [vF fs, vI ps, .int .i64 i] ∧ (i < fs.length ∧ ps.length = fs.length ∧ fs.length < 1000) ∧ K (.bool (twinF fs ps i))
theorem twin_ok [Syms] : ImmOk Try.prog 60 S_twin := by
  rintro args K ⟨fs, ps, i, rfl, ⟨h1, h2, h3⟩, hk⟩
  exact ⟨rfl, _, rfl, hk, fnI tys_ok fns_ok noneT_det noneT_ok mixed (twin_t fs ps i h1 h2 h3)⟩
abbrev cCk : CallT := pickT 59 (immT S_name) (pickT 60 (immT S_twin) noneT)
theorem cCk_ok [Syms] : cCk.ok Try.prog := pickT_imm_ok name_ok (pickT_imm_ok twin_ok noneT_ok)
theorem cCk_det [Syms] : cCk.det Try.prog := pickT_imm name_ok (pickT_imm twin_ok noneT_det)
theorem check_t [Syms] (fs : List Fd) (ps : List Int) (i : Nat) (dep : Int) (hi : i < fs.length) (hp : ps.length = fs.length) (hl : fs.length < 1000) (hnl : (fs.getD i default).name.length ≤ 1000) :
    fnT cCk cCk (fnTab fns) (tyTab tys) (plTab plt) 100 46 [vF fs, vI ps, .int .i64 i, .int .i64 dep] [] 0 (fun v H _ => v = .int .i64 (chkAt fs ps i dep) ∧ H = []) := by
  generalize he : chkAt fs ps i dep = e
  unfold chkAt chk1 at he
  cases hnm : nameF (fs.getD i default).name
  · simp only [hnm, reduceCtorEq, or_true, or_false, true_or, false_or, if_true, if_false] at he
    refine .inl ?_
    repeat' (first | (refine And.intro ?_ ?_) | (intro h; (try first | replace h := of_decide_eq_true h | replace h := of_decide_eq_false h); (try simp only [sg] at h); (try simp only [sx, ↓reduceIte, Nat.reduceAdd, reduceCtorEq, Int.reduceLT, Int.reduceLE, Int.reduceSub, Nat.reduceEqDiff, Nat.reduceLT] at h); try exact nz h))
    all_goals (try exact cz)
    all_goals (try (refine ⟨_, reb_flat [8] rfl, _, rfl, congrArg (AVal.int .i64) ?_, rfl⟩; (repeat' (split at he)) <;> omega))
    all_goals (refine ⟨(fs.getD i default).name, rfl, hnl, ?_⟩; rw [hnm])
    all_goals
      repeat' (first | (refine And.intro ?_ ?_) | (intro h; (try first | replace h := of_decide_eq_true h | replace h := of_decide_eq_false h); (try simp only [sg] at h); (try simp only [sx, ↓reduceIte, Nat.reduceAdd, reduceCtorEq, Int.reduceLT, Int.reduceLE, Int.reduceSub, Nat.reduceEqDiff, Nat.reduceLT] at h); try exact nz h))
      all_goals (try exact cz)
    all_goals (try (refine ⟨_, reb_flat [8] rfl, _, rfl, congrArg (AVal.int .i64) ?_, rfl⟩; (repeat' (split at he)) <;> omega))
  cases htw : twinF fs ps i
  all_goals
    simp only [hnm, htw, reduceCtorEq, or_true, or_false, true_or, false_or, if_true, if_false] at he
    refine .inl ?_
    repeat' (first | (refine And.intro ?_ ?_) | (intro h; (try first | replace h := of_decide_eq_true h | replace h := of_decide_eq_false h); (try simp only [sg] at h); (try simp only [sx, ↓reduceIte, Nat.reduceAdd, reduceCtorEq, Int.reduceLT, Int.reduceLE, Int.reduceSub, Nat.reduceEqDiff, Nat.reduceLT] at h); try exact nz h))
    all_goals (try exact cz)
  all_goals (try (refine ⟨_, reb_flat [8] rfl, _, rfl, congrArg (AVal.int .i64) ?_, rfl⟩; (repeat' (split at he)) <;> omega))
  all_goals (refine ⟨(fs.getD i default).name, rfl, hnl, ?_⟩; rw [hnm])
  all_goals
    repeat' (first | (refine And.intro ?_ ?_) | (intro h; (try first | replace h := of_decide_eq_true h | replace h := of_decide_eq_false h); (try simp only [sg] at h); (try simp only [sx, ↓reduceIte, Nat.reduceAdd, reduceCtorEq, Int.reduceLT, Int.reduceLE, Int.reduceSub, Nat.reduceEqDiff, Nat.reduceLT] at h); try exact nz h))
    all_goals (try exact cz)
  all_goals (try (refine ⟨_, reb_flat [8] rfl, _, rfl, congrArg (AVal.int .i64) ?_, rfl⟩; (repeat' (split at he)) <;> omega))
  all_goals (refine ⟨fs, ps, i, rfl, ⟨hi, hp, hl⟩, ?_⟩; rw [htw])
  all_goals
    repeat' (first | (refine And.intro ?_ ?_) | (intro h; (try first | replace h := of_decide_eq_true h | replace h := of_decide_eq_false h); (try simp only [sg] at h); (try simp only [sx, ↓reduceIte, Nat.reduceAdd, reduceCtorEq, Int.reduceLT, Int.reduceLE, Int.reduceSub, Nat.reduceEqDiff, Nat.reduceLT] at h); try exact nz h))
    all_goals (try exact cz)
  all_goals (try have q0 : (fs.getD i default).rep < 0 := by assumption)
  all_goals (try have q1 : 0 ≤ (fs.getD i default).rep := by assumption)
  all_goals (try have q2 : 2 < (fs.getD i default).rep := by assumption)
  all_goals (try have q3 : (fs.getD i default).rep ≤ 2 := by assumption)
  all_goals (try have q4 : (fs.getD i default).kind < 0 := by assumption)
  all_goals (try have q5 : 0 ≤ (fs.getD i default).kind := by assumption)
  all_goals (try have q6 : 4 < (fs.getD i default).kind := by assumption)
  all_goals (try have q7 : (fs.getD i default).kind ≤ 4 := by assumption)
  all_goals (try have q8 : (fs.getD i default).rep = 0 := by assumption)
  all_goals (try have q9 : ¬ (fs.getD i default).rep = 0 := by assumption)
  all_goals (try have q10 : (fs.getD i default).kind = 0 := by assumption)
  all_goals (try have q11 : ¬ (fs.getD i default).kind = 0 := by assumption)
  all_goals (try have q12 : (fs.getD i default).kids < 1 := by assumption)
  all_goals (try have q13 : 1 ≤ (fs.getD i default).kids := by assumption)
  all_goals (try have q14 : (fs.getD i default).kids = 0 := by assumption)
  all_goals (try have q15 : ¬ (fs.getD i default).kids = 0 := by assumption)
  all_goals (try (refine ⟨_, reb_flat [8] rfl, _, rfl, congrArg (AVal.int .i64) ?_, rfl⟩; (repeat' (split at he)) <;> omega))
def S_check1 : SpecI := fun args K => ∃ (fs : List Fd) (ps : List Int) (i : Nat) (dep : Int), args = [vF fs, vI ps, .int .i64 i, .int .i64 dep] ∧ (i < fs.length ∧ ps.length = fs.length ∧ fs.length < 1000 ∧ (fs.getD i default).name.length ≤ 1000) ∧ K (.int .i64 (chkAt fs ps i dep))
theorem check1_ok [Syms] : ImmOk Try.prog 46 S_check1 := by
  rintro args K ⟨fs, ps, i, dep, rfl, ⟨h1, h2, h3, h4⟩, hk⟩
  exact ⟨rfl, _, rfl, hk, fnI tys_ok fns_ok cCk_det cCk_ok mixed (check_t fs ps i dep h1 h2 h3 h4)⟩
end Go.Proofs.Ytjffmehcbaechaa
