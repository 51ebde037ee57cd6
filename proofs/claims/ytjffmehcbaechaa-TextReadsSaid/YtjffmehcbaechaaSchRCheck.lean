/-
  The document's 'lacks', 'Check'.
-/
import Derived.Test.YtjffmehcbaechaaSchRName
import Derived.Test.YtjffmehcbaechaaSchRCheckP
set_option linter.unusedVariables false
set_option linter.unusedSimpArgs false
namespace Go.Proofs.Ytjffmehcbaechaa
open Go Go.Av
set_option maxRecDepth 100000
set_option maxHeartbeats 8000000
abbrev cLk : CallT := pickT 49 (immT S_name') (pickT 52 (immT S_twice) (pickT 51 (immT S_rwalk) noneT))
theorem cLk_ok [Syms] : cLk.ok Try.prog := pickT_imm_ok rname_ok (pickT_imm_ok twice_ok (pickT_imm_ok rwalk_ok noneT_ok))
abbrev cLd : CallT := pickT 49 (immT S_name') (pickT 52 (immT S_twice) noneT)
theorem cLd_det [Syms] : cLd.det Try.prog := pickT_imm rname_ok (pickT_imm twice_ok noneT_det)
def lkS (fs : List Fd) (i : Nat) : St := ⟨[(0, vF fs), (5, vI (parentsF fs)), (6, vI (depthsF fs)), (7, .int .i64 i)], [], 0⟩
def lkR (fs : List Fd) (i : Nat) : St := ⟨[(0, vF fs), (5, vI (parentsF fs)), (6, vI (depthsF fs)), (7, .int .i64 i), (8, .ptr 0 0 0)], [(0, some (.cells [encF (fs.getD i default)] false))], 1⟩
def rcS (fs : List Fd) (i : Nat) (k : Int) : St := ⟨[(0, vF fs), (3, vI (parentsF fs)), (4, vI (depthsF fs)), (5, .int .i64 k), (6, .int .i64 i)], [], 0⟩
def rcR (fs : List Fd) (i : Nat) (k : Int) : St := ⟨[(0, vF fs), (3, vI (parentsF fs)), (4, vI (depthsF fs)), (5, .int .i64 k), (6, .int .i64 i), (7, .ptr 0 0 0)], [(0, some (.cells [encF (fs.getD i default)] false))], 1⟩
theorem lacks_t [Syms] (fs : List Fd) (j : Nat) (hF : FsOk fs) (hj0 : 0 < j) (hj : j ≤ fs.length) :
    fnT cLd cLk (fnTab fns) (tyTab tys) (plAdd [(53, 5)] (plTab plt)) 100 53 [vF fs, .int .i64 j] [] 0 (fun v H _ => v = .int .i64 (lacksF fs j (fs.length - j)) ∧ H = []) := by
  have hl := hF.len
  have hpl := parents_length fs
  have hdl := depths_length fs
  repeat' (first | (refine And.intro ?_ ?_) | (intro h; (try first | replace h := of_decide_eq_true h | replace h := of_decide_eq_false h); (try simp only [sg] at h); (try simp only [sx, ↓reduceIte, Nat.reduceAdd, reduceCtorEq, Int.reduceLT, Int.reduceLE, Int.reduceSub, Nat.reduceEqDiff, Nat.reduceLT] at h); try exact nz h))
  all_goals (try exact cz)
  refine ⟨fs, rfl, hF, ?_⟩
  repeat' (first | (refine And.intro ?_ ?_) | (intro h; (try first | replace h := of_decide_eq_true h | replace h := of_decide_eq_false h); (try simp only [sg] at h); (try simp only [sx, ↓reduceIte, Nat.reduceAdd, reduceCtorEq, Int.reduceLT, Int.reduceLE, Int.reduceSub, Nat.reduceEqDiff, Nat.reduceLT] at h); try exact nz h))
  all_goals (try exact cz)
  refine ⟨fun m s => ∃ i : Nat, (0 < i ∧ i ≤ fs.length ∧ m = fs.length - i ∧ lacksF fs i (fs.length - i) = lacksF fs j (fs.length - j)) ∧ s = lkS fs i, ⟨_, lkS fs j, reb_flat [0, 5, 6, 7] rfl, j, ⟨hj0, hj, rfl, rfl⟩, rfl⟩, ?_⟩
  rintro m s ⟨i, ⟨hi0, hi, rfl, hc⟩, rfl⟩
  by_cases hin : i < fs.length
  · have hnl := hF.name i
    rw [lacksF_step hin] at hc
    generalize he : chkD fs i = e at hc
    have he0 := he
    unfold chkD chkAt chk1 at he
    repeat' (first | (refine And.intro ?_ ?_) | (intro h; (try first | replace h := of_decide_eq_true h | replace h := of_decide_eq_false h); (try simp only [sg] at h); (try simp only [sx, ↓reduceIte, Nat.reduceAdd, reduceCtorEq, Int.reduceLT, Int.reduceLE, Int.reduceSub, Nat.reduceEqDiff, Nat.reduceLT] at h); try exact nz h))
    all_goals (try exact cz)
    refine ⟨lkR fs i, reb_num [0] (by first | rfl | kernel_rfl) ⟨.refl _, .refl _, .refl _, .refl _, .refl _, trivial⟩ ⟨⟨by decide, _, rfl, .refl _⟩, trivial⟩, ?_⟩
    have ht0 : i = 0 → twinF fs (parentsF fs) i = false := fun h => by subst h; rfl
    by_cases hz : e = 0
    · obtain ⟨z1, z2, hnm, htw, z3, z4, z5, z6, z7, z8, z9⟩ := chk1_zero (he0.trans hz)
      rw [if_neg (fun h => h hz)] at hc
      repeat' (first | (refine And.intro ?_ ?_) | (intro h; (try first | replace h := of_decide_eq_true h | replace h := of_decide_eq_false h); (try simp only [sg] at h); (try simp only [sx, ↓reduceIte, Nat.reduceAdd, reduceCtorEq, Int.reduceLT, Int.reduceLE, Int.reduceSub, Nat.reduceEqDiff, Nat.reduceLT] at h); try exact nz h))
      all_goals (try exact cz)
      all_goals (refine ⟨(fs.getD i default).name, rfl, hnl, ?_⟩; rw [hnm])
      all_goals
        repeat' (first | (refine And.intro ?_ ?_) | (intro h; (try first | replace h := of_decide_eq_true h | replace h := of_decide_eq_false h); (try simp only [sg] at h); (try simp only [sx, ↓reduceIte, Nat.reduceAdd, reduceCtorEq, Int.reduceLT, Int.reduceLE, Int.reduceSub, Nat.reduceEqDiff, Nat.reduceLT] at h); try exact nz h))
        all_goals (try exact cz)
      all_goals (try (refine ⟨fs, parentsF fs, i, rfl, ⟨hin, hpl, hl⟩, ?_⟩; rw [htw]))
      all_goals
        repeat' (first | (refine And.intro ?_ ?_) | (intro h; (try first | replace h := of_decide_eq_true h | replace h := of_decide_eq_false h); (try simp only [sg] at h); (try simp only [sx, ↓reduceIte, Nat.reduceAdd, reduceCtorEq, Int.reduceLT, Int.reduceLE, Int.reduceSub, Nat.reduceEqDiff, Nat.reduceLT] at h); try exact nz h))
        all_goals (try exact cz)
      all_goals exact ⟨_, lkS fs (i + 1), reb_flat [0, 5, 6, 7] rfl, ⟨i + 1, ⟨by omega, by omega, rfl, hc⟩, rfl⟩, by omega⟩
    · rw [if_pos hz] at hc
      rw [← hc]
      cases hnm : nameF (fs.getD i default).name
      · simp only [hnm, reduceCtorEq, or_true, or_false, true_or, false_or, if_true, if_false] at he
        repeat' (first | (refine And.intro ?_ ?_) | (intro h; (try first | replace h := of_decide_eq_true h | replace h := of_decide_eq_false h); (try simp only [sg] at h); (try simp only [sx, ↓reduceIte, Nat.reduceAdd, reduceCtorEq, Int.reduceLT, Int.reduceLE, Int.reduceSub, Nat.reduceEqDiff, Nat.reduceLT] at h); try exact nz h))
        all_goals (try exact cz)
        all_goals (try first | (refine ⟨_, reb_flat [4] rfl, _, rfl, congrArg (AVal.int .i64) ?_, rfl⟩; (repeat' (split at he)) <;> omega) | (exfalso; (repeat' (split at he)) <;> omega))
        all_goals (refine ⟨(fs.getD i default).name, rfl, hnl, ?_⟩; rw [hnm])
        all_goals
          repeat' (first | (refine And.intro ?_ ?_) | (intro h; (try first | replace h := of_decide_eq_true h | replace h := of_decide_eq_false h); (try simp only [sg] at h); (try simp only [sx, ↓reduceIte, Nat.reduceAdd, reduceCtorEq, Int.reduceLT, Int.reduceLE, Int.reduceSub, Nat.reduceEqDiff, Nat.reduceLT] at h); try exact nz h))
          all_goals (try exact cz)
        all_goals (try first | (refine ⟨_, reb_flat [4] rfl, _, rfl, congrArg (AVal.int .i64) ?_, rfl⟩; (repeat' (split at he)) <;> omega) | (exfalso; (repeat' (split at he)) <;> omega))
      · cases htw : twinF fs (parentsF fs) i
        · simp only [hnm, htw, reduceCtorEq, or_true, or_false, true_or, false_or, if_true, if_false] at he
          repeat' (first | (refine And.intro ?_ ?_) | (intro h; (try first | replace h := of_decide_eq_true h | replace h := of_decide_eq_false h); (try simp only [sg] at h); (try simp only [sx, ↓reduceIte, Nat.reduceAdd, reduceCtorEq, Int.reduceLT, Int.reduceLE, Int.reduceSub, Nat.reduceEqDiff, Nat.reduceLT] at h); try exact nz h))
          all_goals (try exact cz)
          all_goals (try first | (refine ⟨_, reb_flat [4] rfl, _, rfl, congrArg (AVal.int .i64) ?_, rfl⟩; (repeat' (split at he)) <;> omega) | (exfalso; (repeat' (split at he)) <;> omega))
          all_goals (refine ⟨(fs.getD i default).name, rfl, hnl, ?_⟩; rw [hnm])
          all_goals
            repeat' (first | (refine And.intro ?_ ?_) | (intro h; (try first | replace h := of_decide_eq_true h | replace h := of_decide_eq_false h); (try simp only [sg] at h); (try simp only [sx, ↓reduceIte, Nat.reduceAdd, reduceCtorEq, Int.reduceLT, Int.reduceLE, Int.reduceSub, Nat.reduceEqDiff, Nat.reduceLT] at h); try exact nz h))
            all_goals (try exact cz)
          all_goals (try first | (refine ⟨_, reb_flat [4] rfl, _, rfl, congrArg (AVal.int .i64) ?_, rfl⟩; (repeat' (split at he)) <;> omega) | (exfalso; (repeat' (split at he)) <;> omega))
          all_goals (refine ⟨fs, parentsF fs, i, rfl, ⟨hin, hpl, hl⟩, ?_⟩; rw [htw])
          all_goals
            repeat' (first | (refine And.intro ?_ ?_) | (intro h; (try first | replace h := of_decide_eq_true h | replace h := of_decide_eq_false h); (try simp only [sg] at h); (try simp only [sx, ↓reduceIte, Nat.reduceAdd, reduceCtorEq, Int.reduceLT, Int.reduceLE, Int.reduceSub, Nat.reduceEqDiff, Nat.reduceLT] at h); try exact nz h))
            all_goals (try exact cz)
          all_goals (try first | (refine ⟨_, reb_flat [4] rfl, _, rfl, congrArg (AVal.int .i64) ?_, rfl⟩; (repeat' (split at he)) <;> omega) | (exfalso; (repeat' (split at he)) <;> omega))
        · simp only [hnm, htw, reduceCtorEq, or_true, or_false, true_or, false_or, if_true, if_false] at he
          have hi0' : i ≠ 0 := fun h => by rw [ht0 h] at htw; cases htw
          repeat' (first | (refine And.intro ?_ ?_) | (intro h; (try first | replace h := of_decide_eq_true h | replace h := of_decide_eq_false h); (try simp only [sg] at h); (try simp only [sx, ↓reduceIte, Nat.reduceAdd, reduceCtorEq, Int.reduceLT, Int.reduceLE, Int.reduceSub, Nat.reduceEqDiff, Nat.reduceLT] at h); try exact nz h))
          all_goals (try exact cz)
          all_goals (try first | (refine ⟨_, reb_flat [4] rfl, _, rfl, congrArg (AVal.int .i64) ?_, rfl⟩; (repeat' (split at he)) <;> omega) | (exfalso; (repeat' (split at he)) <;> omega))
          all_goals (refine ⟨(fs.getD i default).name, rfl, hnl, ?_⟩; rw [hnm])
          all_goals
            repeat' (first | (refine And.intro ?_ ?_) | (intro h; (try first | replace h := of_decide_eq_true h | replace h := of_decide_eq_false h); (try simp only [sg] at h); (try simp only [sx, ↓reduceIte, Nat.reduceAdd, reduceCtorEq, Int.reduceLT, Int.reduceLE, Int.reduceSub, Nat.reduceEqDiff, Nat.reduceLT] at h); try exact nz h))
            all_goals (try exact cz)
          all_goals (try first | (refine ⟨_, reb_flat [4] rfl, _, rfl, congrArg (AVal.int .i64) ?_, rfl⟩; (repeat' (split at he)) <;> omega) | (exfalso; (repeat' (split at he)) <;> omega))
          all_goals (refine ⟨fs, parentsF fs, i, rfl, ⟨hin, hpl, hl⟩, ?_⟩; rw [htw])
          all_goals
            repeat' (first | (refine And.intro ?_ ?_) | (intro h; (try first | replace h := of_decide_eq_true h | replace h := of_decide_eq_false h); (try simp only [sg] at h); (try simp only [sx, ↓reduceIte, Nat.reduceAdd, reduceCtorEq, Int.reduceLT, Int.reduceLE, Int.reduceSub, Nat.reduceEqDiff, Nat.reduceLT] at h); try exact nz h))
            all_goals (try exact cz)
          all_goals (try first | (refine ⟨_, reb_flat [4] rfl, _, rfl, congrArg (AVal.int .i64) ?_, rfl⟩; (repeat' (split at he)) <;> omega) | (exfalso; (repeat' (split at he)) <;> omega))
  · obtain rfl : i = fs.length := by omega
    rw [Nat.sub_self] at hc
    rw [← hc]
    repeat' (first | (refine And.intro ?_ ?_) | (intro h; (try first | replace h := of_decide_eq_true h | replace h := of_decide_eq_false h); (try simp only [sg] at h); (try simp only [sx, ↓reduceIte, Nat.reduceAdd, reduceCtorEq, Int.reduceLT, Int.reduceLE, Int.reduceSub, Nat.reduceEqDiff, Nat.reduceLT] at h); try exact nz h))
    all_goals (try exact cz)
    exact ⟨_, reb_flat [4] rfl, _, rfl, rfl, rfl⟩
def S_lacks : SpecI := fun args K => ∃ (fs : List Fd) (j : Nat), args = [vF fs, .int .i64 j] ∧ (FsOk fs ∧ 0 < j ∧ j ≤ fs.length) ∧ K (.int .i64 (lacksF fs j (fs.length - j)))
theorem lacks_ok [Syms] : ImmOk Try.prog 53 S_lacks := by
  rintro args K ⟨fs, j, rfl, ⟨h1, h2, h3⟩, hk⟩
  exact ⟨rfl, _, rfl, hk, fnI tys_ok fns_ok cLd_det cLk_ok mixed (lacks_t fs j h1 h2 h3)⟩
abbrev cRc : CallT := pickT 53 (immT S_lacks) cLk
theorem cRc_ok [Syms] : cRc.ok Try.prog := pickT_imm_ok lacks_ok cLk_ok
theorem rcheck_t [Syms] (fs : List Fd) (hF : FsOk fs) :
    fnT cLd cRc (fnTab fns) (tyTab tys) (plAdd [(33, 8)] (plTab plt)) 100 33 [vF fs] [] 0 (fun v H _ => v = .int .i64 (rcheckF fs) ∧ H = []) := by
  have hl := hF.len
  have hpl := parents_length fs
  have hdl := depths_length fs
  by_cases hn : fs.length < 1 ∨ 40 < fs.length
  · have he : rcheckF fs = 4 := by rw [rcheckF, if_pos hn]
    rw [he]
    repeat' (first | (refine And.intro ?_ ?_) | (intro h; (try first | replace h := of_decide_eq_true h | replace h := of_decide_eq_false h); (try simp only [sg] at h); (try simp only [sx, ↓reduceIte, Nat.reduceAdd, reduceCtorEq, Int.reduceLT, Int.reduceLE, Int.reduceSub, Nat.reduceEqDiff, Nat.reduceLT] at h); try exact nz h))
    all_goals (try exact cz)
    all_goals exact ⟨_, reb_flat [2] rfl, _, rfl, rfl, rfl⟩
  rw [show rcheckF fs = rFrom fs 0 fs.length 0 from if_neg hn]
  repeat' (first | (refine And.intro ?_ ?_) | (intro h; (try first | replace h := of_decide_eq_true h | replace h := of_decide_eq_false h); (try simp only [sg] at h); (try simp only [sx, ↓reduceIte, Nat.reduceAdd, reduceCtorEq, Int.reduceLT, Int.reduceLE, Int.reduceSub, Nat.reduceEqDiff, Nat.reduceLT] at h); try exact nz h))
  all_goals (try exact cz)
  refine ⟨fs, rfl, hF, ?_⟩
  repeat' (first | (refine And.intro ?_ ?_) | (intro h; (try first | replace h := of_decide_eq_true h | replace h := of_decide_eq_false h); (try simp only [sg] at h); (try simp only [sx, ↓reduceIte, Nat.reduceAdd, reduceCtorEq, Int.reduceLT, Int.reduceLE, Int.reduceSub, Nat.reduceEqDiff, Nat.reduceLT] at h); try exact nz h))
  all_goals (try exact cz)
  refine ⟨fun m s => ∃ (i : Nat) (k : Int), (i ≤ fs.length ∧ m = fs.length - i ∧ 0 ≤ k ∧ k ≤ 40 * i ∧ rFrom fs i (fs.length - i) k = rFrom fs 0 fs.length 0) ∧ s = rcS fs i k, ⟨_, rcS fs 0 0, reb_flat [0, 3, 4, 5, 6] rfl, 0, 0, ⟨by omega, rfl, by omega, by omega, rfl⟩, rfl⟩, ?_⟩
  rintro m s ⟨i, k, ⟨hi, rfl, hk0, hk1, hc⟩, rfl⟩
  by_cases hin : i < fs.length
  · have hnl := hF.name i
    rw [rFrom_step hin] at hc
    have hkz := chkD_zero (fs := fs) (i := i)
    generalize he : chkD fs i = e at hc hkz
    have he0 := he
    unfold chkD chkAt chk1 at he
    repeat' (first | (refine And.intro ?_ ?_) | (intro h; (try first | replace h := of_decide_eq_true h | replace h := of_decide_eq_false h); (try simp only [sg] at h); (try simp only [sx, ↓reduceIte, Nat.reduceAdd, reduceCtorEq, Int.reduceLT, Int.reduceLE, Int.reduceSub, Nat.reduceEqDiff, Nat.reduceLT] at h); try exact nz h))
    all_goals (try exact cz)
    refine ⟨rcR fs i k, reb_num [0] (by first | rfl | kernel_rfl) ⟨.refl _, .refl _, .refl _, .refl _, .refl _, .refl _, trivial⟩ ⟨⟨by decide, _, rfl, .refl _⟩, trivial⟩, ?_⟩
    have ht0 : i = 0 → twinF fs (parentsF fs) i = false := fun h => by subst h; rfl
    by_cases hz : e = 0
    · obtain ⟨z1, z2, hnm, htw, z3, z4, z5, z6, z7, z8, z9⟩ := chk1_zero (he0.trans hz)
      rw [if_neg (fun h => h hz)] at hc
      have hk2 := hkz hz
      by_cases hk40 : 40 < (fs.getD i default).kids
      · rw [if_pos hk40] at hc
        rw [← hc]
        repeat' (first | (refine And.intro ?_ ?_) | (intro h; (try first | replace h := of_decide_eq_true h | replace h := of_decide_eq_false h); (try simp only [sg] at h); (try simp only [sx, ↓reduceIte, Nat.reduceAdd, reduceCtorEq, Int.reduceLT, Int.reduceLE, Int.reduceSub, Nat.reduceEqDiff, Nat.reduceLT] at h); try exact nz h))
        all_goals (try exact cz)
        all_goals (refine ⟨(fs.getD i default).name, rfl, hnl, ?_⟩; rw [hnm])
        all_goals
          repeat' (first | (refine And.intro ?_ ?_) | (intro h; (try first | replace h := of_decide_eq_true h | replace h := of_decide_eq_false h); (try simp only [sg] at h); (try simp only [sx, ↓reduceIte, Nat.reduceAdd, reduceCtorEq, Int.reduceLT, Int.reduceLE, Int.reduceSub, Nat.reduceEqDiff, Nat.reduceLT] at h); try exact nz h))
          all_goals (try exact cz)
        all_goals (try (refine ⟨fs, parentsF fs, i, rfl, ⟨hin, hpl, hl⟩, ?_⟩; rw [htw]))
        all_goals
          repeat' (first | (refine And.intro ?_ ?_) | (intro h; (try first | replace h := of_decide_eq_true h | replace h := of_decide_eq_false h); (try simp only [sg] at h); (try simp only [sx, ↓reduceIte, Nat.reduceAdd, reduceCtorEq, Int.reduceLT, Int.reduceLE, Int.reduceSub, Nat.reduceEqDiff, Nat.reduceLT] at h); try exact nz h))
          all_goals (try exact cz)
        all_goals (try (with_reducible show (_ : Int) ≤ (_ : Int)); first | (show (-9223372036854775808 : Int) ≤ k + (fs.getD i default).kids; omega) | (show k + (fs.getD i default).kids ≤ (9223372036854775807 : Int); omega))
        all_goals refine ⟨fs, i + 1, rfl, ⟨hF, by omega, by omega⟩, ?_⟩
        all_goals
          repeat' (first | (refine And.intro ?_ ?_) | (intro h; (try first | replace h := of_decide_eq_true h | replace h := of_decide_eq_false h); (try simp only [sg] at h); (try simp only [sx, ↓reduceIte, Nat.reduceAdd, reduceCtorEq, Int.reduceLT, Int.reduceLE, Int.reduceSub, Nat.reduceEqDiff, Nat.reduceLT] at h); try exact nz h))
          all_goals (try exact cz)
        all_goals exact ⟨_, reb_flat [2] rfl, _, rfl, rfl, rfl⟩
      · rw [if_neg hk40] at hc
        repeat' (first | (refine And.intro ?_ ?_) | (intro h; (try first | replace h := of_decide_eq_true h | replace h := of_decide_eq_false h); (try simp only [sg] at h); (try simp only [sx, ↓reduceIte, Nat.reduceAdd, reduceCtorEq, Int.reduceLT, Int.reduceLE, Int.reduceSub, Nat.reduceEqDiff, Nat.reduceLT] at h); try exact nz h))
        all_goals (try exact cz)
        all_goals (refine ⟨(fs.getD i default).name, rfl, hnl, ?_⟩; rw [hnm])
        all_goals
          repeat' (first | (refine And.intro ?_ ?_) | (intro h; (try first | replace h := of_decide_eq_true h | replace h := of_decide_eq_false h); (try simp only [sg] at h); (try simp only [sx, ↓reduceIte, Nat.reduceAdd, reduceCtorEq, Int.reduceLT, Int.reduceLE, Int.reduceSub, Nat.reduceEqDiff, Nat.reduceLT] at h); try exact nz h))
          all_goals (try exact cz)
        all_goals (try (refine ⟨fs, parentsF fs, i, rfl, ⟨hin, hpl, hl⟩, ?_⟩; rw [htw]))
        all_goals
          repeat' (first | (refine And.intro ?_ ?_) | (intro h; (try first | replace h := of_decide_eq_true h | replace h := of_decide_eq_false h); (try simp only [sg] at h); (try simp only [sx, ↓reduceIte, Nat.reduceAdd, reduceCtorEq, Int.reduceLT, Int.reduceLE, Int.reduceSub, Nat.reduceEqDiff, Nat.reduceLT] at h); try exact nz h))
          all_goals (try exact cz)
        all_goals (try (with_reducible show (_ : Int) ≤ (_ : Int)); first | (show (-9223372036854775808 : Int) ≤ k + (fs.getD i default).kids; omega) | (show k + (fs.getD i default).kids ≤ (9223372036854775807 : Int); omega))
        all_goals exact ⟨_, rcS fs (i + 1) (k + (fs.getD i default).kids), reb_flat [0, 3, 4, 5, 6] rfl, ⟨i + 1, _, ⟨by omega, rfl, by omega, by omega, hc⟩, rfl⟩, by omega⟩
    · rw [if_pos hz] at hc
      rw [← hc]
      cases hnm : nameF (fs.getD i default).name
      · simp only [hnm, reduceCtorEq, or_true, or_false, true_or, false_or, if_true, if_false] at he
        repeat' (first | (refine And.intro ?_ ?_) | (intro h; (try first | replace h := of_decide_eq_true h | replace h := of_decide_eq_false h); (try simp only [sg] at h); (try simp only [sx, ↓reduceIte, Nat.reduceAdd, reduceCtorEq, Int.reduceLT, Int.reduceLE, Int.reduceSub, Nat.reduceEqDiff, Nat.reduceLT] at h); try exact nz h))
        all_goals (try exact cz)
        all_goals (try first | (refine ⟨_, reb_flat [2] rfl, _, rfl, congrArg (AVal.int .i64) ?_, rfl⟩; (repeat' (split at he)) <;> omega) | (exfalso; (repeat' (split at he)) <;> omega))
        all_goals (refine ⟨(fs.getD i default).name, rfl, hnl, ?_⟩; rw [hnm])
        all_goals
          repeat' (first | (refine And.intro ?_ ?_) | (intro h; (try first | replace h := of_decide_eq_true h | replace h := of_decide_eq_false h); (try simp only [sg] at h); (try simp only [sx, ↓reduceIte, Nat.reduceAdd, reduceCtorEq, Int.reduceLT, Int.reduceLE, Int.reduceSub, Nat.reduceEqDiff, Nat.reduceLT] at h); try exact nz h))
          all_goals (try exact cz)
        all_goals (try first | (refine ⟨_, reb_flat [2] rfl, _, rfl, congrArg (AVal.int .i64) ?_, rfl⟩; (repeat' (split at he)) <;> omega) | (exfalso; (repeat' (split at he)) <;> omega))
      · cases htw : twinF fs (parentsF fs) i
        · simp only [hnm, htw, reduceCtorEq, or_true, or_false, true_or, false_or, if_true, if_false] at he
          repeat' (first | (refine And.intro ?_ ?_) | (intro h; (try first | replace h := of_decide_eq_true h | replace h := of_decide_eq_false h); (try simp only [sg] at h); (try simp only [sx, ↓reduceIte, Nat.reduceAdd, reduceCtorEq, Int.reduceLT, Int.reduceLE, Int.reduceSub, Nat.reduceEqDiff, Nat.reduceLT] at h); try exact nz h))
          all_goals (try exact cz)
          all_goals (try first | (refine ⟨_, reb_flat [2] rfl, _, rfl, congrArg (AVal.int .i64) ?_, rfl⟩; (repeat' (split at he)) <;> omega) | (exfalso; (repeat' (split at he)) <;> omega))
          all_goals (refine ⟨(fs.getD i default).name, rfl, hnl, ?_⟩; rw [hnm])
          all_goals
            repeat' (first | (refine And.intro ?_ ?_) | (intro h; (try first | replace h := of_decide_eq_true h | replace h := of_decide_eq_false h); (try simp only [sg] at h); (try simp only [sx, ↓reduceIte, Nat.reduceAdd, reduceCtorEq, Int.reduceLT, Int.reduceLE, Int.reduceSub, Nat.reduceEqDiff, Nat.reduceLT] at h); try exact nz h))
            all_goals (try exact cz)
          all_goals (try first | (refine ⟨_, reb_flat [2] rfl, _, rfl, congrArg (AVal.int .i64) ?_, rfl⟩; (repeat' (split at he)) <;> omega) | (exfalso; (repeat' (split at he)) <;> omega))
          all_goals (refine ⟨fs, parentsF fs, i, rfl, ⟨hin, hpl, hl⟩, ?_⟩; rw [htw])
          all_goals
            repeat' (first | (refine And.intro ?_ ?_) | (intro h; (try first | replace h := of_decide_eq_true h | replace h := of_decide_eq_false h); (try simp only [sg] at h); (try simp only [sx, ↓reduceIte, Nat.reduceAdd, reduceCtorEq, Int.reduceLT, Int.reduceLE, Int.reduceSub, Nat.reduceEqDiff, Nat.reduceLT] at h); try exact nz h))
            all_goals (try exact cz)
          all_goals (try first | (refine ⟨_, reb_flat [2] rfl, _, rfl, congrArg (AVal.int .i64) ?_, rfl⟩; (repeat' (split at he)) <;> omega) | (exfalso; (repeat' (split at he)) <;> omega))
        · simp only [hnm, htw, reduceCtorEq, or_true, or_false, true_or, false_or, if_true, if_false] at he
          have hi0' : i ≠ 0 := fun h => by rw [ht0 h] at htw; cases htw
          repeat' (first | (refine And.intro ?_ ?_) | (intro h; (try first | replace h := of_decide_eq_true h | replace h := of_decide_eq_false h); (try simp only [sg] at h); (try simp only [sx, ↓reduceIte, Nat.reduceAdd, reduceCtorEq, Int.reduceLT, Int.reduceLE, Int.reduceSub, Nat.reduceEqDiff, Nat.reduceLT] at h); try exact nz h))
          all_goals (try exact cz)
          all_goals (try first | (refine ⟨_, reb_flat [2] rfl, _, rfl, congrArg (AVal.int .i64) ?_, rfl⟩; (repeat' (split at he)) <;> omega) | (exfalso; (repeat' (split at he)) <;> omega))
          all_goals (refine ⟨(fs.getD i default).name, rfl, hnl, ?_⟩; rw [hnm])
          all_goals
            repeat' (first | (refine And.intro ?_ ?_) | (intro h; (try first | replace h := of_decide_eq_true h | replace h := of_decide_eq_false h); (try simp only [sg] at h); (try simp only [sx, ↓reduceIte, Nat.reduceAdd, reduceCtorEq, Int.reduceLT, Int.reduceLE, Int.reduceSub, Nat.reduceEqDiff, Nat.reduceLT] at h); try exact nz h))
            all_goals (try exact cz)
          all_goals (try first | (refine ⟨_, reb_flat [2] rfl, _, rfl, congrArg (AVal.int .i64) ?_, rfl⟩; (repeat' (split at he)) <;> omega) | (exfalso; (repeat' (split at he)) <;> omega))
          all_goals (refine ⟨fs, parentsF fs, i, rfl, ⟨hin, hpl, hl⟩, ?_⟩; rw [htw])
          all_goals
            repeat' (first | (refine And.intro ?_ ?_) | (intro h; (try first | replace h := of_decide_eq_true h | replace h := of_decide_eq_false h); (try simp only [sg] at h); (try simp only [sx, ↓reduceIte, Nat.reduceAdd, reduceCtorEq, Int.reduceLT, Int.reduceLE, Int.reduceSub, Nat.reduceEqDiff, Nat.reduceLT] at h); try exact nz h))
            all_goals (try exact cz)
          all_goals (try first | (refine ⟨_, reb_flat [2] rfl, _, rfl, congrArg (AVal.int .i64) ?_, rfl⟩; (repeat' (split at he)) <;> omega) | (exfalso; (repeat' (split at he)) <;> omega))
  · obtain rfl : i = fs.length := by omega
    rw [Nat.sub_self] at hc
    rw [← hc, rFrom]
    by_cases hke : k = fs.length - 1
    · rw [if_neg (fun h => h hke)]
      repeat' (first | (refine And.intro ?_ ?_) | (intro h; (try first | replace h := of_decide_eq_true h | replace h := of_decide_eq_false h); (try simp only [sg] at h); (try simp only [sx, ↓reduceIte, Nat.reduceAdd, reduceCtorEq, Int.reduceLT, Int.reduceLE, Int.reduceSub, Nat.reduceEqDiff, Nat.reduceLT] at h); try exact nz h))
      all_goals (try exact cz)
      exact ⟨_, reb_flat [2] rfl, _, rfl, rfl, rfl⟩
    · rw [if_pos hke]
      repeat' (first | (refine And.intro ?_ ?_) | (intro h; (try first | replace h := of_decide_eq_true h | replace h := of_decide_eq_false h); (try simp only [sg] at h); (try simp only [sx, ↓reduceIte, Nat.reduceAdd, reduceCtorEq, Int.reduceLT, Int.reduceLE, Int.reduceSub, Nat.reduceEqDiff, Nat.reduceLT] at h); try exact nz h))
      all_goals (try exact cz)
      exact ⟨_, reb_flat [2] rfl, _, rfl, rfl, rfl⟩
def S_rcheck : SpecI := fun args K => ∃ fs, args = [vF fs] ∧ FsOk fs ∧ K (.int .i64 (rcheckF fs))
theorem rcheck_ok [Syms] : ImmOk Try.prog 33 S_rcheck := by
  rintro args K ⟨fs, rfl, h, hk⟩
  exact ⟨rfl, _, rfl, hk, fnI tys_ok fns_ok cLd_det cRc_ok mixed (rcheck_t fs h)⟩
end Go.Proofs.Ytjffmehcbaechaa
