/-
  The document's 'one': a field of a group; with it the parser's recursion.
-/
import Derived.Test.YtjffmehcbaechaaTxtRGroup
set_option linter.unusedVariables false
set_option linter.unusedSimpArgs false
namespace Go.Proofs.Ytjffmehcbaechaa
open Go Go.Av
set_option maxRecDepth 100000
set_option maxHeartbeats 4000000
/-! ### 'which', among words that lie in a block of the caller's -/
theorem whichO_t [Syms] {Post : AVal → Heap → Nat → Prop} (l : List Wd) (w : Wd) (hl : l.length < 1000) (hP : Post (.int .i64 (idxW l w)) [] 1) :
    fnT noneT noneT (fnTab fns) (tyTab tys) (plTab plt) 100 61 [.str w, .slice 0 0 l.length 1 none] [(0, some (.cells (l.map encS) false))] 1 Post := by
  repeat' (first | (refine And.intro ?_ ?_) | (intro h; (try first | replace h := of_decide_eq_true h | replace h := of_decide_eq_false h); (try simp only [sg] at h); (try simp only [sx, ↓reduceIte, Nat.reduceAdd, reduceCtorEq, Int.reduceLT, Int.reduceLE, Int.reduceSub, Nat.reduceEqDiff, Nat.reduceLT] at h); try exact nz h))
  all_goals (try exact cz)
  refine ⟨fun m s => ∃ k : Nat, (k ≤ l.length ∧ m = l.length - k ∧ ∀ j, j < k → l.getD j [] ≠ w) ∧ s = ⟨[(1, vW l), (0, .str w), (5, .int .i64 k)], [], 1⟩, ⟨_, ⟨[(1, vW l), (0, .str w), (5, .int .i64 (0 : Nat))], [], 1⟩, ?_, 0, ⟨by omega, rfl, fun j h => by omega⟩, rfl⟩, ?_⟩
  · refine reb_own_keep (k := 1) (enc := encS) [] (l := l) [(0, .str w), (5, .int .i64 (0 : Nat))] [] rfl rfl (fS l) ?_ ?_ ?_ ?_
    · exact List.take_of_length_le (by rw [List.length_map]; exact Nat.le_refl _)
    · rw [List.length_map]; exact Nat.le_refl _
    · intro p hp
      simp at hp
      rcases hp with rfl | rfl
      · exact ⟨(by show (0 : Nat) ≠ 1; decide), rfl⟩
      · exact ⟨(by show (5 : Nat) ≠ 1; decide), rfl⟩
    · intro n b h; rw [Heap.get_nil] at h; cases h
  rintro m s ⟨k, ⟨hk, rfl, hj⟩, rfl⟩
  by_cases hin : k < l.length
  · have hx1 := eqb_eq (l.getD k []) w
    by_cases hw : l.getD k [] = w
    · rw [decide_eq_true hw] at hx1
      repeat' (first | (refine And.intro ?_ ?_) | (intro h; (try first | replace h := of_decide_eq_true h | replace h := of_decide_eq_false h); (try simp only [sg, hx1] at h); (try simp only [sx, ↓reduceIte, Nat.reduceAdd, reduceCtorEq, Int.reduceLT, Int.reduceLE, Int.reduceSub, Nat.reduceEqDiff, Nat.reduceLT] at h); try exact nz h))
      all_goals (try exact cz)
      all_goals (try exact absurd (show eqb (l.getD k []) w = false from ‹_›) (by rw [hx1]; decide))
      exact ⟨⟨[(4, .int .i64 (idxW l w))], [], 1⟩, reb_num [0] (by first | rfl | kernel_rfl) ⟨wk_int (idxW_at hin hw hj).symm, trivial⟩ trivial, _, rfl, hP⟩
    · rw [decide_eq_false hw] at hx1
      repeat' (first | (refine And.intro ?_ ?_) | (intro h; (try first | replace h := of_decide_eq_true h | replace h := of_decide_eq_false h); (try simp only [sg, hx1] at h); (try simp only [sx, ↓reduceIte, Nat.reduceAdd, reduceCtorEq, Int.reduceLT, Int.reduceLE, Int.reduceSub, Nat.reduceEqDiff, Nat.reduceLT] at h); try exact nz h))
      all_goals (try exact cz)
      all_goals (try exact absurd (show eqb (l.getD k []) w = true from ‹_›) (by rw [hx1]; decide))
      refine ⟨_, ⟨[(1, vW l), (0, .str w), (5, .int .i64 (k + 1 : Nat))], [], 1⟩, reb_num [0] (by first | rfl | kernel_rfl) ⟨.refl _, .refl _, .refl _, trivial⟩ trivial, ⟨k + 1, ⟨by omega, rfl, fun j hlt => ?_⟩, rfl⟩, by omega⟩
      rcases Nat.lt_or_ge j k with h' | h'
      · exact hj j h'
      · obtain rfl : j = k := by omega
        exact hw
  · repeat' (first | (refine And.intro ?_ ?_) | (intro h; (try first | replace h := of_decide_eq_true h | replace h := of_decide_eq_false h); (try simp only [sg] at h); (try simp only [sx, ↓reduceIte, Nat.reduceAdd, reduceCtorEq, Int.reduceLT, Int.reduceLE, Int.reduceSub, Nat.reduceEqDiff, Nat.reduceLT] at h); try exact nz h))
    all_goals (try exact cz)
    exact ⟨⟨[(4, .int .i64 (idxW l w))], [], 1⟩, reb_num [0] (by first | rfl | kernel_rfl) ⟨wk_int (idxW_none fun j hjl => hj j (by omega)).symm, trivial⟩ trivial, _, rfl, hP⟩
def S_whichO : SpecT := fun args H nx Post => ∃ (l : List Wd) (w : Wd), args = [.str w, .slice 0 0 l.length 1 none] ∧ H = [(0, some (.cells (l.map encS) false))] ∧ nx = 1 ∧ l.length < 1000 ∧ Post (.int .i64 (idxW l w)) [] 1
theorem whichO_ok [Syms] : S_whichO.ok Try.prog 61 := by
  rintro args H nx Post ⟨l, w, rfl, rfl, rfl, h1, h2⟩
  exact fnT_sound tys_ok fns_ok noneT_det noneT_ok mixed (whichO_t l w h1 h2)
abbrev cROn (n : Nat) : CallT := pickT 48 (specT S_rnext) (pickT 32 (specT S_rfail) (pickT 29 (specT S_rmust) (pickT 61 (specT S_whichO) (pickT 30 (specT S_rfield) (pickT 31 (specT (S_group n)) noneT)))))
theorem cROn_ok [Syms] {n : Nat} (h : (S_group n).ok Try.prog 31) : (cROn n).ok Try.prog := pickT_spec rnext_ok (pickT_spec rfail_ok (pickT_spec rmust_ok (pickT_spec whichO_ok (pickT_spec rfield_ok (pickT_spec h noneT_ok)))))
theorem kids_map {fs : List Fd} {a : Nat} {c : Int} (h : a < fs.length) : (fs.map encF).set a (splice ((fs.map encF).getD a []) 3 [.int .i64 c]) = (fs.set a { fs.getD a default with kids := c }).map encF := by
  rw [row_at encF default h, List.map_set]
  rfl
theorem one_t [Syms] {Post : AVal → Heap → Nat → Prop} (n : Nat) (W : List Wd) (σ τ : PS) (d : Int) (hS : Suf W σ) (hW : WOk W) (hl : σ.fs.length ≤ 40) (h0 : 0 < σ.fs.length) (hd0 : 0 ≤ d) (hd9 : d ≤ 9) (hnd : 10 ≤ (n + 1 : Nat) + d) (hτ : roneP (n + 1) d σ = τ)
    (hP1 : Post (.tup []) (rH 1 W τ) 2) (hP2 : Post (.tup []) (rH 2 W τ) 3) :
    fnT noneT (cROn n) (fnTab fns) (tyTab tys) (plTab plt) 100 50 [.ptr 0 0 0, .int .i64 d] (rH 1 W σ) 2 Post := by
  have hx1 : ∀ (ρ : Nat → Nat) (W : List Wd) (a : Int) (sv : AVal) (e : Int), asI (((List.map (AVal.renL ρ) [[vW W, .int .i64 a, sv, AVal.int .i64 e]]).getD 0 []).getD 3 AVal.any) = e := fun _ _ _ _ _ => rfl
  rw [roneP] at hτ
  have hS1 := hS.next
  have hS2 := hS1.next
  repeat' (first | (refine And.intro ?_ ?_) | (intro h; (try first | replace h := of_decide_eq_true h | replace h := of_decide_eq_false h); (try simp only [sg, hx1] at h); (try simp only [sx, ↓reduceIte, Nat.reduceAdd, reduceCtorEq, Int.reduceLT, Int.reduceLE, Int.reduceSub, Nat.reduceEqDiff, Nat.reduceLT] at h); try exact nz h))
  all_goals (try exact cz)
  refine ⟨[0, 1], [.ptr 0 0 0], [(0, rP W σ (.slice 1 0 σ.fs.length 4 none))], rfl, ⟨.refl _, trivial⟩, ⟨⟨by decide, _, rfl, wkR rfl (svOk_slice _ _ _ _ _)⟩, trivial⟩, W, σ, .slice 1 0 σ.fs.length 4 none, rfl, rfl, rfl, ⟨svOk_slice _ _ _ _, hS⟩, ?_⟩
  obtain ⟨w1, e1, hn1⟩ := ps_fs (nextP_fs σ)
  repeat' (first | (refine And.intro ?_ ?_) | (intro h; (try first | replace h := of_decide_eq_true h | replace h := of_decide_eq_false h); (try simp only [sg, hx1] at h); (try simp only [sx, ↓reduceIte, Nat.reduceAdd, reduceCtorEq, Int.reduceLT, Int.reduceLE, Int.reduceSub, Nat.reduceEqDiff, Nat.reduceLT] at h); try exact nz h))
  all_goals (try exact cz)
  refine ⟨[4], [.str (nextW σ), .slice 0 0 3 1 none], [(0, some (.cells (kwReps.map encS) false))], rfl, ⟨.refl _, wk_slc rfl, trivial⟩, ⟨⟨by decide, _, rfl, wkB_eq rfl (fS kwReps)⟩, trivial⟩, kwReps, nextW σ, rfl, rfl, rfl, by decide, ?_⟩
  generalize hr : idxW kwReps (nextW σ) = r at *
  by_cases hr0 : r < 0
  · rw [if_pos hr0] at hτ
    obtain ⟨w2, e2, hn2⟩ := ps_fs (show (failP (nextP σ) 6).fs = σ.fs by rw [failP_fs, nextP_fs])
    rw [hn2] at hτ
    subst hτ
    repeat' (first | (refine And.intro ?_ ?_) | (intro h; (try first | replace h := of_decide_eq_true h | replace h := of_decide_eq_false h); (try simp only [sg, hx1] at h); (try simp only [sx, ↓reduceIte, Nat.reduceAdd, reduceCtorEq, Int.reduceLT, Int.reduceLE, Int.reduceSub, Nat.reduceEqDiff, Nat.reduceLT] at h); try exact nz h))
    all_goals (try exact cz)
    refine ⟨[0, 1], [.ptr 0 0 0, .int .i64 6], [(0, rP W (nextP σ) (.slice 1 0 σ.fs.length 4 none))], rfl, ⟨.refl _, .refl _, trivial⟩, ⟨⟨by decide, _, rfl, .refl _⟩, trivial⟩, W, nextP σ, .slice 1 0 σ.fs.length 4 none, 6, rfl, rfl, rfl, svOk_slice _ _ _ _, ?_⟩
    rw [hn2]
    repeat' (first | (refine And.intro ?_ ?_) | (intro h; (try first | replace h := of_decide_eq_true h | replace h := of_decide_eq_false h); (try simp only [sg, hx1] at h); (try simp only [sx, ↓reduceIte, Nat.reduceAdd, reduceCtorEq, Int.reduceLT, Int.reduceLE, Int.reduceSub, Nat.reduceEqDiff, Nat.reduceLT] at h); try exact nz h))
    all_goals (try exact cz)
    exact ⟨⟨[], rH 1 W ⟨w2, σ.fs, e2⟩, 2⟩, reb_num [0, 1] (by first | rfl | kernel_rfl) trivial ⟨⟨by decide, _, rfl, .refl _⟩, ⟨by decide, _, rfl, wkB_same (fF _)⟩, trivial⟩, _, rfl, hP1⟩
  · rw [if_neg hr0] at hτ
    repeat' (first | (refine And.intro ?_ ?_) | (intro h; (try first | replace h := of_decide_eq_true h | replace h := of_decide_eq_false h); (try simp only [sg, hx1] at h); (try simp only [sx, ↓reduceIte, Nat.reduceAdd, reduceCtorEq, Int.reduceLT, Int.reduceLE, Int.reduceSub, Nat.reduceEqDiff, Nat.reduceLT] at h); try exact nz h))
    all_goals (try exact cz)
    refine ⟨[0, 1], [.ptr 0 0 0], [(0, rP W (nextP σ) (.slice 1 0 σ.fs.length 4 none))], rfl, ⟨.refl _, trivial⟩, ⟨⟨by decide, _, rfl, .refl _⟩, trivial⟩, W, nextP σ, .slice 1 0 σ.fs.length 4 none, rfl, rfl, rfl, ⟨svOk_slice _ _ _ _, hS1⟩, ?_⟩
    repeat' (first | (refine And.intro ?_ ?_) | (intro h; (try first | replace h := of_decide_eq_true h | replace h := of_decide_eq_false h); (try simp only [sg, hx1] at h); (try simp only [sx, ↓reduceIte, Nat.reduceAdd, reduceCtorEq, Int.reduceLT, Int.reduceLE, Int.reduceSub, Nat.reduceEqDiff, Nat.reduceLT] at h); try exact nz h))
    all_goals (try exact cz)
    refine ⟨[8], [.str (nextW (nextP σ)), .slice 0 0 5 1 none], [(0, some (.cells (kwKinds.map encS) false))], rfl, ⟨.refl _, wk_slc rfl, trivial⟩, ⟨⟨by decide, _, rfl, wkB_eq rfl (fS kwKinds)⟩, trivial⟩, kwKinds, nextW (nextP σ), rfl, rfl, rfl, by decide, ?_⟩
    generalize hq : idxW kwKinds (nextW (nextP σ)) = q at *
    have hf2 : (nextP (nextP σ)).fs = σ.fs := by rw [nextP_fs, nextP_fs]
    by_cases hq0 : q < 0
    · rw [if_pos hq0] at hτ
      obtain ⟨w2, e2, hn2⟩ := ps_fs (show (failP (nextP (nextP σ)) 6).fs = σ.fs by rw [failP_fs, hf2])
      rw [hn2] at hτ
      subst hτ
      repeat' (first | (refine And.intro ?_ ?_) | (intro h; (try first | replace h := of_decide_eq_true h | replace h := of_decide_eq_false h); (try simp only [sg, hx1] at h); (try simp only [sx, ↓reduceIte, Nat.reduceAdd, reduceCtorEq, Int.reduceLT, Int.reduceLE, Int.reduceSub, Nat.reduceEqDiff, Nat.reduceLT] at h); try exact nz h))
      all_goals (try exact cz)
      refine ⟨[0, 1], [.ptr 0 0 0, .int .i64 6], [(0, rP W (nextP (nextP σ)) (.slice 1 0 σ.fs.length 4 none))], rfl, ⟨.refl _, .refl _, trivial⟩, ⟨⟨by decide, _, rfl, .refl _⟩, trivial⟩, W, nextP (nextP σ), .slice 1 0 σ.fs.length 4 none, 6, rfl, rfl, rfl, svOk_slice _ _ _ _, ?_⟩
      rw [hn2]
      repeat' (first | (refine And.intro ?_ ?_) | (intro h; (try first | replace h := of_decide_eq_true h | replace h := of_decide_eq_false h); (try simp only [sg, hx1] at h); (try simp only [sx, ↓reduceIte, Nat.reduceAdd, reduceCtorEq, Int.reduceLT, Int.reduceLE, Int.reduceSub, Nat.reduceEqDiff, Nat.reduceLT] at h); try exact nz h))
      all_goals (try exact cz)
      exact ⟨⟨[], rH 1 W ⟨w2, σ.fs, e2⟩, 2⟩, reb_num [0, 1] (by first | rfl | kernel_rfl) trivial ⟨⟨by decide, _, rfl, .refl _⟩, ⟨by decide, _, rfl, wkB_same (fF _)⟩, trivial⟩, _, rfl, hP1⟩
    · rw [if_neg hq0] at hτ
      obtain ⟨w2, e2, hn2⟩ := ps_fs hf2
      rw [hn2] at hτ hS2
      rw [hn2]
      rw [rtailP] at hτ
      simp only at hτ
      repeat' (first | (refine And.intro ?_ ?_) | (intro h; (try first | replace h := of_decide_eq_true h | replace h := of_decide_eq_false h); (try simp only [sg, hx1] at h); (try simp only [sx, ↓reduceIte, Nat.reduceAdd, reduceCtorEq, Int.reduceLT, Int.reduceLE, Int.reduceSub, Nat.reduceEqDiff, Nat.reduceLT] at h); try exact nz h))
      all_goals (try exact cz)
      refine ⟨[0, 1], [.ptr 0 0 0, fArg r q, .int .i64 d], rH 1 W ⟨w2, σ.fs, e2⟩, rfl, ⟨.refl _, .refl _, .refl _, trivial⟩, ⟨⟨by decide, _, rfl, .refl _⟩, ⟨by decide, _, rfl, wkB_same (fF _)⟩, trivial⟩, W, ⟨w2, σ.fs, e2⟩, r, q, d, rfl, .inr ⟨fun h => by rw [show σ.fs = [] from h] at h0; exact absurd h0 (by simp), rfl, ?_⟩, rfl, ⟨hS2, hW, hl, by omega, by omega⟩, ?_⟩
      · intro he
        rw [if_pos he] at hτ
        obtain ⟨w3, e3, hh⟩ := ps_fs (show (headP d ⟨w2, σ.fs, e2⟩).fs = σ.fs from headP_ws_le d _)
        rw [hh] at hτ he ⊢
        subst hτ
        have he : e3 ≠ 0 := he
        repeat' (first | (refine And.intro ?_ ?_) | (intro h; (try first | replace h := of_decide_eq_true h | replace h := of_decide_eq_false h); (try simp only [sg, hx1] at h); (try simp only [sx, ↓reduceIte, Nat.reduceAdd, reduceCtorEq, Int.reduceLT, Int.reduceLE, Int.reduceSub, Nat.reduceEqDiff, Nat.reduceLT] at h); try exact nz h))
        all_goals (try exact cz)
        all_goals exact ⟨⟨[], rH 1 W ⟨w3, σ.fs, e3⟩, 2⟩, reb_num [0, 1] (by first | rfl | kernel_rfl) trivial ⟨⟨by decide, _, rfl, .refl _⟩, ⟨by decide, _, rfl, wkB_eq (ren_mapF _ _) (fF _)⟩, trivial⟩, _, rfl, hP1⟩
      · intro he
        have hn : ¬ (headP d ⟨w2, σ.fs, e2⟩).e ≠ 0 := fun h => h he
        rw [if_neg hn] at hτ
        obtain ⟨hnm, h40, hd8, _, _⟩ := headP_ok he
        have hS3 := hS2.head (d := d)
        obtain ⟨w3, e3, hh⟩ := ps_fs (show (headP d ⟨w2, σ.fs, e2⟩).fs = σ.fs from headP_ws_le d _)
        rw [hh] at hτ he hS3 ⊢
        have he : e3 = 0 := he
        subst he
        generalize hfd : (⟨nextW (⟨w2, σ.fs, e2⟩ : PS), r, q, 0⟩ : Fd) = fd at *
        have hl3 : (σ.fs ++ [fd]).length = σ.fs.length + 1 := by simp
        have hτ : (if q ≠ 0 then mustP [59] ⟨w3, σ.fs ++ [fd], 0⟩ else setK σ.fs.length (rgroupP (roneP n (d + 1)) ⟨w3, σ.fs ++ [fd], 0⟩).2 (rgroupP (roneP n (d + 1)) ⟨w3, σ.fs ++ [fd], 0⟩).1) = τ := hτ
        have hS4 : Suf W ⟨w3, σ.fs ++ [fd], 0⟩ := hS3.same rfl
        show _
        rw [show addP (⟨w3, σ.fs, 0⟩ : PS) fd = ⟨w3, σ.fs ++ [fd], 0⟩ from rfl]
        have h40 : σ.fs.length < 40 := h40
        by_cases hk : q = 0
        · rw [if_neg (show ¬ q ≠ 0 from fun h => h hk)] at hτ
          have hG := rgroup_ok (W := W) (g := roneP n (d + 1)) (fun τ => rone_ok n (d + 1) τ) ⟨w3, σ.fs ++ [fd], 0⟩ (by simp only; omega) hS4
          obtain ⟨υ, cc, hg⟩ : ∃ υ cc, rgroupP (roneP n (d + 1)) ⟨w3, σ.fs ++ [fd], 0⟩ = (υ, cc) := ⟨_, _, rfl⟩
          rw [hg] at hτ hG
          have hup : σ.fs.length < υ.fs.length := by have := hG.up; simp only at this; omega
          have htop : υ.fs.length ≤ 40 := hG.top
          have hk2 : rH 2 W (setK σ.fs.length cc υ) = [(0, rP W (setK σ.fs.length cc υ) (.slice 2 0 υ.fs.length 4 none)), (2, sB (υ.fs.set σ.fs.length { υ.fs.getD σ.fs.length default with kids := (cc : Int) }))] := by
            unfold rH
            rw [setK_len]
            rfl
          rw [← hτ, hk2] at hP2
          repeat' (first | (refine And.intro ?_ ?_) | (intro h; (try first | replace h := of_decide_eq_true h | replace h := of_decide_eq_false h); (try simp only [sg, hx1] at h); (try simp only [sx, ↓reduceIte, Nat.reduceAdd, reduceCtorEq, Int.reduceLT, Int.reduceLE, Int.reduceSub, Nat.reduceEqDiff, Nat.reduceLT] at h); try exact nz h))
          all_goals (try exact cz)
          refine ⟨[0, 12], [.ptr 0 0 0, .int .i64 (d + 1)], rH 1 W ⟨w3, σ.fs ++ [fd], 0⟩, rfl, ⟨.refl _, .refl _, trivial⟩, ⟨⟨by decide, _, rfl, ?_⟩, ⟨by decide, _, rfl, wkB_eq (ren_mapF _ _) (fF _)⟩, trivial⟩, W, ⟨w3, σ.fs ++ [fd], 0⟩, d + 1, rfl, rfl, rfl, ⟨hS4, hW, by simp only; omega, by simp only; omega, by omega, by omega, by omega⟩, ?_⟩
          · show WkB (.cells [[vW W, _, .slice 12 0 (σ.fs.length + 1) 4 none, _]] false) (.cells [[vW W, _, .slice 12 0 (σ.fs ++ [fd]).length 4 none, _]] false)
            rw [hl3]
            exact .refl _
          rw [hg]
          refine ⟨?_, ?_⟩
          · repeat' (first | (refine And.intro ?_ ?_) | (intro h; (try first | replace h := of_decide_eq_true h | replace h := of_decide_eq_false h); (try simp only [sg, hx1] at h); (try simp only [sx, ↓reduceIte, Nat.reduceAdd, reduceCtorEq, Int.reduceLT, Int.reduceLE, Int.reduceSub, Nat.reduceEqDiff, Nat.reduceLT] at h); try exact nz h))
            all_goals (try exact cz)
            · show 0 + 3 + 1 ≤ ((List.map (AVal.renL _) (υ.fs.map encF)).getD (0 + σ.fs.length) []).length
              rw [ren_mapF, Nat.zero_add σ.fs.length, row_at encF default hup]
              exact Nat.le_refl 4
            · refine ⟨⟨[], [(0, rP W (setK σ.fs.length cc υ) (.slice 2 0 υ.fs.length 4 none)), (2, sB (υ.fs.set σ.fs.length { υ.fs.getD σ.fs.length default with kids := (cc : Int) }))], 3⟩, reb_num [0, 1, 12] (by first | rfl | kernel_rfl) trivial ⟨⟨by decide, _, rfl, .refl _⟩, ⟨by decide, _, rfl, wkB_eq ?_ (fF _)⟩, trivial⟩, _, rfl, hP2⟩
              show ((List.map (AVal.renL _) (υ.fs.map encF)).set (0 + σ.fs.length) (splice ((List.map (AVal.renL _) (υ.fs.map encF)).getD (0 + σ.fs.length) []) (0 + 3) [.int .i64 (cc : Nat)])) = _
              rw [ren_mapF, Nat.zero_add]
              exact kids_map hup
          · repeat' (first | (refine And.intro ?_ ?_) | (intro h; (try first | replace h := of_decide_eq_true h | replace h := of_decide_eq_false h); (try simp only [sg, hx1] at h); (try simp only [sx, ↓reduceIte, Nat.reduceAdd, reduceCtorEq, Int.reduceLT, Int.reduceLE, Int.reduceSub, Nat.reduceEqDiff, Nat.reduceLT] at h); try exact nz h))
            all_goals (try exact cz)
            · show 0 + 3 + 1 ≤ ((List.map (AVal.renL _) (υ.fs.map encF)).getD (0 + σ.fs.length) []).length
              rw [ren_mapF, Nat.zero_add σ.fs.length, row_at encF default hup]
              exact Nat.le_refl 4
            · refine ⟨⟨[], [(0, rP W (setK σ.fs.length cc υ) (.slice 2 0 υ.fs.length 4 none)), (2, sB (υ.fs.set σ.fs.length { υ.fs.getD σ.fs.length default with kids := (cc : Int) }))], 3⟩, reb_num [0, 1, 15] (by first | rfl | kernel_rfl) trivial ⟨⟨by decide, _, rfl, .refl _⟩, ⟨by decide, _, rfl, wkB_eq ?_ (fF _)⟩, trivial⟩, _, rfl, hP2⟩
              show ((List.map (AVal.renL _) (υ.fs.map encF)).set (0 + σ.fs.length) (splice ((List.map (AVal.renL _) (υ.fs.map encF)).getD (0 + σ.fs.length) []) (0 + 3) [.int .i64 (cc : Nat)])) = _
              rw [ren_mapF, Nat.zero_add]
              exact kids_map hup
        · rw [if_pos hk] at hτ
          obtain ⟨w4, e4, hm⟩ := ps_fs (show (mustP [59] ⟨w3, σ.fs ++ [fd], 0⟩).fs = σ.fs ++ [fd] from mustP_fs _ _)
          repeat' (first | (refine And.intro ?_ ?_) | (intro h; (try first | replace h := of_decide_eq_true h | replace h := of_decide_eq_false h); (try simp only [sg, hx1] at h); (try simp only [sx, ↓reduceIte, Nat.reduceAdd, reduceCtorEq, Int.reduceLT, Int.reduceLE, Int.reduceSub, Nat.reduceEqDiff, Nat.reduceLT] at h); try exact nz h))
          all_goals (try exact cz)
          refine ⟨[0, 12], [.ptr 0 0 0, .str [59]], [(0, rP W ⟨w3, σ.fs ++ [fd], 0⟩ (.slice 1 0 (σ.fs.length + 1) 4 none))], rfl, ⟨.refl _, .refl _, trivial⟩, ⟨⟨by decide, _, rfl, .refl _⟩, trivial⟩, W, ⟨w3, σ.fs ++ [fd], 0⟩, .slice 1 0 (σ.fs.length + 1) 4 none, [59], rfl, rfl, rfl, ⟨svOk_slice _ _ _ _, hS4⟩, ?_⟩
          rw [hm] at hτ ⊢
          subst hτ
          repeat' (first | (refine And.intro ?_ ?_) | (intro h; (try first | replace h := of_decide_eq_true h | replace h := of_decide_eq_false h); (try simp only [sg, hx1] at h); (try simp only [sx, ↓reduceIte, Nat.reduceAdd, reduceCtorEq, Int.reduceLT, Int.reduceLE, Int.reduceSub, Nat.reduceEqDiff, Nat.reduceLT] at h); try exact nz h))
          all_goals (try exact cz)
          have hk2 : rH 2 W ⟨w4, σ.fs ++ [fd], e4⟩ = [(0, rP W ⟨w4, σ.fs ++ [fd], e4⟩ (.slice 2 0 (σ.fs.length + 1) 4 none)), (2, sB (σ.fs ++ [fd]))] := by
            unfold rH
            simp only [hl3]
          rw [hk2] at hP2
          exact ⟨⟨[], [(0, rP W ⟨w4, σ.fs ++ [fd], e4⟩ (.slice 2 0 (σ.fs.length + 1) 4 none)), (2, sB (σ.fs ++ [fd]))], 3⟩, reb_num [0, 1, 12] (by first | rfl | kernel_rfl) trivial ⟨⟨by decide, _, rfl, .refl _⟩, ⟨by decide, _, rfl, wkB_eq (ren_mapF _ _) (fF _)⟩, trivial⟩, _, rfl, hP2⟩
theorem one_ok [Syms] : ∀ n, (S_one n).ok Try.prog 50
  | 0 => by
    rintro args H nx Post ⟨W, σ, d, _, _, _, ⟨_, _, _, _, _, h1, h2⟩, _⟩
    omega
  | n + 1 => by
    rintro args H nx Post ⟨W, σ, d, rfl, rfl, rfl, ⟨h1, h2, h3, h4, h5, h6, h7⟩, h8, h9⟩
    exact fnT_sound tys_ok fns_ok noneT_det (cROn_ok (group_ok (one_ok n))) mixed (one_t n W σ _ d h1 h2 h3 h4 h5 h6 h7 rfl h8 h9)
theorem rgroup_all [Syms] (n : Nat) : (S_group n).ok Try.prog 31 := group_ok (one_ok n)
end Go.Proofs.Ytjffmehcbaechaa
