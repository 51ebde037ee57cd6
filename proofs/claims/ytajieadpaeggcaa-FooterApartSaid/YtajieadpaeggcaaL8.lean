/-
  'Leaves': the fields that are no groups. What is asked of the function of leaves, and what it answers. The program's.
-/
import Derived.Test.YtajieadpaeggcaaL2
import Derived.Test.YtajieadpaeggcaaL3
set_option linter.unusedVariables false
set_option linter.unusedSimpArgs false
section
set_option linter.unusedVariables false
set_option linter.unusedSimpArgs false
namespace Go.Proofs.Ytajieadpaeggcaa
open Go Go.Av
set_option maxRecDepth 100000
set_option maxHeartbeats 4000000
def lRows (lv : List Lf) (n : Nat) : List (List AVal) := lv.map encL ++ List.replicate (n - lv.length) (encL lf0)
def lE (fs : List Fd) (ps : List Int) (n i : Nat) (out : AVal) : Env := [(0, vF fs), (3, vI ps), (4, .slice 0 0 n 4 none), (5, out), (15, vF fs), (16, .int .i64 n), (17, .int .i64 i)]
def lA (fs : List Fd) (ps : List Int) (n i : Nat) : St := ⟨lE fs ps n i .nils, [(0, some (.cells (lRows (lvRun fs ps i) n) false))], 1⟩
def lB (fs : List Fd) (ps : List Int) (n i : Nat) : St := ⟨lE fs ps n i (.slice 1 0 (lvOut fs ps i).length 4 none), [(0, some (.cells (lRows (lvRun fs ps i) n) false)), (1, some (.cells ((lvOut fs ps i).map encL) false))], 2⟩
theorem fL_rep (n : Nat) : flatRows (List.replicate n (encL lf0)) := fun r hr x hx => by
 rw [List.eq_of_mem_replicate hr] at hx
 simp [encL] at hx; rcases hx with rfl | rfl | rfl | rfl <;> rfl
theorem fLR (lv : List Lf) (n : Nat) : flatRows (lRows lv n) := flat_append (fL _) (fL_rep _)
theorem lRows_len {lv : List Lf} {n : Nat} (h : lv.length ≤ n) : (lRows lv n).length = n := by simp [lRows]; omega
theorem lRows_at {lv : List Lf} {n p : Nat} (h : p < lv.length) : (lRows lv n).getD p [] = encL (lv.getD p default) := by
 simp [lRows, List.getD_eq_getElem?_getD, List.getElem?_append_left, h]
theorem lRows_end {lv : List Lf} {n : Nat} (h : lv.length < n) : (lRows lv n).getD lv.length [] = encL lf0 := by
 obtain ⟨m, hm⟩ : ∃ m, n - lv.length = m + 1 := ⟨n - lv.length - 1, by omega⟩
 simp [lRows, List.getD_eq_getElem?_getD, hm, List.replicate_succ]
theorem lRows_set {lv : List Lf} {n : Nat} (h : lv.length < n) (x : Lf) : (lRows lv n).set lv.length (encL x) = lRows (lv ++ [x]) n := by
 obtain ⟨m, hm⟩ : ∃ m, n - lv.length = m + 1 := ⟨n - lv.length - 1, by omega⟩
 simp only [lRows, hm, List.replicate_succ]
 rw [List.set_append_right (h := by simp)]
 simp
 omega
theorem lv_next {fs : List Fd} {ps : List Int} {n i : Nat} {x y z w : Int} (h : i < n) (hM : mkL fs ps (lvRun fs ps i) i = ⟨x, y, z, w⟩) :
 (lRows (lvRun fs ps i) n).set (0 + i) (splice ((lRows (lvRun fs ps i) n).getD (0 + i) []) 0 [.int .i64 x, .int .i64 y, .int .i64 z, .int .i64 w]) = lRows (lvRun fs ps (i + 1)) n := by
 have h1 := lRows_end (lv := lvRun fs ps i) (n := n) (by rw [lvRun_length]; exact h)
 have h2 := lRows_set (lv := lvRun fs ps i) (n := n) (by rw [lvRun_length]; exact h) ⟨x, y, z, w⟩
 rw [lvRun_length] at h1 h2
 rw [Nat.zero_add, h1, lvRun, hM, ← h2]
 rfl
def lBase (fs : List Fd) (ps : List Int) (i : Nat) : Lf := (lvRun fs ps i).getD (ps.getD i 0).toNat default
def lS (fs : List Fd) (ps : List Int) (i : Nat) (b : Bool) : St := match b with
 | false => ⟨lE fs ps fs.length i .nils ++ [(6, .int .i64 i), (7, .ptr 1 0 0), (8, .ptr 2 0 0), (9, .int .i64 (ps.getD i 0))], [(0, some (.cells (lRows (lvRun fs ps i) fs.length) false)), (1, some (.cells [encF (fs.getD i default)] false)), (2, some (.cells [encL ⟨i, (lBase fs ps i).r, (lBase fs ps i).d, (fs.getD i default).kind⟩] false))], 3⟩
 | true => ⟨lE fs ps fs.length i (.slice 1 0 (lvOut fs ps i).length 4 none) ++ [(6, .int .i64 i), (7, .ptr 2 0 0), (8, .ptr 3 0 0), (9, .int .i64 (ps.getD i 0))], [(0, some (.cells (lRows (lvRun fs ps i) fs.length) false)), (1, some (.cells ((lvOut fs ps i).map encL) false)), (2, some (.cells [encF (fs.getD i default)] false)), (3, some (.cells [encL ⟨i, (lBase fs ps i).r, (lBase fs ps i).d, (fs.getD i default).kind⟩] false))], 4⟩
def lInv (fs : List Fd) (ps : List Int) (n : Nat) (m : Nat) (s : St) : Prop := ∃ i : Nat, (i ≤ n ∧ m = n - i) ∧ ((lvOut fs ps i = [] ∧ s = lA fs ps n i) ∨ s = lB fs ps n i)
theorem leaves_t [Syms] (fs : List Fd) (hF : FsOk fs) :
 fnT noneT (pickT 73 (immT S_par) (pickT 74 (tB noneT noneT) noneT)) (fnTab fns) (tyTab tys) (plTab plt) 100 44 [vF fs] [] 0 (fun v H _ => v = vL (leavesF fs) ∧ H = []) := by
 have hl := hF.len
 refine ⟨fs, rfl, hF, ?_⟩
 have hpl := parents_length fs
 have ha := parents_ahead fs
 unfold leavesF
 generalize parentsF fs = ps at *
 repeat' (first | (refine And.intro ?_ ?_) | (intro h; try simp only [decide_eq_true_eq, decide_eq_false_iff_not, Int.not_lt, Int.not_le, Int.toNat_natCast, ↓reduceIte, Nat.reduceAdd, reduceCtorEq, Int.reduceLT, Int.lt_irrefl, gt_iff_lt, not_true_eq_false, not_false_eq_true, Bool.not_true, Bool.not_false, decide_false, decide_true, Int.reduceLE, Int.reduceSub, Bool.false_eq_true, Bool.true_eq_false, Nat.reduceEqDiff, Nat.one_ne_zero, Nat.reduceLT, and_self, and_true, true_and, Int.natCast_zero, Int.cast_ofNat_Int, List.length_nil, ne_eq, Decidable.not_not] at h))
 all_goals (try first | exact PlanIs.mk (by kernel_rfl) | omega | (show (_ : Int) * ((32 : Nat) : Int) ≤ _; omega) | (show (_ : Int) * ((8 : Nat) : Int) ≤ _; omega) | (show (_ : Int) * ((24 : Nat) : Int) ≤ _; omega) | exact rfl | exact Nat.le_of_ble_eq_true rfl | (show (_ : Nat) ≤ (_ : Nat); simp; done) | (show (_ : Nat) ≤ (_ : Nat); simp; omega))
 refine ⟨lInv fs ps fs.length, ⟨_, lA fs ps fs.length 0, reb_num [0] rfl ?_ ?_, 0, ⟨by omega, rfl⟩, .inl ⟨rfl, rfl⟩⟩, ?_⟩
 ·exact ⟨.refl _, .refl _, .cap _ _ _ _ _, .refl _, .refl _, .refl _, .refl _, trivial⟩
 ·exact ⟨⟨by decide, _, rfl, wkB_eq rfl (fLR _ _)⟩, trivial⟩
 rintro m s ⟨i, ⟨hi, rfl⟩, (⟨h0, rfl⟩ | rfl)⟩
 ·have hol := lvOut_len_le fs ps i
  have hll := lvRun_length fs ps i
  by_cases hin : i < fs.length
  ·have hxi : (lRows (lvRun fs ps i) fs.length).getD i [] = encL lf0 := by have := lRows_end (lv := lvRun fs ps i) (n := fs.length) (by rw [lvRun_length]; exact hin); rwa [lvRun_length] at this
   have hq := ha i hin
   have hln : (lRows (lvRun fs ps i) fs.length).length = fs.length := lRows_len (by omega)
   rcases Int.lt_or_le (ps.getD i 0) 0 with hp | hp
   ·have hB : baseL (lvRun fs ps i) (ps.getD i 0) = lf0 := by rw [baseL, if_neg (by omega)]
    repeat' (first | (refine And.intro ?_ ?_) | (intro h; (try first | replace h := of_decide_eq_true h | replace h := of_decide_eq_false h); (try simp only [asI_int, asS_str, asB_bool, encI_0, encI_00, encF_0, encF_1, encF_2, encF_3, encF_00, encF_01, encF_02, encF_03, encL_0, encL_1, encL_2, encL_3, encL_00, encL_01, encL_02, encL_03, Nat.zero_add, Nat.add_zero, Int.toNat_natCast, Int.toNat_zero] at h); try simp only [decide_eq_true_eq, decide_eq_false_iff_not, Int.not_lt, Int.not_le, Int.toNat_natCast, ↓reduceIte, Nat.reduceAdd, reduceCtorEq, Int.reduceLT, Int.lt_irrefl, gt_iff_lt, not_true_eq_false, not_false_eq_true, Bool.not_true, Bool.not_false, decide_false, decide_true, Int.reduceLE, Int.reduceSub, Bool.false_eq_true, Bool.true_eq_false, Nat.reduceEqDiff, Nat.one_ne_zero, Nat.reduceLT, and_self, and_true, true_and, Int.natCast_zero, Int.cast_ofNat_Int, List.length_nil, ne_eq, Decidable.not_not] at h))
    all_goals (try first | exact PlanIs.mk (by kernel_rfl) | omega | (show (_ : Int) * ((32 : Nat) : Int) ≤ _; omega) | (show (_ : Int) * ((8 : Nat) : Int) ≤ _; omega) | (show (_ : Int) * ((24 : Nat) : Int) ≤ _; omega) | exact rfl | exact Nat.le_of_ble_eq_true rfl | (show (_ : Nat) ≤ (_ : Nat); simp; done) | (show (_ : Nat) ≤ (_ : Nat); simp; omega))
    all_goals (try first | (show (-9223372036854775808 : Int) ≤ lf0.r + 1; first | decide | omega) | (show (-9223372036854775808 : Int) ≤ lf0.d + 1; first | decide | omega) | (show lf0.r + 1 ≤ (9223372036854775807 : Int); first | decide | omega) | (show lf0.d + 1 ≤ (9223372036854775807 : Int); first | decide | omega))
    all_goals (try first | (show 0 + i < (lRows (lvRun fs ps i) fs.length).length; rw [hln]; omega) | (show 0 + 4 ≤ (List.length ((lRows (lvRun fs ps i) fs.length).getD (0 + i) [])); rw [Nat.zero_add i, hxi]; exact Nat.le_refl 4))
    all_goals first
    | (have hr : (fs.getD i default).rep = 2 := by assumption
       have hk : (fs.getD i default).kind = 0 := by assumption
       have hM : mkL fs ps (lvRun fs ps i) i = ⟨i, lf0.r + 1, lf0.d + 1, (fs.getD i default).kind⟩ := by (simp only [mkL, hB]; rw [if_pos hr, if_pos (by omega)])
       refine ⟨_, lA fs ps fs.length (i + 1), reb_num [0] rfl ?_ ?_, ⟨i + 1, ⟨by omega, rfl⟩, .inl ⟨by rw [lvOut_succ, if_neg (by omega)]; exact h0, rfl⟩⟩, by omega⟩
       ·exact ⟨.refl _, .refl _, .refl _, .refl _, .refl _, .refl _, .refl _, trivial⟩
       ·refine ⟨⟨by decide, _, rfl, wkB_eq ?_ (fLR _ _)⟩, trivial⟩
        ·exact lv_next (x := i) (y := lf0.r + 1) (z := lf0.d + 1) (w := (fs.getD i default).kind) hin hM)
    | (have hr : (fs.getD i default).rep = 2 := by assumption
       have hk : ¬ (fs.getD i default).kind = 0 := by assumption
       have hM : mkL fs ps (lvRun fs ps i) i = ⟨i, lf0.r + 1, lf0.d + 1, (fs.getD i default).kind⟩ := by (simp only [mkL, hB]; rw [if_pos hr, if_pos (by omega)])
       refine ⟨_, lB fs ps fs.length (i + 1), reb_num [0, 9] rfl ?_ ?_, ⟨i + 1, ⟨by omega, rfl⟩, .inr rfl⟩, by omega⟩
       ·exact ⟨.refl _, .refl _, .refl _, wk_slc (by rw [lvOut_succ, if_pos hk, h0, List.length_append]; rfl), .refl _, .refl _, .refl _, trivial⟩
       ·refine ⟨⟨by decide, _, rfl, wkB_eq ?_ (fLR _ _)⟩, ⟨by decide, _, rfl, wkB_eq ?_ (fL _)⟩, trivial⟩
        ·exact lv_next (x := i) (y := lf0.r + 1) (z := lf0.d + 1) (w := (fs.getD i default).kind) hin hM
        ·(rw [lvOut_succ, if_pos hk, hM, h0]; rfl))
    | (have hr : ¬ (fs.getD i default).rep = 2 := by assumption
       have hz : ¬ (fs.getD i default).rep = 0 := by assumption
       have hk : (fs.getD i default).kind = 0 := by assumption
       have hM : mkL fs ps (lvRun fs ps i) i = ⟨i, lf0.r, lf0.d + 1, (fs.getD i default).kind⟩ := by (simp only [mkL, hB]; rw [if_neg hr, if_pos hz])
       refine ⟨_, lA fs ps fs.length (i + 1), reb_num [0] rfl ?_ ?_, ⟨i + 1, ⟨by omega, rfl⟩, .inl ⟨by rw [lvOut_succ, if_neg (by omega)]; exact h0, rfl⟩⟩, by omega⟩
       ·exact ⟨.refl _, .refl _, .refl _, .refl _, .refl _, .refl _, .refl _, trivial⟩
       ·refine ⟨⟨by decide, _, rfl, wkB_eq ?_ (fLR _ _)⟩, trivial⟩
        ·exact lv_next (x := i) (y := lf0.r) (z := lf0.d + 1) (w := (fs.getD i default).kind) hin hM)
    | (have hr : ¬ (fs.getD i default).rep = 2 := by assumption
       have hz : ¬ (fs.getD i default).rep = 0 := by assumption
       have hk : ¬ (fs.getD i default).kind = 0 := by assumption
       have hM : mkL fs ps (lvRun fs ps i) i = ⟨i, lf0.r, lf0.d + 1, (fs.getD i default).kind⟩ := by (simp only [mkL, hB]; rw [if_neg hr, if_pos hz])
       refine ⟨_, lB fs ps fs.length (i + 1), reb_num [0, 8] rfl ?_ ?_, ⟨i + 1, ⟨by omega, rfl⟩, .inr rfl⟩, by omega⟩
       ·exact ⟨.refl _, .refl _, .refl _, wk_slc (by rw [lvOut_succ, if_pos hk, h0, List.length_append]; rfl), .refl _, .refl _, .refl _, trivial⟩
       ·refine ⟨⟨by decide, _, rfl, wkB_eq ?_ (fLR _ _)⟩, ⟨by decide, _, rfl, wkB_eq ?_ (fL _)⟩, trivial⟩
        ·exact lv_next (x := i) (y := lf0.r) (z := lf0.d + 1) (w := (fs.getD i default).kind) hin hM
        ·(rw [lvOut_succ, if_pos hk, hM, h0]; rfl))
    | (have hr : (fs.getD i default).rep = 0 := by assumption
       have hk : (fs.getD i default).kind = 0 := by assumption
       have hM : mkL fs ps (lvRun fs ps i) i = ⟨i, lf0.r, lf0.d, (fs.getD i default).kind⟩ := by (simp only [mkL, hB]; rw [if_neg (by omega), if_neg (by omega)])
       refine ⟨_, lA fs ps fs.length (i + 1), reb_num [0] rfl ?_ ?_, ⟨i + 1, ⟨by omega, rfl⟩, .inl ⟨by rw [lvOut_succ, if_neg (by omega)]; exact h0, rfl⟩⟩, by omega⟩
       ·exact ⟨.refl _, .refl _, .refl _, .refl _, .refl _, .refl _, .refl _, trivial⟩
       ·refine ⟨⟨by decide, _, rfl, wkB_eq ?_ (fLR _ _)⟩, trivial⟩
        ·exact lv_next (x := i) (y := lf0.r) (z := lf0.d) (w := (fs.getD i default).kind) hin hM)
    | (have hr : (fs.getD i default).rep = 0 := by assumption
       have hk : ¬ (fs.getD i default).kind = 0 := by assumption
       have hM : mkL fs ps (lvRun fs ps i) i = ⟨i, lf0.r, lf0.d, (fs.getD i default).kind⟩ := by (simp only [mkL, hB]; rw [if_neg (by omega), if_neg (by omega)])
       refine ⟨_, lB fs ps fs.length (i + 1), reb_num [0, 7] rfl ?_ ?_, ⟨i + 1, ⟨by omega, rfl⟩, .inr rfl⟩, by omega⟩
       ·exact ⟨.refl _, .refl _, .refl _, wk_slc (by rw [lvOut_succ, if_pos hk, h0, List.length_append]; rfl), .refl _, .refl _, .refl _, trivial⟩
       ·refine ⟨⟨by decide, _, rfl, wkB_eq ?_ (fLR _ _)⟩, ⟨by decide, _, rfl, wkB_eq ?_ (fL _)⟩, trivial⟩
        ·exact lv_next (x := i) (y := lf0.r) (z := lf0.d) (w := (fs.getD i default).kind) hin hM
        ·(rw [lvOut_succ, if_pos hk, hM, h0]; rfl))
   ·have hB : baseL (lvRun fs ps i) (ps.getD i 0) = lBase fs ps i := by rw [baseL, if_pos hp]; rfl
    have hb := lv_bound (fs := fs) ha i (by omega) (ps.getD i 0).toNat (by omega)
    change 0 ≤ (lBase fs ps i).r ∧ (lBase fs ps i).r ≤ (lBase fs ps i).d ∧ (lBase fs ps i).d ≤ _ at hb
    have hxp : (lRows (lvRun fs ps i) fs.length).getD (0 + (ps.getD i 0).toNat) [] = encL (lBase fs ps i) := by rw [Nat.zero_add]; exact lRows_at (by omega)
    repeat' (first | (refine And.intro ?_ ?_) | (intro h; (try first | replace h := of_decide_eq_true h | replace h := of_decide_eq_false h); (try simp only [asI_int, asS_str, asB_bool, encI_0, encI_00, encF_0, encF_1, encF_2, encF_3, encF_00, encF_01, encF_02, encF_03, encL_0, encL_1, encL_2, encL_3, encL_00, encL_01, encL_02, encL_03, Nat.zero_add, Nat.add_zero, Int.toNat_natCast, Int.toNat_zero] at h); try simp only [decide_eq_true_eq, decide_eq_false_iff_not, Int.not_lt, Int.not_le, Int.toNat_natCast, ↓reduceIte, Nat.reduceAdd, reduceCtorEq, Int.reduceLT, Int.lt_irrefl, gt_iff_lt, not_true_eq_false, not_false_eq_true, Bool.not_true, Bool.not_false, decide_false, decide_true, Int.reduceLE, Int.reduceSub, Bool.false_eq_true, Bool.true_eq_false, Nat.reduceEqDiff, Nat.one_ne_zero, Nat.reduceLT, and_self, and_true, true_and, Int.natCast_zero, Int.cast_ofNat_Int, List.length_nil, ne_eq, Decidable.not_not] at h))
    all_goals (try first | exact PlanIs.mk (by kernel_rfl) | omega | (show (_ : Int) * ((32 : Nat) : Int) ≤ _; omega) | (show (_ : Int) * ((8 : Nat) : Int) ≤ _; omega) | (show (_ : Int) * ((24 : Nat) : Int) ≤ _; omega) | exact rfl | exact Nat.le_of_ble_eq_true rfl | (show (_ : Nat) ≤ (_ : Nat); simp; done) | (show (_ : Nat) ≤ (_ : Nat); simp; omega))
    ·exact NoSel.mk (by kernel_rfl)
    refine ⟨lS fs ps i false, ?_, ?_⟩
    ·repeat' (first | (refine And.intro ?_ ?_) | (intro h; (try first | replace h := of_decide_eq_true h | replace h := of_decide_eq_false h); (try simp only [asI_int, asS_str, asB_bool, encI_0, encI_00, encF_0, encF_1, encF_2, encF_3, encF_00, encF_01, encF_02, encF_03, encL_0, encL_1, encL_2, encL_3, encL_00, encL_01, encL_02, encL_03, Nat.zero_add, Nat.add_zero, Int.toNat_natCast, Int.toNat_zero] at h); try simp only [decide_eq_true_eq, decide_eq_false_iff_not, Int.not_lt, Int.not_le, Int.toNat_natCast, ↓reduceIte, Nat.reduceAdd, reduceCtorEq, Int.reduceLT, Int.lt_irrefl, gt_iff_lt, not_true_eq_false, not_false_eq_true, Bool.not_true, Bool.not_false, decide_false, decide_true, Int.reduceLE, Int.reduceSub, Bool.false_eq_true, Bool.true_eq_false, Nat.reduceEqDiff, Nat.one_ne_zero, Nat.reduceLT, and_self, and_true, true_and, Int.natCast_zero, Int.cast_ofNat_Int, List.length_nil, ne_eq, Decidable.not_not] at h))
     all_goals (try first | exact PlanIs.mk (by kernel_rfl) | omega | (show (_ : Int) * ((32 : Nat) : Int) ≤ _; omega) | (show (_ : Int) * ((8 : Nat) : Int) ≤ _; omega) | (show (_ : Int) * ((24 : Nat) : Int) ≤ _; omega) | exact rfl | exact Nat.le_of_ble_eq_true rfl | (show (_ : Nat) ≤ (_ : Nat); simp; done) | (show (_ : Nat) ≤ (_ : Nat); simp; omega))
     all_goals (try exact Apart.mk (by kernel_rfl))
     all_goals (try first | (show isC _ _ (((lRows (lvRun fs ps i) fs.length).getD (0 + (ps.getD i 0).toNat) []).getD _ _) = true; rw [hxp]; exact rfl) | (show (0 : Int) ≤ ps.getD i 0; omega) | (show ps.getD i 0 < (fs.length : Int); omega))
     all_goals
      refine Exists.intro () ?_
      refine reb_num [0, 1, 3] (by exact rfl) ?_ ?_
      ·exact ⟨.refl _, .refl _, .refl _, .refl _, .refl _, .refl _, .refl _, .refl _, .refl _, .refl _, .refl _, trivial⟩
      ·refine ⟨⟨by decide, _, rfl, wkB_eq rfl (fLR _ _)⟩, ⟨by decide, _, rfl, wkB_eq rfl (fF [fs.getD i default])⟩, ⟨by decide, _, rfl, wkB_eq ?_ (fL [_])⟩, trivial⟩
       show [[AVal.int .i64 i, .int .i64 (asI (((lRows (lvRun fs ps i) fs.length).getD (0 + (ps.getD i 0).toNat) []).getD 1 .any)), .int .i64 (asI (((lRows (lvRun fs ps i) fs.length).getD (0 + (ps.getD i 0).toNat) []).getD 2 .any)), .int .i64 (fs.getD i default).kind]] = _
       rw [hxp]; rfl
    repeat' (first | (refine And.intro ?_ ?_) | (intro h; (try first | replace h := of_decide_eq_true h | replace h := of_decide_eq_false h); (try simp only [asI_int, asS_str, asB_bool, encI_0, encI_00, encF_0, encF_1, encF_2, encF_3, encF_00, encF_01, encF_02, encF_03, encL_0, encL_1, encL_2, encL_3, encL_00, encL_01, encL_02, encL_03, Nat.zero_add, Nat.add_zero, Int.toNat_natCast, Int.toNat_zero] at h); try simp only [decide_eq_true_eq, decide_eq_false_iff_not, Int.not_lt, Int.not_le, Int.toNat_natCast, ↓reduceIte, Nat.reduceAdd, reduceCtorEq, Int.reduceLT, Int.lt_irrefl, gt_iff_lt, not_true_eq_false, not_false_eq_true, Bool.not_true, Bool.not_false, decide_false, decide_true, Int.reduceLE, Int.reduceSub, Bool.false_eq_true, Bool.true_eq_false, Nat.reduceEqDiff, Nat.one_ne_zero, Nat.reduceLT, and_self, and_true, true_and, Int.natCast_zero, Int.cast_ofNat_Int, List.length_nil, ne_eq, Decidable.not_not] at h))
    all_goals (try first | exact PlanIs.mk (by kernel_rfl) | omega | (show (_ : Int) * ((32 : Nat) : Int) ≤ _; omega) | (show (_ : Int) * ((8 : Nat) : Int) ≤ _; omega) | (show (_ : Int) * ((24 : Nat) : Int) ≤ _; omega) | exact rfl | exact Nat.le_of_ble_eq_true rfl | (show (_ : Nat) ≤ (_ : Nat); simp; done) | (show (_ : Nat) ≤ (_ : Nat); simp; omega))
    all_goals (try first | (show (-9223372036854775808 : Int) ≤ (lBase fs ps i).r + 1; first | decide | omega) | (show (-9223372036854775808 : Int) ≤ (lBase fs ps i).d + 1; first | decide | omega) | (show (lBase fs ps i).r + 1 ≤ (9223372036854775807 : Int); first | decide | omega) | (show (lBase fs ps i).d + 1 ≤ (9223372036854775807 : Int); first | decide | omega))
    all_goals (try first | (show 0 + i < (lRows (lvRun fs ps i) fs.length).length; rw [hln]; omega) | (show 0 + 4 ≤ (List.length ((lRows (lvRun fs ps i) fs.length).getD (0 + i) [])); rw [Nat.zero_add i, hxi]; exact Nat.le_refl 4))
    all_goals first
    | (have hr : (fs.getD i default).rep = 2 := by assumption
       have hk : (fs.getD i default).kind = 0 := by assumption
       have hM : mkL fs ps (lvRun fs ps i) i = ⟨i, (lBase fs ps i).r + 1, (lBase fs ps i).d + 1, (fs.getD i default).kind⟩ := by (simp only [mkL, hB]; rw [if_pos hr, if_pos (by omega)])
       refine ⟨_, lA fs ps fs.length (i + 1), reb_num [0] rfl ?_ ?_, ⟨i + 1, ⟨by omega, rfl⟩, .inl ⟨by rw [lvOut_succ, if_neg (by omega)]; exact h0, rfl⟩⟩, by omega⟩
       ·exact ⟨.refl _, .refl _, .refl _, .refl _, .refl _, .refl _, .refl _, trivial⟩
       ·refine ⟨⟨by decide, _, rfl, wkB_eq ?_ (fLR _ _)⟩, trivial⟩
        ·exact lv_next (x := i) (y := (lBase fs ps i).r + 1) (z := (lBase fs ps i).d + 1) (w := (fs.getD i default).kind) hin hM)
    | (have hr : (fs.getD i default).rep = 2 := by assumption
       have hk : ¬ (fs.getD i default).kind = 0 := by assumption
       have hM : mkL fs ps (lvRun fs ps i) i = ⟨i, (lBase fs ps i).r + 1, (lBase fs ps i).d + 1, (fs.getD i default).kind⟩ := by (simp only [mkL, hB]; rw [if_pos hr, if_pos (by omega)])
       refine ⟨_, lB fs ps fs.length (i + 1), reb_num [0, 7] rfl ?_ ?_, ⟨i + 1, ⟨by omega, rfl⟩, .inr rfl⟩, by omega⟩
       ·exact ⟨.refl _, .refl _, .refl _, wk_slc (by rw [lvOut_succ, if_pos hk, h0, List.length_append]; rfl), .refl _, .refl _, .refl _, trivial⟩
       ·refine ⟨⟨by decide, _, rfl, wkB_eq ?_ (fLR _ _)⟩, ⟨by decide, _, rfl, wkB_eq ?_ (fL _)⟩, trivial⟩
        ·exact lv_next (x := i) (y := (lBase fs ps i).r + 1) (z := (lBase fs ps i).d + 1) (w := (fs.getD i default).kind) hin hM
        ·(rw [lvOut_succ, if_pos hk, hM, h0]; rfl))
    | (have hr : ¬ (fs.getD i default).rep = 2 := by assumption
       have hz : ¬ (fs.getD i default).rep = 0 := by assumption
       have hk : (fs.getD i default).kind = 0 := by assumption
       have hM : mkL fs ps (lvRun fs ps i) i = ⟨i, (lBase fs ps i).r, (lBase fs ps i).d + 1, (fs.getD i default).kind⟩ := by (simp only [mkL, hB]; rw [if_neg hr, if_pos hz])
       refine ⟨_, lA fs ps fs.length (i + 1), reb_num [0] rfl ?_ ?_, ⟨i + 1, ⟨by omega, rfl⟩, .inl ⟨by rw [lvOut_succ, if_neg (by omega)]; exact h0, rfl⟩⟩, by omega⟩
       ·exact ⟨.refl _, .refl _, .refl _, .refl _, .refl _, .refl _, .refl _, trivial⟩
       ·refine ⟨⟨by decide, _, rfl, wkB_eq ?_ (fLR _ _)⟩, trivial⟩
        ·exact lv_next (x := i) (y := (lBase fs ps i).r) (z := (lBase fs ps i).d + 1) (w := (fs.getD i default).kind) hin hM)
    | (have hr : ¬ (fs.getD i default).rep = 2 := by assumption
       have hz : ¬ (fs.getD i default).rep = 0 := by assumption
       have hk : ¬ (fs.getD i default).kind = 0 := by assumption
       have hM : mkL fs ps (lvRun fs ps i) i = ⟨i, (lBase fs ps i).r, (lBase fs ps i).d + 1, (fs.getD i default).kind⟩ := by (simp only [mkL, hB]; rw [if_neg hr, if_pos hz])
       refine ⟨_, lB fs ps fs.length (i + 1), reb_num [0, 6] rfl ?_ ?_, ⟨i + 1, ⟨by omega, rfl⟩, .inr rfl⟩, by omega⟩
       ·exact ⟨.refl _, .refl _, .refl _, wk_slc (by rw [lvOut_succ, if_pos hk, h0, List.length_append]; rfl), .refl _, .refl _, .refl _, trivial⟩
       ·refine ⟨⟨by decide, _, rfl, wkB_eq ?_ (fLR _ _)⟩, ⟨by decide, _, rfl, wkB_eq ?_ (fL _)⟩, trivial⟩
        ·exact lv_next (x := i) (y := (lBase fs ps i).r) (z := (lBase fs ps i).d + 1) (w := (fs.getD i default).kind) hin hM
        ·(rw [lvOut_succ, if_pos hk, hM, h0]; rfl))
    | (have hr : (fs.getD i default).rep = 0 := by assumption
       have hk : (fs.getD i default).kind = 0 := by assumption
       have hM : mkL fs ps (lvRun fs ps i) i = ⟨i, (lBase fs ps i).r, (lBase fs ps i).d, (fs.getD i default).kind⟩ := by (simp only [mkL, hB]; rw [if_neg (by omega), if_neg (by omega)])
       refine ⟨_, lA fs ps fs.length (i + 1), reb_num [0] rfl ?_ ?_, ⟨i + 1, ⟨by omega, rfl⟩, .inl ⟨by rw [lvOut_succ, if_neg (by omega)]; exact h0, rfl⟩⟩, by omega⟩
       ·exact ⟨.refl _, .refl _, .refl _, .refl _, .refl _, .refl _, .refl _, trivial⟩
       ·refine ⟨⟨by decide, _, rfl, wkB_eq ?_ (fLR _ _)⟩, trivial⟩
        ·exact lv_next (x := i) (y := (lBase fs ps i).r) (z := (lBase fs ps i).d) (w := (fs.getD i default).kind) hin hM)
    | (have hr : (fs.getD i default).rep = 0 := by assumption
       have hk : ¬ (fs.getD i default).kind = 0 := by assumption
       have hM : mkL fs ps (lvRun fs ps i) i = ⟨i, (lBase fs ps i).r, (lBase fs ps i).d, (fs.getD i default).kind⟩ := by (simp only [mkL, hB]; rw [if_neg (by omega), if_neg (by omega)])
       refine ⟨_, lB fs ps fs.length (i + 1), reb_num [0, 5] rfl ?_ ?_, ⟨i + 1, ⟨by omega, rfl⟩, .inr rfl⟩, by omega⟩
       ·exact ⟨.refl _, .refl _, .refl _, wk_slc (by rw [lvOut_succ, if_pos hk, h0, List.length_append]; rfl), .refl _, .refl _, .refl _, trivial⟩
       ·refine ⟨⟨by decide, _, rfl, wkB_eq ?_ (fLR _ _)⟩, ⟨by decide, _, rfl, wkB_eq ?_ (fL _)⟩, trivial⟩
        ·exact lv_next (x := i) (y := (lBase fs ps i).r) (z := (lBase fs ps i).d) (w := (fs.getD i default).kind) hin hM
        ·(rw [lvOut_succ, if_pos hk, hM, h0]; rfl))
  ·obtain rfl : i = fs.length := by omega
   repeat' (first | (refine And.intro ?_ ?_) | (intro h; (try first | replace h := of_decide_eq_true h | replace h := of_decide_eq_false h); (try simp only [asI_int, asS_str, asB_bool, encI_0, encI_00, encF_0, encF_1, encF_2, encF_3, encF_00, encF_01, encF_02, encF_03, encL_0, encL_1, encL_2, encL_3, encL_00, encL_01, encL_02, encL_03, Nat.zero_add, Nat.add_zero, Int.toNat_natCast, Int.toNat_zero] at h); (try simp only [decide_eq_true_eq, decide_eq_false_iff_not, Int.not_lt, Int.not_le, Int.toNat_natCast, ↓reduceIte, Nat.reduceAdd, reduceCtorEq, Int.reduceLT, Int.lt_irrefl, gt_iff_lt, not_true_eq_false, not_false_eq_true, Bool.not_true, Bool.not_false, decide_false, decide_true, Int.reduceLE, Int.reduceSub, Bool.false_eq_true, Bool.true_eq_false, Nat.reduceEqDiff, Nat.one_ne_zero, Nat.reduceLT, and_self, and_true, true_and, Int.natCast_zero, Int.cast_ofNat_Int, List.length_nil, ne_eq, Decidable.not_not] at h); try (exfalso; omega)))
   all_goals (try first | exact PlanIs.mk (by kernel_rfl) | omega | (show (_ : Int) * ((32 : Nat) : Int) ≤ _; omega) | (show (_ : Int) * ((8 : Nat) : Int) ≤ _; omega) | (show (_ : Int) * ((24 : Nat) : Int) ≤ _; omega) | exact rfl | exact Nat.le_of_ble_eq_true rfl | (show (_ : Nat) ≤ (_ : Nat); simp; done) | (show (_ : Nat) ≤ (_ : Nat); simp; omega))
   all_goals (try first | exact allLen_cut (enc := encL) (z := 4) (fun _ => rfl) _ _ _ | (show (0 + (lvOut fs ps fs.length).length) * 32 ≤ _; omega))
   refine ⟨_, .refl _ _ _, _, rfl, ?_⟩
   refine ⟨_, reb_nil (k := 2) 4 encL default rfl, _, rfl, ?_, rfl⟩
   rw [h0]; rfl
 ·have hol := lvOut_len_le fs ps i
  have hll := lvRun_length fs ps i
  by_cases hin : i < fs.length
  ·have hxi : (lRows (lvRun fs ps i) fs.length).getD i [] = encL lf0 := by have := lRows_end (lv := lvRun fs ps i) (n := fs.length) (by rw [lvRun_length]; exact hin); rwa [lvRun_length] at this
   have hq := ha i hin
   have hln : (lRows (lvRun fs ps i) fs.length).length = fs.length := lRows_len (by omega)
   rcases Int.lt_or_le (ps.getD i 0) 0 with hp | hp
   ·have hB : baseL (lvRun fs ps i) (ps.getD i 0) = lf0 := by rw [baseL, if_neg (by omega)]
    repeat' (first | (refine And.intro ?_ ?_) | (intro h; (try first | replace h := of_decide_eq_true h | replace h := of_decide_eq_false h); (try simp only [asI_int, asS_str, asB_bool, encI_0, encI_00, encF_0, encF_1, encF_2, encF_3, encF_00, encF_01, encF_02, encF_03, encL_0, encL_1, encL_2, encL_3, encL_00, encL_01, encL_02, encL_03, Nat.zero_add, Nat.add_zero, Int.toNat_natCast, Int.toNat_zero] at h); try simp only [decide_eq_true_eq, decide_eq_false_iff_not, Int.not_lt, Int.not_le, Int.toNat_natCast, ↓reduceIte, Nat.reduceAdd, reduceCtorEq, Int.reduceLT, Int.lt_irrefl, gt_iff_lt, not_true_eq_false, not_false_eq_true, Bool.not_true, Bool.not_false, decide_false, decide_true, Int.reduceLE, Int.reduceSub, Bool.false_eq_true, Bool.true_eq_false, Nat.reduceEqDiff, Nat.one_ne_zero, Nat.reduceLT, and_self, and_true, true_and, Int.natCast_zero, Int.cast_ofNat_Int, List.length_nil, ne_eq, Decidable.not_not] at h))
    all_goals (try first | exact PlanIs.mk (by kernel_rfl) | omega | (show (_ : Int) * ((32 : Nat) : Int) ≤ _; omega) | (show (_ : Int) * ((8 : Nat) : Int) ≤ _; omega) | (show (_ : Int) * ((24 : Nat) : Int) ≤ _; omega) | exact rfl | exact Nat.le_of_ble_eq_true rfl | (show (_ : Nat) ≤ (_ : Nat); simp; done) | (show (_ : Nat) ≤ (_ : Nat); simp; omega))
    all_goals (try first | (show (-9223372036854775808 : Int) ≤ lf0.r + 1; first | decide | omega) | (show (-9223372036854775808 : Int) ≤ lf0.d + 1; first | decide | omega) | (show lf0.r + 1 ≤ (9223372036854775807 : Int); first | decide | omega) | (show lf0.d + 1 ≤ (9223372036854775807 : Int); first | decide | omega))
    all_goals (try first | (show 0 + i < (lRows (lvRun fs ps i) fs.length).length; rw [hln]; omega) | (show 0 + 4 ≤ (List.length ((lRows (lvRun fs ps i) fs.length).getD (0 + i) [])); rw [Nat.zero_add i, hxi]; exact Nat.le_refl 4))
    all_goals first
    | (have hr : (fs.getD i default).rep = 2 := by assumption
       have hk : (fs.getD i default).kind = 0 := by assumption
       have hM : mkL fs ps (lvRun fs ps i) i = ⟨i, lf0.r + 1, lf0.d + 1, (fs.getD i default).kind⟩ := by (simp only [mkL, hB]; rw [if_pos hr, if_pos (by omega)])
       refine ⟨_, lB fs ps fs.length (i + 1), reb_num [0, 1] rfl ?_ ?_, ⟨i + 1, ⟨by omega, rfl⟩, .inr rfl⟩, by omega⟩
       ·exact ⟨.refl _, .refl _, .refl _, wk_slc (by rw [lvOut_succ, if_neg (by omega)]), .refl _, .refl _, .refl _, trivial⟩
       ·refine ⟨⟨by decide, _, rfl, wkB_eq ?_ (fLR _ _)⟩, ⟨by decide, _, rfl, wkB_eq ?_ (fL _)⟩, trivial⟩
        ·exact lv_next (x := i) (y := lf0.r + 1) (z := lf0.d + 1) (w := (fs.getD i default).kind) hin hM
        ·rw [lvOut_succ, if_neg (by omega)])
    | (have hr : (fs.getD i default).rep = 2 := by assumption
       have hk : ¬ (fs.getD i default).kind = 0 := by assumption
       have hM : mkL fs ps (lvRun fs ps i) i = ⟨i, lf0.r + 1, lf0.d + 1, (fs.getD i default).kind⟩ := by (simp only [mkL, hB]; rw [if_pos hr, if_pos (by omega)])
       refine ⟨_, lB fs ps fs.length (i + 1), reb_num [0, 10] rfl ?_ ?_, ⟨i + 1, ⟨by omega, rfl⟩, .inr rfl⟩, by omega⟩
       ·exact ⟨.refl _, .refl _, .refl _, wk_slc (by rw [lvOut_succ, if_pos hk, List.length_append]; rfl), .refl _, .refl _, .refl _, trivial⟩
       ·refine ⟨⟨by decide, _, rfl, wkB_eq ?_ (fLR _ _)⟩, ⟨by decide, _, rfl, wkB_eq ?_ (fL _)⟩, trivial⟩
        ·exact lv_next (x := i) (y := lf0.r + 1) (z := lf0.d + 1) (w := (fs.getD i default).kind) hin hM
        ·(rw [lvOut_succ, if_pos hk, hM, List.map_append]; show List.take _ (List.drop 0 ((lvOut fs ps i).map encL)) ++ [_] = _; rw [List.drop_zero, List.take_of_length_le (by rw [List.length_map]; exact Nat.le_refl _)]; rfl))
    | (have hr : ¬ (fs.getD i default).rep = 2 := by assumption
       have hz : ¬ (fs.getD i default).rep = 0 := by assumption
       have hk : (fs.getD i default).kind = 0 := by assumption
       have hM : mkL fs ps (lvRun fs ps i) i = ⟨i, lf0.r, lf0.d + 1, (fs.getD i default).kind⟩ := by (simp only [mkL, hB]; rw [if_neg hr, if_pos hz])
       refine ⟨_, lB fs ps fs.length (i + 1), reb_num [0, 1] rfl ?_ ?_, ⟨i + 1, ⟨by omega, rfl⟩, .inr rfl⟩, by omega⟩
       ·exact ⟨.refl _, .refl _, .refl _, wk_slc (by rw [lvOut_succ, if_neg (by omega)]), .refl _, .refl _, .refl _, trivial⟩
       ·refine ⟨⟨by decide, _, rfl, wkB_eq ?_ (fLR _ _)⟩, ⟨by decide, _, rfl, wkB_eq ?_ (fL _)⟩, trivial⟩
        ·exact lv_next (x := i) (y := lf0.r) (z := lf0.d + 1) (w := (fs.getD i default).kind) hin hM
        ·rw [lvOut_succ, if_neg (by omega)])
    | (have hr : ¬ (fs.getD i default).rep = 2 := by assumption
       have hz : ¬ (fs.getD i default).rep = 0 := by assumption
       have hk : ¬ (fs.getD i default).kind = 0 := by assumption
       have hM : mkL fs ps (lvRun fs ps i) i = ⟨i, lf0.r, lf0.d + 1, (fs.getD i default).kind⟩ := by (simp only [mkL, hB]; rw [if_neg hr, if_pos hz])
       refine ⟨_, lB fs ps fs.length (i + 1), reb_num [0, 9] rfl ?_ ?_, ⟨i + 1, ⟨by omega, rfl⟩, .inr rfl⟩, by omega⟩
       ·exact ⟨.refl _, .refl _, .refl _, wk_slc (by rw [lvOut_succ, if_pos hk, List.length_append]; rfl), .refl _, .refl _, .refl _, trivial⟩
       ·refine ⟨⟨by decide, _, rfl, wkB_eq ?_ (fLR _ _)⟩, ⟨by decide, _, rfl, wkB_eq ?_ (fL _)⟩, trivial⟩
        ·exact lv_next (x := i) (y := lf0.r) (z := lf0.d + 1) (w := (fs.getD i default).kind) hin hM
        ·(rw [lvOut_succ, if_pos hk, hM, List.map_append]; show List.take _ (List.drop 0 ((lvOut fs ps i).map encL)) ++ [_] = _; rw [List.drop_zero, List.take_of_length_le (by rw [List.length_map]; exact Nat.le_refl _)]; rfl))
    | (have hr : (fs.getD i default).rep = 0 := by assumption
       have hk : (fs.getD i default).kind = 0 := by assumption
       have hM : mkL fs ps (lvRun fs ps i) i = ⟨i, lf0.r, lf0.d, (fs.getD i default).kind⟩ := by (simp only [mkL, hB]; rw [if_neg (by omega), if_neg (by omega)])
       refine ⟨_, lB fs ps fs.length (i + 1), reb_num [0, 1] rfl ?_ ?_, ⟨i + 1, ⟨by omega, rfl⟩, .inr rfl⟩, by omega⟩
       ·exact ⟨.refl _, .refl _, .refl _, wk_slc (by rw [lvOut_succ, if_neg (by omega)]), .refl _, .refl _, .refl _, trivial⟩
       ·refine ⟨⟨by decide, _, rfl, wkB_eq ?_ (fLR _ _)⟩, ⟨by decide, _, rfl, wkB_eq ?_ (fL _)⟩, trivial⟩
        ·exact lv_next (x := i) (y := lf0.r) (z := lf0.d) (w := (fs.getD i default).kind) hin hM
        ·rw [lvOut_succ, if_neg (by omega)])
    | (have hr : (fs.getD i default).rep = 0 := by assumption
       have hk : ¬ (fs.getD i default).kind = 0 := by assumption
       have hM : mkL fs ps (lvRun fs ps i) i = ⟨i, lf0.r, lf0.d, (fs.getD i default).kind⟩ := by (simp only [mkL, hB]; rw [if_neg (by omega), if_neg (by omega)])
       refine ⟨_, lB fs ps fs.length (i + 1), reb_num [0, 8] rfl ?_ ?_, ⟨i + 1, ⟨by omega, rfl⟩, .inr rfl⟩, by omega⟩
       ·exact ⟨.refl _, .refl _, .refl _, wk_slc (by rw [lvOut_succ, if_pos hk, List.length_append]; rfl), .refl _, .refl _, .refl _, trivial⟩
       ·refine ⟨⟨by decide, _, rfl, wkB_eq ?_ (fLR _ _)⟩, ⟨by decide, _, rfl, wkB_eq ?_ (fL _)⟩, trivial⟩
        ·exact lv_next (x := i) (y := lf0.r) (z := lf0.d) (w := (fs.getD i default).kind) hin hM
        ·(rw [lvOut_succ, if_pos hk, hM, List.map_append]; show List.take _ (List.drop 0 ((lvOut fs ps i).map encL)) ++ [_] = _; rw [List.drop_zero, List.take_of_length_le (by rw [List.length_map]; exact Nat.le_refl _)]; rfl))
   ·have hB : baseL (lvRun fs ps i) (ps.getD i 0) = lBase fs ps i := by rw [baseL, if_pos hp]; rfl
    have hb := lv_bound (fs := fs) ha i (by omega) (ps.getD i 0).toNat (by omega)
    change 0 ≤ (lBase fs ps i).r ∧ (lBase fs ps i).r ≤ (lBase fs ps i).d ∧ (lBase fs ps i).d ≤ _ at hb
    have hxp : (lRows (lvRun fs ps i) fs.length).getD (0 + (ps.getD i 0).toNat) [] = encL (lBase fs ps i) := by rw [Nat.zero_add]; exact lRows_at (by omega)
    repeat' (first | (refine And.intro ?_ ?_) | (intro h; (try first | replace h := of_decide_eq_true h | replace h := of_decide_eq_false h); (try simp only [asI_int, asS_str, asB_bool, encI_0, encI_00, encF_0, encF_1, encF_2, encF_3, encF_00, encF_01, encF_02, encF_03, encL_0, encL_1, encL_2, encL_3, encL_00, encL_01, encL_02, encL_03, Nat.zero_add, Nat.add_zero, Int.toNat_natCast, Int.toNat_zero] at h); try simp only [decide_eq_true_eq, decide_eq_false_iff_not, Int.not_lt, Int.not_le, Int.toNat_natCast, ↓reduceIte, Nat.reduceAdd, reduceCtorEq, Int.reduceLT, Int.lt_irrefl, gt_iff_lt, not_true_eq_false, not_false_eq_true, Bool.not_true, Bool.not_false, decide_false, decide_true, Int.reduceLE, Int.reduceSub, Bool.false_eq_true, Bool.true_eq_false, Nat.reduceEqDiff, Nat.one_ne_zero, Nat.reduceLT, and_self, and_true, true_and, Int.natCast_zero, Int.cast_ofNat_Int, List.length_nil, ne_eq, Decidable.not_not] at h))
    all_goals (try first | exact PlanIs.mk (by kernel_rfl) | omega | (show (_ : Int) * ((32 : Nat) : Int) ≤ _; omega) | (show (_ : Int) * ((8 : Nat) : Int) ≤ _; omega) | (show (_ : Int) * ((24 : Nat) : Int) ≤ _; omega) | exact rfl | exact Nat.le_of_ble_eq_true rfl | (show (_ : Nat) ≤ (_ : Nat); simp; done) | (show (_ : Nat) ≤ (_ : Nat); simp; omega))
    ·exact NoSel.mk (by kernel_rfl)
    refine ⟨lS fs ps i true, ?_, ?_⟩
    ·repeat' (first | (refine And.intro ?_ ?_) | (intro h; (try first | replace h := of_decide_eq_true h | replace h := of_decide_eq_false h); (try simp only [asI_int, asS_str, asB_bool, encI_0, encI_00, encF_0, encF_1, encF_2, encF_3, encF_00, encF_01, encF_02, encF_03, encL_0, encL_1, encL_2, encL_3, encL_00, encL_01, encL_02, encL_03, Nat.zero_add, Nat.add_zero, Int.toNat_natCast, Int.toNat_zero] at h); try simp only [decide_eq_true_eq, decide_eq_false_iff_not, Int.not_lt, Int.not_le, Int.toNat_natCast, ↓reduceIte, Nat.reduceAdd, reduceCtorEq, Int.reduceLT, Int.lt_irrefl, gt_iff_lt, not_true_eq_false, not_false_eq_true, Bool.not_true, Bool.not_false, decide_false, decide_true, Int.reduceLE, Int.reduceSub, Bool.false_eq_true, Bool.true_eq_false, Nat.reduceEqDiff, Nat.one_ne_zero, Nat.reduceLT, and_self, and_true, true_and, Int.natCast_zero, Int.cast_ofNat_Int, List.length_nil, ne_eq, Decidable.not_not] at h))
     all_goals (try first | exact PlanIs.mk (by kernel_rfl) | omega | (show (_ : Int) * ((32 : Nat) : Int) ≤ _; omega) | (show (_ : Int) * ((8 : Nat) : Int) ≤ _; omega) | (show (_ : Int) * ((24 : Nat) : Int) ≤ _; omega) | exact rfl | exact Nat.le_of_ble_eq_true rfl | (show (_ : Nat) ≤ (_ : Nat); simp; done) | (show (_ : Nat) ≤ (_ : Nat); simp; omega))
     all_goals (try exact Apart.mk (by kernel_rfl))
     all_goals (try first | (show isC _ _ (((lRows (lvRun fs ps i) fs.length).getD (0 + (ps.getD i 0).toNat) []).getD _ _) = true; rw [hxp]; exact rfl) | (show (0 : Int) ≤ ps.getD i 0; omega) | (show ps.getD i 0 < (fs.length : Int); omega))
     all_goals
      refine Exists.intro () ?_
      refine reb_num [0, 1, 2, 4] (by exact rfl) ?_ ?_
      ·exact ⟨.refl _, .refl _, .refl _, .refl _, .refl _, .refl _, .refl _, .refl _, .refl _, .refl _, .refl _, trivial⟩
      ·refine ⟨⟨by decide, _, rfl, wkB_eq rfl (fLR _ _)⟩, ⟨by decide, _, rfl, wkB_eq rfl (fL _)⟩, ⟨by decide, _, rfl, wkB_eq rfl (fF [fs.getD i default])⟩, ⟨by decide, _, rfl, wkB_eq ?_ (fL [_])⟩, trivial⟩
       show [[AVal.int .i64 i, .int .i64 (asI (((lRows (lvRun fs ps i) fs.length).getD (0 + (ps.getD i 0).toNat) []).getD 1 .any)), .int .i64 (asI (((lRows (lvRun fs ps i) fs.length).getD (0 + (ps.getD i 0).toNat) []).getD 2 .any)), .int .i64 (fs.getD i default).kind]] = _
       rw [hxp]; rfl
    repeat' (first | (refine And.intro ?_ ?_) | (intro h; (try first | replace h := of_decide_eq_true h | replace h := of_decide_eq_false h); (try simp only [asI_int, asS_str, asB_bool, encI_0, encI_00, encF_0, encF_1, encF_2, encF_3, encF_00, encF_01, encF_02, encF_03, encL_0, encL_1, encL_2, encL_3, encL_00, encL_01, encL_02, encL_03, Nat.zero_add, Nat.add_zero, Int.toNat_natCast, Int.toNat_zero] at h); try simp only [decide_eq_true_eq, decide_eq_false_iff_not, Int.not_lt, Int.not_le, Int.toNat_natCast, ↓reduceIte, Nat.reduceAdd, reduceCtorEq, Int.reduceLT, Int.lt_irrefl, gt_iff_lt, not_true_eq_false, not_false_eq_true, Bool.not_true, Bool.not_false, decide_false, decide_true, Int.reduceLE, Int.reduceSub, Bool.false_eq_true, Bool.true_eq_false, Nat.reduceEqDiff, Nat.one_ne_zero, Nat.reduceLT, and_self, and_true, true_and, Int.natCast_zero, Int.cast_ofNat_Int, List.length_nil, ne_eq, Decidable.not_not] at h))
    all_goals (try first | exact PlanIs.mk (by kernel_rfl) | omega | (show (_ : Int) * ((32 : Nat) : Int) ≤ _; omega) | (show (_ : Int) * ((8 : Nat) : Int) ≤ _; omega) | (show (_ : Int) * ((24 : Nat) : Int) ≤ _; omega) | exact rfl | exact Nat.le_of_ble_eq_true rfl | (show (_ : Nat) ≤ (_ : Nat); simp; done) | (show (_ : Nat) ≤ (_ : Nat); simp; omega))
    all_goals (try first | (show (-9223372036854775808 : Int) ≤ (lBase fs ps i).r + 1; first | decide | omega) | (show (-9223372036854775808 : Int) ≤ (lBase fs ps i).d + 1; first | decide | omega) | (show (lBase fs ps i).r + 1 ≤ (9223372036854775807 : Int); first | decide | omega) | (show (lBase fs ps i).d + 1 ≤ (9223372036854775807 : Int); first | decide | omega))
    all_goals (try first | (show 0 + i < (lRows (lvRun fs ps i) fs.length).length; rw [hln]; omega) | (show 0 + 4 ≤ (List.length ((lRows (lvRun fs ps i) fs.length).getD (0 + i) [])); rw [Nat.zero_add i, hxi]; exact Nat.le_refl 4))
    all_goals first
    | (have hr : (fs.getD i default).rep = 2 := by assumption
       have hk : (fs.getD i default).kind = 0 := by assumption
       have hM : mkL fs ps (lvRun fs ps i) i = ⟨i, (lBase fs ps i).r + 1, (lBase fs ps i).d + 1, (fs.getD i default).kind⟩ := by (simp only [mkL, hB]; rw [if_pos hr, if_pos (by omega)])
       refine ⟨_, lB fs ps fs.length (i + 1), reb_num [0, 1] rfl ?_ ?_, ⟨i + 1, ⟨by omega, rfl⟩, .inr rfl⟩, by omega⟩
       ·exact ⟨.refl _, .refl _, .refl _, wk_slc (by rw [lvOut_succ, if_neg (by omega)]), .refl _, .refl _, .refl _, trivial⟩
       ·refine ⟨⟨by decide, _, rfl, wkB_eq ?_ (fLR _ _)⟩, ⟨by decide, _, rfl, wkB_eq ?_ (fL _)⟩, trivial⟩
        ·exact lv_next (x := i) (y := (lBase fs ps i).r + 1) (z := (lBase fs ps i).d + 1) (w := (fs.getD i default).kind) hin hM
        ·rw [lvOut_succ, if_neg (by omega)])
    | (have hr : (fs.getD i default).rep = 2 := by assumption
       have hk : ¬ (fs.getD i default).kind = 0 := by assumption
       have hM : mkL fs ps (lvRun fs ps i) i = ⟨i, (lBase fs ps i).r + 1, (lBase fs ps i).d + 1, (fs.getD i default).kind⟩ := by (simp only [mkL, hB]; rw [if_pos hr, if_pos (by omega)])
       refine ⟨_, lB fs ps fs.length (i + 1), reb_num [0, 8] rfl ?_ ?_, ⟨i + 1, ⟨by omega, rfl⟩, .inr rfl⟩, by omega⟩
       ·exact ⟨.refl _, .refl _, .refl _, wk_slc (by rw [lvOut_succ, if_pos hk, List.length_append]; rfl), .refl _, .refl _, .refl _, trivial⟩
       ·refine ⟨⟨by decide, _, rfl, wkB_eq ?_ (fLR _ _)⟩, ⟨by decide, _, rfl, wkB_eq ?_ (fL _)⟩, trivial⟩
        ·exact lv_next (x := i) (y := (lBase fs ps i).r + 1) (z := (lBase fs ps i).d + 1) (w := (fs.getD i default).kind) hin hM
        ·(rw [lvOut_succ, if_pos hk, hM, List.map_append]; show List.take _ (List.drop 0 ((lvOut fs ps i).map encL)) ++ [_] = _; rw [List.drop_zero, List.take_of_length_le (by rw [List.length_map]; exact Nat.le_refl _)]; rfl))
    | (have hr : ¬ (fs.getD i default).rep = 2 := by assumption
       have hz : ¬ (fs.getD i default).rep = 0 := by assumption
       have hk : (fs.getD i default).kind = 0 := by assumption
       have hM : mkL fs ps (lvRun fs ps i) i = ⟨i, (lBase fs ps i).r, (lBase fs ps i).d + 1, (fs.getD i default).kind⟩ := by (simp only [mkL, hB]; rw [if_neg hr, if_pos hz])
       refine ⟨_, lB fs ps fs.length (i + 1), reb_num [0, 1] rfl ?_ ?_, ⟨i + 1, ⟨by omega, rfl⟩, .inr rfl⟩, by omega⟩
       ·exact ⟨.refl _, .refl _, .refl _, wk_slc (by rw [lvOut_succ, if_neg (by omega)]), .refl _, .refl _, .refl _, trivial⟩
       ·refine ⟨⟨by decide, _, rfl, wkB_eq ?_ (fLR _ _)⟩, ⟨by decide, _, rfl, wkB_eq ?_ (fL _)⟩, trivial⟩
        ·exact lv_next (x := i) (y := (lBase fs ps i).r) (z := (lBase fs ps i).d + 1) (w := (fs.getD i default).kind) hin hM
        ·rw [lvOut_succ, if_neg (by omega)])
    | (have hr : ¬ (fs.getD i default).rep = 2 := by assumption
       have hz : ¬ (fs.getD i default).rep = 0 := by assumption
       have hk : ¬ (fs.getD i default).kind = 0 := by assumption
       have hM : mkL fs ps (lvRun fs ps i) i = ⟨i, (lBase fs ps i).r, (lBase fs ps i).d + 1, (fs.getD i default).kind⟩ := by (simp only [mkL, hB]; rw [if_neg hr, if_pos hz])
       refine ⟨_, lB fs ps fs.length (i + 1), reb_num [0, 7] rfl ?_ ?_, ⟨i + 1, ⟨by omega, rfl⟩, .inr rfl⟩, by omega⟩
       ·exact ⟨.refl _, .refl _, .refl _, wk_slc (by rw [lvOut_succ, if_pos hk, List.length_append]; rfl), .refl _, .refl _, .refl _, trivial⟩
       ·refine ⟨⟨by decide, _, rfl, wkB_eq ?_ (fLR _ _)⟩, ⟨by decide, _, rfl, wkB_eq ?_ (fL _)⟩, trivial⟩
        ·exact lv_next (x := i) (y := (lBase fs ps i).r) (z := (lBase fs ps i).d + 1) (w := (fs.getD i default).kind) hin hM
        ·(rw [lvOut_succ, if_pos hk, hM, List.map_append]; show List.take _ (List.drop 0 ((lvOut fs ps i).map encL)) ++ [_] = _; rw [List.drop_zero, List.take_of_length_le (by rw [List.length_map]; exact Nat.le_refl _)]; rfl))
    | (have hr : (fs.getD i default).rep = 0 := by assumption
       have hk : (fs.getD i default).kind = 0 := by assumption
       have hM : mkL fs ps (lvRun fs ps i) i = ⟨i, (lBase fs ps i).r, (lBase fs ps i).d, (fs.getD i default).kind⟩ := by (simp only [mkL, hB]; rw [if_neg (by omega), if_neg (by omega)])
       refine ⟨_, lB fs ps fs.length (i + 1), reb_num [0, 1] rfl ?_ ?_, ⟨i + 1, ⟨by omega, rfl⟩, .inr rfl⟩, by omega⟩
       ·exact ⟨.refl _, .refl _, .refl _, wk_slc (by rw [lvOut_succ, if_neg (by omega)]), .refl _, .refl _, .refl _, trivial⟩
       ·refine ⟨⟨by decide, _, rfl, wkB_eq ?_ (fLR _ _)⟩, ⟨by decide, _, rfl, wkB_eq ?_ (fL _)⟩, trivial⟩
        ·exact lv_next (x := i) (y := (lBase fs ps i).r) (z := (lBase fs ps i).d) (w := (fs.getD i default).kind) hin hM
        ·rw [lvOut_succ, if_neg (by omega)])
    | (have hr : (fs.getD i default).rep = 0 := by assumption
       have hk : ¬ (fs.getD i default).kind = 0 := by assumption
       have hM : mkL fs ps (lvRun fs ps i) i = ⟨i, (lBase fs ps i).r, (lBase fs ps i).d, (fs.getD i default).kind⟩ := by (simp only [mkL, hB]; rw [if_neg (by omega), if_neg (by omega)])
       refine ⟨_, lB fs ps fs.length (i + 1), reb_num [0, 6] rfl ?_ ?_, ⟨i + 1, ⟨by omega, rfl⟩, .inr rfl⟩, by omega⟩
       ·exact ⟨.refl _, .refl _, .refl _, wk_slc (by rw [lvOut_succ, if_pos hk, List.length_append]; rfl), .refl _, .refl _, .refl _, trivial⟩
       ·refine ⟨⟨by decide, _, rfl, wkB_eq ?_ (fLR _ _)⟩, ⟨by decide, _, rfl, wkB_eq ?_ (fL _)⟩, trivial⟩
        ·exact lv_next (x := i) (y := (lBase fs ps i).r) (z := (lBase fs ps i).d) (w := (fs.getD i default).kind) hin hM
        ·(rw [lvOut_succ, if_pos hk, hM, List.map_append]; show List.take _ (List.drop 0 ((lvOut fs ps i).map encL)) ++ [_] = _; rw [List.drop_zero, List.take_of_length_le (by rw [List.length_map]; exact Nat.le_refl _)]; rfl))
  ·obtain rfl : i = fs.length := by omega
   repeat' (first | (refine And.intro ?_ ?_) | (intro h; (try first | replace h := of_decide_eq_true h | replace h := of_decide_eq_false h); (try simp only [asI_int, asS_str, asB_bool, encI_0, encI_00, encF_0, encF_1, encF_2, encF_3, encF_00, encF_01, encF_02, encF_03, encL_0, encL_1, encL_2, encL_3, encL_00, encL_01, encL_02, encL_03, Nat.zero_add, Nat.add_zero, Int.toNat_natCast, Int.toNat_zero] at h); (try simp only [decide_eq_true_eq, decide_eq_false_iff_not, Int.not_lt, Int.not_le, Int.toNat_natCast, ↓reduceIte, Nat.reduceAdd, reduceCtorEq, Int.reduceLT, Int.lt_irrefl, gt_iff_lt, not_true_eq_false, not_false_eq_true, Bool.not_true, Bool.not_false, decide_false, decide_true, Int.reduceLE, Int.reduceSub, Bool.false_eq_true, Bool.true_eq_false, Nat.reduceEqDiff, Nat.one_ne_zero, Nat.reduceLT, and_self, and_true, true_and, Int.natCast_zero, Int.cast_ofNat_Int, List.length_nil, ne_eq, Decidable.not_not] at h); try (exfalso; omega)))
   all_goals (try first | exact PlanIs.mk (by kernel_rfl) | omega | (show (_ : Int) * ((32 : Nat) : Int) ≤ _; omega) | (show (_ : Int) * ((8 : Nat) : Int) ≤ _; omega) | (show (_ : Int) * ((24 : Nat) : Int) ≤ _; omega) | exact rfl | exact Nat.le_of_ble_eq_true rfl | (show (_ : Nat) ≤ (_ : Nat); simp; done) | (show (_ : Nat) ≤ (_ : Nat); simp; omega))
   all_goals (try first | exact allLen_cut (enc := encL) (z := 4) (fun _ => rfl) _ _ _ | (show (0 + (lvOut fs ps fs.length).length) * 32 ≤ _; omega))
   ·refine ⟨_, .refl _ _ _, _, rfl, ?_⟩
    refine ⟨_, reb_nil (k := 2) 4 encL default rfl, _, rfl, ?_, rfl⟩
    have h0 : lvOut fs ps fs.length = [] := List.eq_nil_of_length_eq_zero (by omega)
    rw [h0]; rfl
   ·refine ⟨_, .refl _ _ _, _, rfl, ?_⟩
    refine ⟨_, reb_own (enc := encL) (k := 2) default (l := lvOut fs ps fs.length) rfl rfl (flat_append flat_nil (flat_take (fL _))) ?_ ?_, _, rfl, rfl, rfl⟩
    ·show List.take (0 + (lvOut fs ps fs.length).length) ([] ++ List.take (lvOut fs ps fs.length).length (List.drop 0 ((lvOut fs ps fs.length).map encL))) = _
     rw [List.nil_append, List.drop_zero, Nat.zero_add, List.take_take, Nat.min_self]
     exact List.take_of_length_le (Nat.le_of_eq (List.length_map ..))
    ·show 0 + (lvOut fs ps fs.length).length ≤ ([] ++ List.take (lvOut fs ps fs.length).length (List.drop 0 ((lvOut fs ps fs.length).map encL))).length
     simp
end Go.Proofs.Ytajieadpaeggcaa

end
section
set_option linter.unusedVariables false
set_option linter.unusedSimpArgs false
namespace Go.Proofs.Ytajieadpaeggcaa
open Go Go.Av
def S_leaves : SpecI := fun args K => ∃ fs, args = [vF fs] ∧ FsOk fs ∧ K (vL (leavesF fs))
theorem leaves_ok [Syms] : ImmOk Try.prog 44 S_leaves := by
 rintro args K ⟨fs, rfl, h, hk⟩
 exact ⟨rfl, _, rfl, hk, fnI tys_ok fns_ok noneT_det (pickT_imm_ok par_ok (pickT_ok (bodyT_ok tys_ok fns_ok noneT_det noneT_ok mixed) noneT_ok)) mixed (leaves_t fs h)⟩
end Go.Proofs.Ytajieadpaeggcaa

end
