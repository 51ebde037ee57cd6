/-
  The document's 'Leaves': by climbing from each leaf. A file's description without records, made of raw numbers. The statements'. What a file says of itself, written and read, is the same. Plain. Whether two files say the same. The program's.
-/
import Derived.Test.YtajieadpaeggcaaL15
import Derived.Test.YtajieadpaeggcaaL14
import Derived.Test.YtajieadpaeggcaaL11
import Derived.Test.YtajieadpaeggcaaSxOne
set_option linter.unusedVariables false
set_option linter.unusedSimpArgs false
section
set_option linter.unusedVariables false
set_option linter.unusedSimpArgs false
namespace Go.Proofs.Ytajieadpaeggcaa
open Go Go.Av
set_option maxRecDepth 100000
set_option maxHeartbeats 4000000
def rlE (fs : List Fd) (ps : List Int) (i : Nat) (o : AVal) : Env := [(0, vF fs), (3, vI ps), (4, o), (5, .int .i64 i)]
def rlA (fs : List Fd) (ps : List Int) (i : Nat) : St := ⟨rlE fs ps i .nils, [], 0⟩
def rlB (fs : List Fd) (ps : List Int) (i : Nat) : St := ⟨rlE fs ps i (.slice 0 0 (lvOut fs ps i).length 4 none), [(0, some (.cells ((lvOut fs ps i).map encL) false))], 1⟩
def clA (fs : List Fd) (ps : List Int) (i : Nat) (x : Lf) (k : Int) : St := ⟨rlE fs ps i .nils ++ [(6, .ptr 0 0 0), (7, .int .i64 k)], [(0, some (.cells [encL x] false))], 1⟩
def clB (fs : List Fd) (ps : List Int) (i : Nat) (x : Lf) (k : Int) : St := ⟨rlE fs ps i (.slice 0 0 (lvOut fs ps i).length 4 none) ++ [(6, .ptr 1 0 0), (7, .int .i64 k)], [(0, some (.cells ((lvOut fs ps i).map encL) false)), (1, some (.cells [encL x] false))], 2⟩
theorem lf_ext {a b : Lf} (h1 : a.field = b.field) (h2 : a.r = b.r) (h3 : a.d = b.d) (h4 : a.kind = b.kind) : a = b := by cases a; cases b; simp_all
theorem rleaves_t [Syms] (fs : List Fd) (hF : FsOk fs) :
    fnT noneT cRPar (fnTab fns) (tyTab tys) (plTab plt) 100 21 [vF fs] [] 0 (fun v H _ => v = vL (leavesF fs) ∧ H = []) := by
  have hl := hF.len
  refine ⟨fs, rfl, hF, ?_⟩
  have hpl := parents_length fs
  have ha := parents_ahead fs
  unfold leavesF
  generalize parentsF fs = ps at *
  refine ⟨fun m s => ∃ i : Nat, (i ≤ fs.length ∧ m = fs.length - i) ∧ ((lvOut fs ps i = [] ∧ s = rlA fs ps i) ∨ s = rlB fs ps i), ⟨_, rlA fs ps 0, reb_flat [0, 3, 4, 5] rfl, 0, ⟨by omega, rfl⟩, .inl ⟨rfl, rfl⟩⟩, ?_⟩
  rintro m s ⟨i, ⟨hi, rfl⟩, (⟨h0, rfl⟩ | rfl)⟩
  · have hol := lvOut_len_le fs ps i
    by_cases hin : i < fs.length
    · by_cases hk : (fs.getD i default).kind = 0
      · repeat' (first | (refine And.intro ?_ ?_) | (intro h; (try first | replace h := of_decide_eq_true h | replace h := of_decide_eq_false h); (try simp only [sg] at h); (try simp only [sx, ↓reduceIte, Nat.reduceAdd, reduceCtorEq, Int.reduceLT, Int.reduceLE, Int.reduceSub, Nat.reduceEqDiff, Nat.reduceLT] at h); try exact nz h))
        all_goals (try exact cz)
        exact ⟨_, rlA fs ps (i + 1), reb_flat [0, 3, 4, 5] rfl, ⟨i + 1, ⟨by omega, rfl⟩, .inl ⟨by rw [lvOut_succ, if_neg (fun h => h hk)]; exact h0, rfl⟩⟩, by omega⟩
      · repeat' (first | (refine And.intro ?_ ?_) | (intro h; (try first | replace h := of_decide_eq_true h | replace h := of_decide_eq_false h); (try simp only [sg] at h); (try simp only [sx, ↓reduceIte, Nat.reduceAdd, reduceCtorEq, Int.reduceLT, Int.reduceLE, Int.reduceSub, Nat.reduceEqDiff, Nat.reduceLT] at h); try exact nz h))
        all_goals (try exact cz)
        have hq := lv_bound (fs := fs) ha fs.length (Nat.le_refl _) i hin
        have hL : mkL fs ps (lvRun fs ps i) i = (lvRun fs ps fs.length).getD i default := (lvRun_at fs ps hin).symm
        have hR : upR fs ps fs.length i = (mkL fs ps (lvRun fs ps i) i).r := by rw [upR, if_pos (by omega), hL]; rfl
        have hD : upD fs ps fs.length i = (mkL fs ps (lvRun fs ps i) i).d := by rw [upD, if_pos (by omega), hL]; rfl
        rw [← hL] at hq
        have hf0 : (mkL fs ps (lvRun fs ps i) i).field = i := rfl
        have hf3 : (mkL fs ps (lvRun fs ps i) i).kind = (fs.getD i default).kind := rfl
        have hl1 : (lvOut fs ps (i + 1)).length = (lvOut fs ps i).length + 1 := by rw [lvOut_succ, if_pos hk, List.length_append]; rfl
        have hl2 : lvOut fs ps (i + 1) = lvOut fs ps i ++ [mkL fs ps (lvRun fs ps i) i] := by rw [lvOut_succ, if_pos hk]
        generalize mkL fs ps (lvRun fs ps i) i = L at *
        refine ⟨fun m s => ∃ (k r d : Int), (m = (k + 1).toNat ∧ -1 ≤ k ∧ k ≤ i ∧ r + upR fs ps fs.length k = L.r ∧ d + upD fs ps fs.length k = L.d ∧ 0 ≤ r ∧ r ≤ i - k ∧ 0 ≤ d ∧ d ≤ i - k) ∧ s = clA fs ps i ⟨i, r, d, (fs.getD i default).kind⟩ k, ⟨_, clA fs ps i ⟨i, 0, 0, (fs.getD i default).kind⟩ i, reb_num [0] rfl ?_ ?_, i, 0, 0, ⟨rfl, by omega, by omega, by omega, by omega, by omega, by omega, by omega, by omega⟩, rfl⟩, ?_⟩
        · exact ⟨.refl _, .refl _, .refl _, .refl _, .refl _, .refl _, trivial⟩
        · exact ⟨⟨by decide, _, rfl, wkB_eq rfl (fL [_])⟩, trivial⟩
        rintro m s ⟨k, r, d, ⟨rfl, hk1, hk2, hr1, hd1, hr0, hr2, hd0, hd2⟩, rfl⟩
        by_cases hk0 : 0 ≤ k
        · obtain ⟨k, rfl⟩ := Int.eq_ofNat_of_zero_le hk0
          have hs1 := upR_step (fs := fs) ha (k := k) (by omega)
          have hs2 := upD_step (fs := fs) ha (k := k) (by omega)
          have hq2 := ha k (by omega)
          rw [hs1] at hr1
          rw [hs2] at hd1
          repeat' (first | (refine And.intro ?_ ?_) | (intro h; (try first | replace h := of_decide_eq_true h | replace h := of_decide_eq_false h); (try simp only [sg] at h); (try simp only [sx, ↓reduceIte, Nat.reduceAdd, reduceCtorEq, Int.reduceLT, Int.reduceLE, Int.reduceSub, Nat.reduceEqDiff, Nat.reduceLT] at h); try exact nz h))
          all_goals (try exact cz)
          all_goals (try first | (show (-9223372036854775808 : Int) ≤ r + 1; omega) | (show r + 1 ≤ (9223372036854775807 : Int); omega) | (show (-9223372036854775808 : Int) ≤ d + 1; omega) | (show d + 1 ≤ (9223372036854775807 : Int); omega))
          · rw [if_pos (by assumption)] at hr1
            rw [if_pos (by assumption)] at hd1
            refine ⟨_, clA fs ps i ⟨i, r + 1, d + 1, (fs.getD i default).kind⟩ (ps.getD k 0), reb_num [0] rfl ?_ ?_, ⟨_, _, _, ⟨rfl, by omega, by omega, by omega, by omega, by omega, by omega, by omega, by omega⟩, rfl⟩, by omega⟩
            · exact ⟨.refl _, .refl _, .refl _, .refl _, .refl _, .refl _, trivial⟩
            · exact ⟨⟨by decide, _, rfl, wkB_eq rfl (fL [_])⟩, trivial⟩
          · rw [if_neg (by assumption)] at hr1
            rw [if_pos (by assumption)] at hd1
            refine ⟨_, clA fs ps i ⟨i, r, d + 1, (fs.getD i default).kind⟩ (ps.getD k 0), reb_num [0] rfl ?_ ?_, ⟨_, _, _, ⟨rfl, by omega, by omega, by omega, by omega, by omega, by omega, by omega, by omega⟩, rfl⟩, by omega⟩
            · exact ⟨.refl _, .refl _, .refl _, .refl _, .refl _, .refl _, trivial⟩
            · exact ⟨⟨by decide, _, rfl, wkB_eq rfl (fL [_])⟩, trivial⟩
          · rw [if_neg (by assumption)] at hr1
            rw [if_neg (fun hh => hh (by assumption))] at hd1
            refine ⟨_, clA fs ps i ⟨i, r, d, (fs.getD i default).kind⟩ (ps.getD k 0), reb_num [0] rfl ?_ ?_, ⟨_, _, _, ⟨rfl, by omega, by omega, by omega, by omega, by omega, by omega, by omega, by omega⟩, rfl⟩, by omega⟩
            · exact ⟨.refl _, .refl _, .refl _, .refl _, .refl _, .refl _, trivial⟩
            · exact ⟨⟨by decide, _, rfl, wkB_eq rfl (fL [_])⟩, trivial⟩
        · have hu1 : upR fs ps fs.length k = 0 := by rw [upR, if_neg hk0]
          have hu2 : upD fs ps fs.length k = 0 := by rw [upD, if_neg hk0]
          have hxL : (⟨i, r, d, (fs.getD i default).kind⟩ : Lf) = L := lf_ext hf0.symm (by show r = L.r; omega) (by show d = L.d; omega) hf3.symm
          repeat' (first | (refine And.intro ?_ ?_) | (intro h; (try first | replace h := of_decide_eq_true h | replace h := of_decide_eq_false h); (try simp only [sg] at h); (try simp only [sx, ↓reduceIte, Nat.reduceAdd, reduceCtorEq, Int.reduceLT, Int.reduceLE, Int.reduceSub, Nat.reduceEqDiff, Nat.reduceLT] at h); try exact nz h))
          all_goals (try exact cz)
          refine ⟨_, rlB fs ps (i + 1), reb_num [2] rfl ?_ ?_, ⟨i + 1, ⟨by omega, rfl⟩, .inr rfl⟩, by omega⟩
          · exact ⟨.refl _, .refl _, wk_slc (by rw [hl1]; rw [h0]; rfl), .refl _, trivial⟩
          · refine ⟨⟨by decide, _, rfl, wkB_eq ?_ (fL _)⟩, trivial⟩
            rw [hl2, h0, ← hxL]; rfl
    · repeat' (first | (refine And.intro ?_ ?_) | (intro h; (try first | replace h := of_decide_eq_true h | replace h := of_decide_eq_false h); (try simp only [sg] at h); (try simp only [sx, ↓reduceIte, Nat.reduceAdd, reduceCtorEq, Int.reduceLT, Int.reduceLE, Int.reduceSub, Nat.reduceEqDiff, Nat.reduceLT] at h); try exact nz h))
      all_goals (try exact cz)
      obtain rfl : i = fs.length := by omega
      exact ⟨_, reb_nil (k := 2) 4 encL default rfl, _, rfl, by rw [h0]; rfl, rfl⟩
  · have hol := lvOut_len_le fs ps i
    by_cases hin : i < fs.length
    · by_cases hk : (fs.getD i default).kind = 0
      · repeat' (first | (refine And.intro ?_ ?_) | (intro h; (try first | replace h := of_decide_eq_true h | replace h := of_decide_eq_false h); (try simp only [sg] at h); (try simp only [sx, ↓reduceIte, Nat.reduceAdd, reduceCtorEq, Int.reduceLT, Int.reduceLE, Int.reduceSub, Nat.reduceEqDiff, Nat.reduceLT] at h); try exact nz h))
        all_goals (try exact cz)
        refine ⟨_, rlB fs ps (i + 1), reb_num [0] rfl ?_ ?_, ⟨i + 1, ⟨by omega, rfl⟩, .inr rfl⟩, by omega⟩
        · exact ⟨.refl _, .refl _, wk_slc (by rw [lvOut_succ, if_neg (fun h => h hk)]), .refl _, trivial⟩
        · exact ⟨⟨by decide, _, rfl, wkB_eq (by rw [lvOut_succ, if_neg (fun h => h hk)]) (fL _)⟩, trivial⟩
      · repeat' (first | (refine And.intro ?_ ?_) | (intro h; (try first | replace h := of_decide_eq_true h | replace h := of_decide_eq_false h); (try simp only [sg] at h); (try simp only [sx, ↓reduceIte, Nat.reduceAdd, reduceCtorEq, Int.reduceLT, Int.reduceLE, Int.reduceSub, Nat.reduceEqDiff, Nat.reduceLT] at h); try exact nz h))
        all_goals (try exact cz)
        have hq := lv_bound (fs := fs) ha fs.length (Nat.le_refl _) i hin
        have hL : mkL fs ps (lvRun fs ps i) i = (lvRun fs ps fs.length).getD i default := (lvRun_at fs ps hin).symm
        have hR : upR fs ps fs.length i = (mkL fs ps (lvRun fs ps i) i).r := by rw [upR, if_pos (by omega), hL]; rfl
        have hD : upD fs ps fs.length i = (mkL fs ps (lvRun fs ps i) i).d := by rw [upD, if_pos (by omega), hL]; rfl
        rw [← hL] at hq
        have hf0 : (mkL fs ps (lvRun fs ps i) i).field = i := rfl
        have hf3 : (mkL fs ps (lvRun fs ps i) i).kind = (fs.getD i default).kind := rfl
        have hl1 : (lvOut fs ps (i + 1)).length = (lvOut fs ps i).length + 1 := by rw [lvOut_succ, if_pos hk, List.length_append]; rfl
        have hl2 : lvOut fs ps (i + 1) = lvOut fs ps i ++ [mkL fs ps (lvRun fs ps i) i] := by rw [lvOut_succ, if_pos hk]
        generalize mkL fs ps (lvRun fs ps i) i = L at *
        refine ⟨fun m s => ∃ (k r d : Int), (m = (k + 1).toNat ∧ -1 ≤ k ∧ k ≤ i ∧ r + upR fs ps fs.length k = L.r ∧ d + upD fs ps fs.length k = L.d ∧ 0 ≤ r ∧ r ≤ i - k ∧ 0 ≤ d ∧ d ≤ i - k) ∧ s = clB fs ps i ⟨i, r, d, (fs.getD i default).kind⟩ k, ⟨_, clB fs ps i ⟨i, 0, 0, (fs.getD i default).kind⟩ i, reb_num [0, 1] rfl ?_ ?_, i, 0, 0, ⟨rfl, by omega, by omega, by omega, by omega, by omega, by omega, by omega, by omega⟩, rfl⟩, ?_⟩
        · exact ⟨.refl _, .refl _, .refl _, .refl _, .refl _, .refl _, trivial⟩
        · exact ⟨⟨by decide, _, rfl, wkB_same (fL _)⟩, ⟨by decide, _, rfl, wkB_eq rfl (fL [_])⟩, trivial⟩
        rintro m s ⟨k, r, d, ⟨rfl, hk1, hk2, hr1, hd1, hr0, hr2, hd0, hd2⟩, rfl⟩
        by_cases hk0 : 0 ≤ k
        · obtain ⟨k, rfl⟩ := Int.eq_ofNat_of_zero_le hk0
          have hs1 := upR_step (fs := fs) ha (k := k) (by omega)
          have hs2 := upD_step (fs := fs) ha (k := k) (by omega)
          have hq2 := ha k (by omega)
          rw [hs1] at hr1
          rw [hs2] at hd1
          repeat' (first | (refine And.intro ?_ ?_) | (intro h; (try first | replace h := of_decide_eq_true h | replace h := of_decide_eq_false h); (try simp only [sg] at h); (try simp only [sx, ↓reduceIte, Nat.reduceAdd, reduceCtorEq, Int.reduceLT, Int.reduceLE, Int.reduceSub, Nat.reduceEqDiff, Nat.reduceLT] at h); try exact nz h))
          all_goals (try exact cz)
          all_goals (try first | (show (-9223372036854775808 : Int) ≤ r + 1; omega) | (show r + 1 ≤ (9223372036854775807 : Int); omega) | (show (-9223372036854775808 : Int) ≤ d + 1; omega) | (show d + 1 ≤ (9223372036854775807 : Int); omega))
          · rw [if_pos (by assumption)] at hr1
            rw [if_pos (by assumption)] at hd1
            refine ⟨_, clB fs ps i ⟨i, r + 1, d + 1, (fs.getD i default).kind⟩ (ps.getD k 0), reb_num [0, 1] rfl ?_ ?_, ⟨_, _, _, ⟨rfl, by omega, by omega, by omega, by omega, by omega, by omega, by omega, by omega⟩, rfl⟩, by omega⟩
            · exact ⟨.refl _, .refl _, .refl _, .refl _, .refl _, .refl _, trivial⟩
            · exact ⟨⟨by decide, _, rfl, wkB_same (fL _)⟩, ⟨by decide, _, rfl, wkB_eq rfl (fL [_])⟩, trivial⟩
          · rw [if_neg (by assumption)] at hr1
            rw [if_pos (by assumption)] at hd1
            refine ⟨_, clB fs ps i ⟨i, r, d + 1, (fs.getD i default).kind⟩ (ps.getD k 0), reb_num [0, 1] rfl ?_ ?_, ⟨_, _, _, ⟨rfl, by omega, by omega, by omega, by omega, by omega, by omega, by omega, by omega⟩, rfl⟩, by omega⟩
            · exact ⟨.refl _, .refl _, .refl _, .refl _, .refl _, .refl _, trivial⟩
            · exact ⟨⟨by decide, _, rfl, wkB_same (fL _)⟩, ⟨by decide, _, rfl, wkB_eq rfl (fL [_])⟩, trivial⟩
          · rw [if_neg (by assumption)] at hr1
            rw [if_neg (fun hh => hh (by assumption))] at hd1
            refine ⟨_, clB fs ps i ⟨i, r, d, (fs.getD i default).kind⟩ (ps.getD k 0), reb_num [0, 1] rfl ?_ ?_, ⟨_, _, _, ⟨rfl, by omega, by omega, by omega, by omega, by omega, by omega, by omega, by omega⟩, rfl⟩, by omega⟩
            · exact ⟨.refl _, .refl _, .refl _, .refl _, .refl _, .refl _, trivial⟩
            · exact ⟨⟨by decide, _, rfl, wkB_same (fL _)⟩, ⟨by decide, _, rfl, wkB_eq rfl (fL [_])⟩, trivial⟩
        · have hu1 : upR fs ps fs.length k = 0 := by rw [upR, if_neg hk0]
          have hu2 : upD fs ps fs.length k = 0 := by rw [upD, if_neg hk0]
          have hxL : (⟨i, r, d, (fs.getD i default).kind⟩ : Lf) = L := lf_ext hf0.symm (by show r = L.r; omega) (by show d = L.d; omega) hf3.symm
          repeat' (first | (refine And.intro ?_ ?_) | (intro h; (try first | replace h := of_decide_eq_true h | replace h := of_decide_eq_false h); (try simp only [sg] at h); (try simp only [sx, ↓reduceIte, Nat.reduceAdd, reduceCtorEq, Int.reduceLT, Int.reduceLE, Int.reduceSub, Nat.reduceEqDiff, Nat.reduceLT] at h); try exact nz h))
          all_goals (try exact cz)
          refine ⟨_, rlB fs ps (i + 1), reb_num [3] rfl ?_ ?_, ⟨i + 1, ⟨by omega, rfl⟩, .inr rfl⟩, by omega⟩
          · exact ⟨.refl _, .refl _, wk_slc (by rw [hl1]), .refl _, trivial⟩
          · refine ⟨⟨by decide, _, rfl, wkB_eq ?_ (fL _)⟩, trivial⟩
            rw [hl2, List.map_append, ← hxL]; show List.take _ (List.drop 0 ((lvOut fs ps i).map encL)) ++ [_] = _; rw [List.drop_zero, List.take_of_length_le (by rw [List.length_map]; exact Nat.le_refl _)]; rfl
    · repeat' (first | (refine And.intro ?_ ?_) | (intro h; (try first | replace h := of_decide_eq_true h | replace h := of_decide_eq_false h); (try simp only [sg] at h); (try simp only [sx, ↓reduceIte, Nat.reduceAdd, reduceCtorEq, Int.reduceLT, Int.reduceLE, Int.reduceSub, Nat.reduceEqDiff, Nat.reduceLT] at h); try exact nz h))
      all_goals (try exact cz)
      obtain rfl : i = fs.length := by omega
      exact ⟨_, reb_own (enc := encL) (k := 2) default (l := lvOut fs ps fs.length) rfl rfl (fL _) (List.take_of_length_le (by simp)) (by simp), _, rfl, rfl, rfl⟩
theorem rleaves_ok [Syms] : ImmOk Try.prog 21 S_leaves := by
  rintro args K ⟨fs, rfl, h, hk⟩
  exact ⟨rfl, _, rfl, hk, fnI tys_ok fns_ok noneT_det cRPar_ok mixed (rleaves_t fs h)⟩
end Go.Proofs.Ytajieadpaeggcaa

end
section
set_option linter.unusedVariables false
set_option linter.unusedSimpArgs false
namespace Go.Proofs.Ytajieadpaeggcaa
open Go Go.Av
set_option maxRecDepth 100000
set_option maxHeartbeats 4000000
abbrev cM0 : CallT := pickT 20 (immT S_make) (pickT 21 (immT S_leaves) noneT)
theorem cM0_det [Syms] : cM0.det Try.prog := pickT_imm make_ok' (pickT_imm rleaves_ok noneT_det)
noncomputable def plM0 : Nat → Nat → Pl := plAdd [(11, 1)] (plTab plt)
theorem make0_t [Syms] (ns : List Int) (hn : ns.length ≤ 9223372036854775807) :
    fnT cM0 cM0 (fnTab fns) (tyTab tys) plM0 100 11 [vI ns, .nils, .nils] [] 0 (subP (fun v H _ => v = .agg (encM ⟨makeF ns, 0, []⟩) ∧ H = [])) := by
  repeat' (first | (refine And.intro ?_ ?_) | (intro h; (try first | replace h := of_decide_eq_true h | replace h := of_decide_eq_false h); (try simp only [sg, sq] at h); (try simp only [sx, ↓reduceIte, Nat.reduceAdd, reduceCtorEq, Int.reduceLT, Int.reduceLE, Int.reduceSub, Nat.reduceEqDiff, Nat.reduceLT] at h); try exact nz h))
  all_goals (try exact cz)
  refine ⟨ns, rfl, hn, ?_⟩
  have hfs := make_ok ns
  generalize makeF ns = s at *
  repeat' (first | (refine And.intro ?_ ?_) | (intro h; (try first | replace h := of_decide_eq_true h | replace h := of_decide_eq_false h); (try simp only [sg, sq] at h); (try simp only [sx, ↓reduceIte, Nat.reduceAdd, reduceCtorEq, Int.reduceLT, Int.reduceLE, Int.reduceSub, Nat.reduceEqDiff, Nat.reduceLT] at h); try exact nz h))
  all_goals (try exact cz)
  refine ⟨⟨[(1, .nils), (2, .nils), (6, .ptr 1 0 0), (7, .ptr 0 0 0)], [(0, some (.cells [rowM (vF s) 0 .nils] false)), (1, some (.cells [rowM .nils 0 .nils] false))], 2⟩, reb_num [1, 0] (by exact rfl) ⟨.refl _, .refl _, .refl _, .refl _, trivial⟩ ⟨⟨by decide, _, rfl, .refl _⟩, ⟨by decide, _, rfl, .refl _⟩, trivial⟩, ?_⟩
  repeat' (first | (refine And.intro ?_ ?_) | (intro h; (try first | replace h := of_decide_eq_true h | replace h := of_decide_eq_false h); (try simp only [sg, sq] at h); (try simp only [sx, ↓reduceIte, Nat.reduceAdd, reduceCtorEq, Int.reduceLT, Int.reduceLE, Int.reduceSub, Nat.reduceEqDiff, Nat.reduceLT] at h); try exact nz h))
  all_goals (try exact cz)
  refine ⟨s, rfl, hfs, ?_⟩
  repeat' (first | (refine And.intro ?_ ?_) | (intro h; (try first | replace h := of_decide_eq_true h | replace h := of_decide_eq_false h); (try simp only [sg, sq] at h); (try simp only [sx, ↓reduceIte, Nat.reduceAdd, reduceCtorEq, Int.reduceLT, Int.reduceLE, Int.reduceSub, Nat.reduceEqDiff, Nat.reduceLT] at h); try exact nz h))
  all_goals (try exact cz)
  refine loop_once ?_
  repeat' (first | (refine And.intro ?_ ?_) | (intro h; (try first | replace h := of_decide_eq_true h | replace h := of_decide_eq_false h); (try simp only [sg, sq] at h); (try simp only [sx, ↓reduceIte, Nat.reduceAdd, reduceCtorEq, Int.reduceLT, Int.reduceLE, Int.reduceSub, Nat.reduceEqDiff, Nat.reduceLT] at h); try exact nz h))
  all_goals (try exact cz)
  exact ⟨⟨[(6, .ptr 1 0 0)], [(0, some (.cells [rowM (vF s) 0 .nils] false)), (1, some (.cells [encM ⟨s, 0, []⟩] false))], 2⟩, reb_num [0, 1] (by exact rfl) ⟨.refl _, trivial⟩ ⟨⟨by decide, _, rfl, .refl _⟩, ⟨by decide, _, rfl, wkB_row (row := encM ⟨s, 0, []⟩) ⟨.un rfl, .refl _, .zero _ _ rfl, trivial⟩ (eM _)⟩, trivial⟩, _, rfl, [], fun n b h => (by rw [Heap.get_nil] at h; cases h), rfl, rfl⟩
def S_make0 : SpecI := fun args K => ∃ ns, args = [vI ns, .nils, .nils] ∧ ns.length ≤ 9223372036854775807 ∧ K (.agg (encM ⟨makeF ns, 0, []⟩))
theorem make0_ok [Syms] : ImmOk Try.prog 11 S_make0 := by
  rintro args K ⟨ns, rfl, h, hk⟩
  exact ⟨rfl, _, rfl, hk, FnSem.forget (fnT_sound tys_ok fns_ok cM0_det cM0_det.ok mixed (make0_t ns h))⟩
end Go.Proofs.Ytajieadpaeggcaa

end
section
set_option linter.unusedVariables false
set_option linter.unusedSimpArgs false
namespace Go.Proofs.Ytajieadpaeggcaa
open Go Go.Av
def Num20 (x : Int) : Prop := 0 ≤ x ∧ x ≤ 1048576
theorem plainR_app {x : Int} (h : Num20 x) (r : List UInt8) : plainR ⟨nuB [x] ++ r, 0⟩ = (x.toNat, ⟨r, 0⟩) := by
  obtain ⟨h1, h2⟩ := h
  have := numR_app (n := x.toNat) (most := 1048576) 14 r (by omega) (by decide)
  unfold plainR
  rw [nuB, nuB, List.append_nil]
  exact this
theorem numN_app {n most : Nat} (w : Int) (r : List UInt8) (h : n ≤ most) (hm : most < 128 ^ 8) : numR most w ⟨nuB [(n : Int)] ++ r, 0⟩ = (n, ⟨r, 0⟩) := by
  have := numR_app (n := n) (most := most) w r h hm
  rw [nuB, nuB, List.append_nil, Int.toNat_natCast]
  exact this
theorem leV_mod : ∀ (n v : Nat), leV (leB n v) = v % 256 ^ n
  | 0, v => by rw [leB, leV, Nat.pow_zero, Nat.mod_one]
  | n + 1, v => by
    have ih := leV_mod n (v / 256)
    rw [leB, leV, ih, ofNat_lt (Nat.mod_lt _ (by decide)), Nat.pow_succ, Nat.mul_comm (256 ^ n) 256, Nat.mod_mul]
theorem fixV_app (n v : Nat) (r : List UInt8) : fixR n ⟨leB n v ++ r, 0⟩ = (v % 256 ^ n, ⟨r, 0⟩) := by
  have := takeR_app (leB n v) r
  rw [leB_len] at this
  unfold fixR
  rw [this, leV_mod]
theorem truthR_app (b : Bool) (r : List UInt8) : truthR ⟨flB b ++ r, 0⟩ = (if b = true then 1 else 0, ⟨r, 0⟩) := by
  have h : flB b = leB 1 (if b = true then 1 else 0) := by cases b <;> rfl
  have := fixV_app 1 (if b = true then 1 else 0) r
  unfold truthR
  rw [h, this]
  cases b <;> rfl
structure PgG (p : Pg) : Prop where
  n1 : Num20 p.rows
  n2 : Num20 p.cells
  n3 : Num20 p.enc
  n4 : Num20 p.rlen
  n5 : Num20 p.dlen
  n6 : Num20 p.vlen
  crc : CrcOk p.crc
theorem nuB_cons (x : Int) (l : List Int) : nuB (x :: l) = nuB [x] ++ nuB l := by rw [nuB, nuB, nuB, List.append_nil]
theorem fixC_app {x : Int} (h : CrcOk x) (r : List UInt8) : fixR 4 ⟨leB 4 x.toNat ++ r, 0⟩ = (x.toNat, ⟨r, 0⟩) := by
  rw [fixV_app, Nat.mod_eq_of_lt (by have := h.2; have := h.1; omega)]
theorem pageR_app {p : Pg} (h : PgG p) (r : List UInt8) : pageR ⟨pgB p ++ r, 0⟩ = (p, ⟨r, 0⟩) := by
  obtain ⟨h1, h2, h3, h4, h5, h6, h7⟩ := h
  unfold pageR pgB
  rw [nuB_cons, nuB_cons p.cells, nuB_cons p.enc, nuB_cons p.rlen, nuB_cons p.dlen]
  simp only [List.append_assoc]
  rw [plainR_app h1]
  simp only
  rw [plainR_app h2]
  simp only
  rw [plainR_app h3]
  simp only
  rw [plainR_app h4]
  simp only
  rw [plainR_app h5]
  simp only
  rw [plainR_app h6]
  simp only
  rw [fixC_app h7]
  simp only [Int.toNat_of_nonneg h1.1, Int.toNat_of_nonneg h2.1, Int.toNat_of_nonneg h3.1, Int.toNat_of_nonneg h4.1, Int.toNat_of_nonneg h5.1, Int.toNat_of_nonneg h6.1, Int.toNat_of_nonneg h7.1]
theorem pagesR_app : ∀ (l s : List Pg) (r : List UInt8), (∀ p ∈ l, PgG p) → pagesR l.length ⟨pgsB l ++ r, 0⟩ s = (s ++ l, ⟨r, 0⟩)
  | [], s, r, _ => by rw [List.append_nil]; rfl
  | p :: l, s, r, h => by
    have hp := pageR_app (h p (List.mem_cons_self ..)) (pgsB l ++ r)
    rw [List.length_cons, pagesR, pgsB, List.append_assoc, hp, if_neg (by simp), pagesR_app l _ r fun g hg => h g (List.mem_cons_of_mem _ hg)]
    simp
def VlG (k : Int) (v : Vl) : Prop := (k = 1 ∧ (v.n = 0 ∨ v.n = 1) ∧ v.s = []) ∨ (k = 2 ∧ (-2147483648 ≤ v.n ∧ v.n ≤ 2147483647) ∧ v.s = []) ∨ (k = 3 ∧ (-9223372036854775808 ≤ v.n ∧ v.n ≤ 9223372036854775807) ∧ v.s = []) ∨ ((k ≠ 1 ∧ k ≠ 2 ∧ k ≠ 3) ∧ v.n = 0 ∧ v.s.length ≤ 100)
theorem wrU64 (x : Int) (h : -9223372036854775808 ≤ x ∧ x ≤ 9223372036854775807) : (wr .u64 x).toNat = (x % 18446744073709551616).toNat := by
  unfold wr
  split
  · rename_i h1
    have h2 : (0 : Int) ≤ x := h1.1
    omega
  · show (if (false && decide (x % (2 ^ 64 : Int) ≥ (2 ^ 63 : Int))) = true then x % (2 ^ 64 : Int) - (2 ^ 64 : Int) else x % (2 ^ 64 : Int)).toNat = _
    simp
theorem wrI64b (x : Int) (h : -9223372036854775808 ≤ x ∧ x ≤ 9223372036854775807) : wr .i64 ((x % 18446744073709551616).toNat : Nat) = x := by
  unfold wr
  split
  · rename_i h1
    have h2 : (((x % 18446744073709551616).toNat : Nat) : Int) ≤ 9223372036854775807 := h1.2
    omega
  · rename_i h1
    have h2 : ¬ (((x % 18446744073709551616).toNat : Nat) : Int) ≤ 9223372036854775807 := fun hh => h1 ⟨by show (-9223372036854775808 : Int) ≤ _; omega, hh⟩
    show (if (true && decide ((((x % 18446744073709551616).toNat : Nat) : Int) % (2 ^ 64 : Int) ≥ (2 ^ 63 : Int))) = true then (((x % 18446744073709551616).toNat : Nat) : Int) % (2 ^ 64 : Int) - (2 ^ 64 : Int) else (((x % 18446744073709551616).toNat : Nat) : Int) % (2 ^ 64 : Int)) = x
    split <;> rename_i h3
    · omega
    · simp at h3
      omega
theorem wrI32b (x : Int) (h : -2147483648 ≤ x ∧ x ≤ 2147483647) : wr .i32 (((x % 18446744073709551616).toNat % 256 ^ 4 : Nat) : Int) = x := by
  unfold wr
  split
  · rename_i h1
    have h2 : (((x % 18446744073709551616).toNat % 256 ^ 4 : Nat) : Int) ≤ 2147483647 := h1.2
    omega
  · rename_i h1
    have h2 : ¬ (((x % 18446744073709551616).toNat % 256 ^ 4 : Nat) : Int) ≤ 2147483647 := fun hh => h1 ⟨by show (-2147483648 : Int) ≤ _; omega, hh⟩
    show (if (true && decide ((((x % 18446744073709551616).toNat % 256 ^ 4 : Nat) : Int) % (2 ^ 32 : Int) ≥ (2 ^ 31 : Int))) = true then (((x % 18446744073709551616).toNat % 256 ^ 4 : Nat) : Int) % (2 ^ 32 : Int) - (2 ^ 32 : Int) else (((x % 18446744073709551616).toNat % 256 ^ 4 : Nat) : Int) % (2 ^ 32 : Int)) = x
    split <;> rename_i h3
    · omega
    · simp at h3
      omega
theorem valR_app {k : Int} {v : Vl} (h : VlG k v) (r : List UInt8) : valR k ⟨vlB k v ++ r, 0⟩ = (v, ⟨r, 0⟩) := by
  obtain ⟨n, s⟩ := v
  rcases h with ⟨rfl, h1, h2⟩ | ⟨rfl, h1, h2⟩ | ⟨rfl, h1, h2⟩ | ⟨h0, h1, h2⟩
  · have h2 : s = [] := h2
    subst h2
    have h1 : n = 0 ∨ n = 1 := h1
    rcases h1 with rfl | rfl
    · rw [valR_1]
      have := truthR_app false r
      rw [show vlB 1 ⟨0, []⟩ = flB false from rfl, this]
      rfl
    · rw [valR_1]
      have := truthR_app true r
      rw [show vlB 1 ⟨1, []⟩ = flB true from rfl, this]
      rfl
  · have h2 : s = [] := h2
    subst h2
    have h1 : -2147483648 ≤ n ∧ n ≤ 2147483647 := h1
    rw [valR_2, show vlB 2 ⟨n, []⟩ = leB 4 (wr .u64 n).toNat from rfl, fixV_app, wrU64 n (by omega)]
    simp only [wrI32b n h1]
  · have h2 : s = [] := h2
    subst h2
    have h1 : -9223372036854775808 ≤ n ∧ n ≤ 9223372036854775807 := h1
    rw [valR_3, show vlB 3 ⟨n, []⟩ = leB 8 (wr .u64 n).toNat from rfl, fixV_app, wrU64 n h1, Nat.mod_eq_of_lt (by omega)]
    simp only [wrI64b n h1]
  · have h1 : n = 0 := h1
    subst h1
    have h2 : s.length ≤ 100 := h2
    have hv : vlB k ⟨0, s⟩ = nuB [(s.length : Int)] ++ s := by unfold vlB; rw [if_neg h0.1, if_neg h0.2.1, if_neg h0.2.2]
    rw [valR_4 h0, hv, List.append_assoc, numN_app (most := 100) 5 _ h2 (by decide)]
    simp only [takeR_app]
structure CkG (k : Int) (c : Ck) : Prop where
  n1 : Num20 c.words
  n2 : Num20 c.size
  crc : CrcOk c.crc
  len : c.pages.length ≤ 200
  pages : ∀ p ∈ c.pages, PgG p
  st0 : c.known = false → c.st = default
  nulls : c.known = true → Num20 c.st.nulls
  has0 : c.known = true → c.st.has = false → c.st.mn = default ∧ c.st.mx = default
  has1 : c.known = true → c.st.has = true → VlG k c.st.mn ∧ VlG k c.st.mx
theorem chunkR_app {k : Int} {c : Ck} (h : CkG k c) (r : List UInt8) : chunkR k ⟨ckB k c ++ r, 0⟩ = (c, ⟨r, 0⟩) := by
  obtain ⟨w, sz, cr, pg, kn, st⟩ := c
  obtain ⟨h1, h2, h3, h4, h5, h6, h7, h8, h9⟩ := h
  simp only at h1 h2 h3 h4 h5 h6 h7 h8 h9
  unfold chunkR ckR0 ckB
  rw [nuB_cons]
  simp only [List.append_assoc]
  rw [plainR_app h1]
  simp only
  rw [plainR_app h2]
  simp only
  rw [fixC_app h3]
  simp only
  rw [numN_app (most := 200) 4 _ h4 (by decide)]
  simp only
  rw [pagesR_app pg [] _ h5]
  simp only [List.nil_append]
  have hk : knowR k ⟨flB kn ++ ((if kn = true then stB k st else []) ++ r), 0⟩ = ((kn, st), ⟨r, 0⟩) := by
    unfold knowR
    rw [truthR_app]
    cases kn
    · rw [h6 rfl]
      simp
    · simp only [if_true]
      have h7 := h7 rfl
      have h8 := h8 rfl
      have h9 := h9 rfl
      obtain ⟨nu, ha, mn, mx⟩ := st
      simp only at h7 h8 h9
      have h7n : 0 ≤ nu := h7.1
      unfold stB
      simp only [List.append_assoc]
      rw [plainR_app h7]
      simp only
      rw [truthR_app]
      cases ha
      · obtain ⟨e1, e2⟩ := h8 rfl
        subst e1 e2
        simp <;> omega
      · obtain ⟨e1, e2⟩ := h9 rfl
        simp only [if_true, List.append_assoc]
        rw [valR_app e1]
        simp only
        rw [valR_app e2]
        simp <;> omega
  rw [hk]
  simp only [Int.toNat_of_nonneg h1.1, Int.toNat_of_nonneg h2.1, Int.toNat_of_nonneg h3.1]
theorem chunksR_app : ∀ (ks : List Int) (cs s : List Ck) (r : List UInt8), cs.length = ks.length → (∀ i, i < cs.length → CkG (ks.getD i 0) (cs.getD i default)) → chunksR ks ⟨cksB ks cs ++ r, 0⟩ s = (s ++ cs, ⟨r, 0⟩)
  | [], [], s, r, _, _ => by rw [List.append_nil]; rfl
  | [], _ :: _, s, r, h, _ => by simp at h
  | _ :: _, [], s, r, h, _ => by simp at h
  | k :: ks, c :: cs, s, r, hl, h => by
    have hc := chunkR_app (h 0 (by simp)) (cksB ks cs ++ r)
    have e1 : (k :: ks).getD 0 0 = k := rfl
    have e2 : (c :: cs).getD 0 default = c := rfl
    rw [e1, e2] at hc
    rw [chunksR, cksB, List.append_assoc, hc, if_neg (by simp), chunksR_app ks cs _ r (by simpa using hl) fun i hi => h (i + 1) (by simpa using hi)]
    simp
structure RwG (ks : List Int) (g : Rw) : Prop where
  n : Num20 g.n
  len : g.chunks.length = ks.length
  chunks : ∀ i, i < g.chunks.length → CkG (ks.getD i 0) (g.chunks.getD i default)
theorem groupR_app {ks : List Int} {g : Rw} (h : RwG ks g) (r : List UInt8) : groupR ks ⟨rwB ks g ++ r, 0⟩ = (g, ⟨r, 0⟩) := by
  obtain ⟨n, cs⟩ := g
  obtain ⟨h1, h2, h3⟩ := h
  simp only at h1 h2 h3
  unfold groupR rwB
  simp only [List.append_assoc]
  rw [plainR_app h1]
  simp only
  rw [chunksR_app ks cs [] r h2 h3]
  simp only [Int.toNat_of_nonneg h1.1, List.nil_append]
theorem groupsR_app (ks : List Int) : ∀ (l s : List Rw) (r : List UInt8), (∀ g ∈ l, RwG ks g) → groupsR ks l.length ⟨rwsB ks l ++ r, 0⟩ s = (s ++ l, ⟨r, 0⟩)
  | [], s, r, _ => by rw [List.append_nil]; rfl
  | p :: l, s, r, h => by
    have hp := groupR_app (h p (List.mem_cons_self ..)) (rwsB ks l ++ r)
    rw [List.length_cons, groupsR, rwsB, List.append_assoc, hp, if_neg (by simp), groupsR_app ks l _ r fun g hg => h g (List.mem_cons_of_mem _ hg)]
    simp
structure MtG (m : Mt) : Prop where
  sb : ∀ f ∈ m.s, SbOk f
  s40 : m.s.length ≤ 40
  chk : checkF m.s = 0
  sl : (sbF m.s).length ≤ 2000
  n : Num20 m.n
  len : m.groups.length ≤ 200
  groups : ∀ g ∈ m.groups, RwG (kindsF m.s) g
theorem metaR_app {m : Mt} (h : MtG m) (r : List UInt8) : metaR ⟨mtB m ++ r, 0⟩ = (m, ⟨r, 0⟩) := by
  obtain ⟨s, n, gs⟩ := m
  obtain ⟨h1, h2, h3, h4, h5, h6, h7⟩ := h
  simp only at h1 h2 h3 h4 h5 h6 h7
  unfold metaR mtB
  rw [nuB_cons n]
  simp only [List.append_assoc]
  rw [numN_app (most := 2000) 5 _ h4 (by decide)]
  simp only [takeR_app]
  rw [if_neg (by simp), parseSF_sbF h1 h2 h3]
  simp only
  rw [show failR ⟨nuB [n] ++ (nuB [(gs.length : Int)] ++ (rwsB (kindsF s) gs ++ r)), 0⟩ 0 = ⟨nuB [n] ++ (nuB [(gs.length : Int)] ++ (rwsB (kindsF s) gs ++ r)), 0⟩ from rfl, plainR_app h5]
  simp only
  rw [numN_app (most := 200) 4 _ h6 (by decide)]
  simp only
  rw [groupsR_app (kindsF s) gs [] r h7]
  simp only [Int.toNat_of_nonneg h5.1, List.nil_append]
/-- What is written is read. -/
theorem parseMF_mtB {m : Mt} (h : MtG m) (hw : wholeF m = true) : parseMF (mtB m) = (m, 0) := by
  have := metaR_app h []
  rw [List.append_nil] at this
  show finMF (metaR ⟨mtB m, 0⟩) = _
  rw [this, finMF_end, if_neg (by rw [hw]; decide)]
end Go.Proofs.Ytajieadpaeggcaa

end
section
set_option linter.unusedVariables false
set_option linter.unusedSimpArgs false
namespace Go.Proofs.Ytajieadpaeggcaa
open Go Go.Av
set_option maxRecDepth 100000
set_option maxHeartbeats 4000000
def lsEq {α : Type} (f : α → α → Bool) : List α → List α → Bool
  | [], [] => true
  | a :: l, b :: m => f a b && lsEq f l m
  | _, _ => false
def fdEq (a b : Fd) : Bool := eqb a.name b.name && (decide (a.rep = b.rep) && (decide (a.kind = b.kind) && (decide (a.kids = b.kids) && true)))
def pgEq (a b : Pg) : Bool := decide (a.rows = b.rows) && (decide (a.cells = b.cells) && (decide (a.enc = b.enc) && (decide (a.rlen = b.rlen) && (decide (a.dlen = b.dlen) && (decide (a.vlen = b.vlen) && (decide (a.crc = b.crc) && true))))))
def vlEq (a b : Vl) : Bool := decide (a.n = b.n) && (eqb a.s b.s && true)
def stEq (a b : Sta) : Bool := (decide (a.nulls = b.nulls) && true) && ((decide (a.has = b.has) && true) && (vlEq a.mn b.mn && (vlEq a.mx b.mx && true)))
def ckEq (a b : Ck) : Bool := decide (a.words = b.words) && decide (a.size = b.size) && decide (a.crc = b.crc) && lsEq pgEq a.pages b.pages && decide (a.known = b.known) && stEq a.st b.st
def rwEq (a b : Rw) : Bool := decide (a.n = b.n) && lsEq ckEq a.chunks b.chunks
def mtEq (a b : Mt) : Bool := lsEq fdEq a.s b.s && decide (a.n = b.n) && lsEq rwEq a.groups b.groups
theorem lsEq_drop {α : Type} [Inhabited α] (f : α → α → Bool) {l m : List α} {i : Nat} (h : i < l.length) (h2 : i < m.length) : lsEq f (l.drop i) (m.drop i) = (f (l.getD i default) (m.getD i default) && lsEq f (l.drop (i + 1)) (m.drop (i + 1))) := by
  rw [List.drop_eq_getElem_cons h, List.drop_eq_getElem_cons h2, lsEq]
  simp [h, h2]
theorem lsEq_len {α : Type} (f : α → α → Bool) : ∀ {l m : List α}, l.length ≠ m.length → lsEq f l m = false
  | [], [], h => absurd rfl h
  | [], _ :: _, _ => rfl
  | _ :: _, [], _ => rfl
  | a :: l, b :: m, h => by rw [lsEq, lsEq_len f (by simpa using h)]; simp
theorem lsEq_end {α : Type} (f : α → α → Bool) {l m : List α} (h : l.length = m.length) : lsEq f (l.drop l.length) (m.drop l.length) = true := by
  rw [List.drop_length, h, List.drop_length]; rfl
theorem eqFs_t [Syms] (a b : List Fd) (hl : a.length ≤ 1000000) : fnT noneT noneT (fnTab fns) (tyTab tys) (plTab plt) 100 68 [vF a, vF b] [] 0 (fun v H _ => v = .bool (lsEq fdEq a b) ∧ H = []) := by
  by_cases h0 : a.length = b.length
  · repeat' (first | (refine And.intro ?_ ?_) | (intro h; (try first | replace h := of_decide_eq_true h | replace h := of_decide_eq_false h); (try simp only [sg, sq] at h); (try simp only [sx, ↓reduceIte, Nat.reduceAdd, reduceCtorEq, Int.reduceLT, Int.reduceLE, Int.reduceSub, Nat.reduceEqDiff, Nat.reduceLT] at h); try exact nz h))
    all_goals (try exact cz)
    all_goals (try ((with_reducible first | show (_ : Int) ≤ _ | show (_ : Int) < _); (try simp only [sg, sq]); omega))
    refine ⟨fun m s => ∃ i : Nat, (i ≤ a.length ∧ m = a.length - i ∧ lsEq fdEq a b = lsEq fdEq (a.drop i) (b.drop i)) ∧ s = ⟨[(0, vF a), (1, vF b), (12, .int .i64 a.length), (13, .int .i64 i)], [], 0⟩, ⟨_, ⟨[(0, vF a), (1, vF b), (12, .int .i64 a.length), (13, .int .i64 (0 : Nat))], [], 0⟩, reb_num [] rfl ⟨.refl _, .refl _, .refl _, .refl _, trivial⟩ trivial, 0, ⟨by omega, rfl, rfl⟩, rfl⟩, ?_⟩
    rintro m s ⟨i, ⟨hi, rfl, he⟩, rfl⟩
    by_cases h1 : i < a.length
    · have hd := lsEq_drop (l := a) (m := b) fdEq h1 (by omega)
      rw [← he] at hd
      cases hq : fdEq (a.getD i default) (b.getD i default)
      · rw [hq, Bool.false_and] at hd
        have hx1 : (eqb (a.getD i default).name (b.getD i default).name && (decide ((a.getD i default).rep = (b.getD i default).rep) && (decide ((a.getD i default).kind = (b.getD i default).kind) && (decide ((a.getD i default).kids = (b.getD i default).kids) && true)))) = false := hq
        have hx2 := hx1
        have hx3 := hx1
        have hx4 := hx1
        rw [hd]
        repeat' (first | (refine And.intro ?_ ?_) | (intro h; (try first | replace h := of_decide_eq_true h | replace h := of_decide_eq_false h); (try simp only [sg, sq, hx1, hx2, hx3, hx4] at h); (try simp only [sx, ↓reduceIte, Nat.reduceAdd, reduceCtorEq, Int.reduceLT, Int.reduceLE, Int.reduceSub, Nat.reduceEqDiff, Nat.reduceLT] at h); try exact nz h))
        all_goals (try exact cz)
        all_goals (try ((with_reducible first | show (_ : Int) ≤ _ | show (_ : Int) < _); (try simp only [sg, sq]); omega))
        all_goals first | exact ⟨_, reb_flat [4] rfl, _, rfl, rfl, rfl⟩ | skip
      · rw [hq, Bool.true_and] at hd
        have hx1 : (eqb (a.getD i default).name (b.getD i default).name && (decide ((a.getD i default).rep = (b.getD i default).rep) && (decide ((a.getD i default).kind = (b.getD i default).kind) && (decide ((a.getD i default).kids = (b.getD i default).kids) && true)))) = true := hq
        have hx2 := hx1
        have hx3 := hx1
        have hx4 := hx1
        repeat' (first | (refine And.intro ?_ ?_) | (intro h; (try first | replace h := of_decide_eq_true h | replace h := of_decide_eq_false h); (try simp only [sg, sq, hx1, hx2, hx3, hx4] at h); (try simp only [sx, ↓reduceIte, Nat.reduceAdd, reduceCtorEq, Int.reduceLT, Int.reduceLE, Int.reduceSub, Nat.reduceEqDiff, Nat.reduceLT] at h); try exact nz h))
        all_goals (try exact cz)
        all_goals (try ((with_reducible first | show (_ : Int) ≤ _ | show (_ : Int) < _); (try simp only [sg, sq]); omega))
        all_goals first | exact ⟨_, ⟨[(0, vF a), (1, vF b), (12, .int .i64 a.length), (13, .int .i64 ((i + 1 : Nat) : Int))], [], 0⟩, reb_num [] rfl ⟨.refl _, .refl _, .refl _, wk_int (by omega), trivial⟩ trivial, ⟨i + 1, ⟨by omega, rfl, hd⟩, rfl⟩, by omega⟩ | skip
    · obtain rfl : i = a.length := by omega
      rw [he, lsEq_end _ h0]
      repeat' (first | (refine And.intro ?_ ?_) | (intro h; (try first | replace h := of_decide_eq_true h | replace h := of_decide_eq_false h); (try simp only [sg, sq] at h); (try simp only [sx, ↓reduceIte, Nat.reduceAdd, reduceCtorEq, Int.reduceLT, Int.reduceLE, Int.reduceSub, Nat.reduceEqDiff, Nat.reduceLT] at h); try exact nz h))
      all_goals (try exact cz)
      all_goals (try ((with_reducible first | show (_ : Int) ≤ _ | show (_ : Int) < _); (try simp only [sg, sq]); omega))
      exact ⟨_, reb_flat [4] rfl, _, rfl, rfl, rfl⟩
  · rw [lsEq_len _ h0]
    repeat' (first | (refine And.intro ?_ ?_) | (intro h; (try first | replace h := of_decide_eq_true h | replace h := of_decide_eq_false h); (try simp only [sg, sq] at h); (try simp only [sx, ↓reduceIte, Nat.reduceAdd, reduceCtorEq, Int.reduceLT, Int.reduceLE, Int.reduceSub, Nat.reduceEqDiff, Nat.reduceLT] at h); try exact nz h))
    all_goals (try exact cz)
    all_goals (try ((with_reducible first | show (_ : Int) ≤ _ | show (_ : Int) < _); (try simp only [sg, sq]); omega))
    exact ⟨_, reb_flat [4] rfl, _, rfl, rfl, rfl⟩
def S_eqFs : SpecI := fun args K => ∃ a b, args = [vF a, vF b] ∧ a.length ≤ 1000000 ∧ K (.bool (lsEq fdEq a b))
theorem eqFs_ok [Syms] : ImmOk Try.prog 68 S_eqFs := by
  rintro args K ⟨a, b, rfl, h, hk⟩
  exact ⟨rfl, _, rfl, hk, fnI tys_ok fns_ok noneT_det noneT_ok mixed (eqFs_t a b h)⟩
theorem eqPs_t [Syms] (a b : List Pg) (hl : a.length ≤ 1000000) : fnT noneT noneT (fnTab fns) (tyTab tys) (plTab plt) 100 92 [vP a, vP b] [] 0 (fun v H _ => v = .bool (lsEq pgEq a b) ∧ H = []) := by
  by_cases h0 : a.length = b.length
  · repeat' (first | (refine And.intro ?_ ?_) | (intro h; (try first | replace h := of_decide_eq_true h | replace h := of_decide_eq_false h); (try simp only [sg, sq] at h); (try simp only [sx, ↓reduceIte, Nat.reduceAdd, reduceCtorEq, Int.reduceLT, Int.reduceLE, Int.reduceSub, Nat.reduceEqDiff, Nat.reduceLT] at h); try exact nz h))
    all_goals (try exact cz)
    all_goals (try ((with_reducible first | show (_ : Int) ≤ _ | show (_ : Int) < _); (try simp only [sg, sq]); omega))
    refine ⟨fun m s => ∃ i : Nat, (i ≤ a.length ∧ m = a.length - i ∧ lsEq pgEq a b = lsEq pgEq (a.drop i) (b.drop i)) ∧ s = ⟨[(0, vP a), (1, vP b), (12, .int .i64 a.length), (13, .int .i64 i)], [], 0⟩, ⟨_, ⟨[(0, vP a), (1, vP b), (12, .int .i64 a.length), (13, .int .i64 (0 : Nat))], [], 0⟩, reb_num [] rfl ⟨.refl _, .refl _, .refl _, .refl _, trivial⟩ trivial, 0, ⟨by omega, rfl, rfl⟩, rfl⟩, ?_⟩
    rintro m s ⟨i, ⟨hi, rfl, he⟩, rfl⟩
    by_cases h1 : i < a.length
    · have hd := lsEq_drop (l := a) (m := b) pgEq h1 (by omega)
      rw [← he] at hd
      cases hq : pgEq (a.getD i default) (b.getD i default)
      · rw [hq, Bool.false_and] at hd
        have hx1 : (decide ((a.getD i default).rows = (b.getD i default).rows) && (decide ((a.getD i default).cells = (b.getD i default).cells) && (decide ((a.getD i default).enc = (b.getD i default).enc) && (decide ((a.getD i default).rlen = (b.getD i default).rlen) && (decide ((a.getD i default).dlen = (b.getD i default).dlen) && (decide ((a.getD i default).vlen = (b.getD i default).vlen) && (decide ((a.getD i default).crc = (b.getD i default).crc) && true))))))) = false := hq
        have hx2 := hx1
        have hx3 := hx1
        have hx4 := hx1
        rw [hd]
        repeat' (first | (refine And.intro ?_ ?_) | (intro h; (try first | replace h := of_decide_eq_true h | replace h := of_decide_eq_false h); (try simp only [sg, sq, hx1, hx2, hx3, hx4] at h); (try simp only [sx, ↓reduceIte, Nat.reduceAdd, reduceCtorEq, Int.reduceLT, Int.reduceLE, Int.reduceSub, Nat.reduceEqDiff, Nat.reduceLT] at h); try exact nz h))
        all_goals (try exact cz)
        all_goals (try ((with_reducible first | show (_ : Int) ≤ _ | show (_ : Int) < _); (try simp only [sg, sq]); omega))
        all_goals first | exact ⟨_, reb_flat [4] rfl, _, rfl, rfl, rfl⟩ | skip
      · rw [hq, Bool.true_and] at hd
        have hx1 : (decide ((a.getD i default).rows = (b.getD i default).rows) && (decide ((a.getD i default).cells = (b.getD i default).cells) && (decide ((a.getD i default).enc = (b.getD i default).enc) && (decide ((a.getD i default).rlen = (b.getD i default).rlen) && (decide ((a.getD i default).dlen = (b.getD i default).dlen) && (decide ((a.getD i default).vlen = (b.getD i default).vlen) && (decide ((a.getD i default).crc = (b.getD i default).crc) && true))))))) = true := hq
        have hx2 := hx1
        have hx3 := hx1
        have hx4 := hx1
        repeat' (first | (refine And.intro ?_ ?_) | (intro h; (try first | replace h := of_decide_eq_true h | replace h := of_decide_eq_false h); (try simp only [sg, sq, hx1, hx2, hx3, hx4] at h); (try simp only [sx, ↓reduceIte, Nat.reduceAdd, reduceCtorEq, Int.reduceLT, Int.reduceLE, Int.reduceSub, Nat.reduceEqDiff, Nat.reduceLT] at h); try exact nz h))
        all_goals (try exact cz)
        all_goals (try ((with_reducible first | show (_ : Int) ≤ _ | show (_ : Int) < _); (try simp only [sg, sq]); omega))
        all_goals first | exact ⟨_, ⟨[(0, vP a), (1, vP b), (12, .int .i64 a.length), (13, .int .i64 ((i + 1 : Nat) : Int))], [], 0⟩, reb_num [] rfl ⟨.refl _, .refl _, .refl _, wk_int (by omega), trivial⟩ trivial, ⟨i + 1, ⟨by omega, rfl, hd⟩, rfl⟩, by omega⟩ | skip
    · obtain rfl : i = a.length := by omega
      rw [he, lsEq_end _ h0]
      repeat' (first | (refine And.intro ?_ ?_) | (intro h; (try first | replace h := of_decide_eq_true h | replace h := of_decide_eq_false h); (try simp only [sg, sq] at h); (try simp only [sx, ↓reduceIte, Nat.reduceAdd, reduceCtorEq, Int.reduceLT, Int.reduceLE, Int.reduceSub, Nat.reduceEqDiff, Nat.reduceLT] at h); try exact nz h))
      all_goals (try exact cz)
      all_goals (try ((with_reducible first | show (_ : Int) ≤ _ | show (_ : Int) < _); (try simp only [sg, sq]); omega))
      exact ⟨_, reb_flat [4] rfl, _, rfl, rfl, rfl⟩
  · rw [lsEq_len _ h0]
    repeat' (first | (refine And.intro ?_ ?_) | (intro h; (try first | replace h := of_decide_eq_true h | replace h := of_decide_eq_false h); (try simp only [sg, sq] at h); (try simp only [sx, ↓reduceIte, Nat.reduceAdd, reduceCtorEq, Int.reduceLT, Int.reduceLE, Int.reduceSub, Nat.reduceEqDiff, Nat.reduceLT] at h); try exact nz h))
    all_goals (try exact cz)
    all_goals (try ((with_reducible first | show (_ : Int) ≤ _ | show (_ : Int) < _); (try simp only [sg, sq]); omega))
    exact ⟨_, reb_flat [4] rfl, _, rfl, rfl, rfl⟩
def S_eqPs : SpecI := fun args K => ∃ a b, args = [vP a, vP b] ∧ a.length ≤ 1000000 ∧ K (.bool (lsEq pgEq a b))
theorem eqPs_ok [Syms] : ImmOk Try.prog 92 S_eqPs := by
  rintro args K ⟨a, b, rfl, h, hk⟩
  exact ⟨rfl, _, rfl, hk, fnI tys_ok fns_ok noneT_det noneT_ok mixed (eqPs_t a b h)⟩
end Go.Proofs.Ytajieadpaeggcaa

end
