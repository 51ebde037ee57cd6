/-
  The document's 'Parse': it answers as the program's.
-/
import Derived.Test.YtjffmehcbaechaaTxtROne
import Derived.Test.YtjffmehcbaechaaSchRCheck
set_option linter.unusedVariables false
set_option linter.unusedSimpArgs false
namespace Go.Proofs.Ytjffmehcbaechaa
open Go Go.Av
set_option maxRecDepth 100000
set_option maxHeartbeats 4000000
abbrev cRPa [Syms] : CallT := pickT 28 (immT S_words) (pickT 29 (specT (lessS 1 2 S_rmust)) (pickT 30 (specT (lessS 1 2 S_rfield)) (pickT 31 (specT (S_group 9)) (pickT 32 (specT (lessS 1 2 S_rfail)) (pickT 33 (immT (seeI S_rcheck)) noneT)))))
theorem cRPa_ok [Syms] : cRPa.ok Try.prog := pickT_imm_ok rtwords_ok (pickT_spec (lessS_ok rmust_ok (by decide)) (pickT_spec (lessS_ok rfield_ok (by decide)) (pickT_spec (rgroup_all 9) (pickT_spec (lessS_ok rfail_ok (by decide)) (pickT_imm_ok rcheck_ok.see noneT_ok)))))
noncomputable abbrev plRP : Nat → Nat → Pl := plAdd [(17, 11), (17, 12), (17, 14)] (plTab plt)
theorem rparseF_bad {s : List UInt8} {l : List Wd} (h4 : ¬ 4000 < s.length) (hl : wordsF s = some l) {τ : PS} (hτ : rtailP (roneP 9 1) 0 0 0 (mustP kwMsg ⟨l, [], 0⟩) = τ) (he : τ.e ≠ 0) : rparseF s = ([], τ.e) := by
  rw [rparseF, if_neg h4, hl]
  simp only
  rw [hτ, if_neg (show ¬ (τ.e = 0 ∧ τ.ws ≠ []) from fun h => he h.1), if_neg he, if_pos he]
theorem rparseF_more {s : List UInt8} {l : List Wd} (h4 : ¬ 4000 < s.length) (hl : wordsF s = some l) {τ : PS} (hτ : rtailP (roneP 9 1) 0 0 0 (mustP kwMsg ⟨l, [], 0⟩) = τ) (he : τ.e = 0) (hw : τ.ws ≠ []) : rparseF s = ([], 6) := by
  rw [rparseF, if_neg h4, hl]
  simp only
  rw [hτ, if_pos (show τ.e = 0 ∧ τ.ws ≠ [] from ⟨he, hw⟩)]
  have h6 : (failP τ 6).e = 6 := by rw [failP, if_pos he]
  rw [h6]; rfl
theorem rparseF_end {s : List UInt8} {l : List Wd} (h4 : ¬ 4000 < s.length) (hl : wordsF s = some l) {τ : PS} (hτ : rtailP (roneP 9 1) 0 0 0 (mustP kwMsg ⟨l, [], 0⟩) = τ) (he : τ.e = 0) (hw : τ.ws = []) : rparseF s = if checkF τ.fs ≠ 0 then ([], checkF τ.fs) else (τ.fs, 0) := by
  rw [rparseF, if_neg h4, hl]
  simp only
  rw [hτ, if_neg (show ¬ (τ.e = 0 ∧ τ.ws ≠ []) from fun h => h.2 hw), if_pos he]
theorem fsOk_of {σ : PS} (hI : PInv σ) : FsOk σ.fs := by
  have hfl := hI.fl
  refine ⟨by omega, fun i => ?_, fun i => ?_⟩
  · rcases Nat.lt_or_ge i σ.fs.length with h | h
    · have := (hI.kids (σ.fs.getD i default) (by rw [List.getD_eq_getElem?_getD, List.getElem?_eq_getElem h]; exact List.getElem_mem _)).2
      omega
    · rw [List.getD_eq_getElem?_getD, List.getElem?_eq_none h]; decide
  · rcases Nat.lt_or_ge i σ.fs.length with h | h
    · have := hI.names (σ.fs.getD i default) (by rw [List.getD_eq_getElem?_getD, List.getElem?_eq_getElem h]; exact List.getElem_mem _)
      omega
    · rw [List.getD_eq_getElem?_getD, List.getElem?_eq_none h]; decide
theorem wkRa {ρ : Nat → Nat} {W : List Wd} {a e : Int} {sv : AVal} {R : List (List AVal)} (h : R = [[vW W, .int .i64 a, sv, .int .i64 e]]) : WkB (.cells R false) ((Blk.cells [[vW W, .int .i64 a, .any, .int .i64 e]] false).ren ρ) := by
  subst h
  refine .each _ _ _ rfl fun k r r' h1 h2 => ?_
  cases k with
  | zero =>
    cases h1; cases h2
    refine ⟨rfl, fun j x x' hx hx' => ?_⟩
    match j with
    | 0 => cases hx; cases hx'; exact .refl _
    | 1 => cases hx; cases hx'; exact .refl _
    | 2 => cases hx'; exact .any _
    | 3 => cases hx; cases hx'; exact .refl _
    | j + 4 => cases hx'
  | succ k => cases h2
theorem rparse_t [Syms] (s : List UInt8) (hs : s.length ≤ 9223372036854775807) :
    fnT noneT cRPa (fnTab fns) (tyTab tys) plRP 100 17 [.str s] [] 0 (fun v H _ => v = parV (parseF s) ∧ H = []) := by
  have hx1 : ∀ (ρ : Nat → Nat) (W : List Wd) (a : Int) (sv : AVal) (e : Int), asI (((List.map (AVal.renL ρ) [[vW W, .int .i64 a, sv, AVal.int .i64 e]]).getD 0 []).getD 3 AVal.any) = e := fun _ _ _ _ _ => rfl
  rw [← parse_same]
  by_cases h4 : 4000 < s.length
  · have hp : rparseF s = ([], 5) := if_pos h4
    repeat' (first | (refine And.intro ?_ ?_) | (intro h; (try first | replace h := of_decide_eq_true h | replace h := of_decide_eq_false h); (try simp only [sg, hx1] at h); (try simp only [sx, ↓reduceIte, Nat.reduceAdd, reduceCtorEq, Int.reduceLT, Int.reduceLE, Int.reduceSub, Nat.reduceEqDiff, Nat.reduceLT] at h); try exact nz h))
    all_goals (try exact cz)
    exact fin_pa rfl rfl hp rfl
  · have hp := rparseF.eq_1 s
    rw [if_neg h4] at hp
    repeat' (first | (refine And.intro ?_ ?_) | (intro h; (try first | replace h := of_decide_eq_true h | replace h := of_decide_eq_false h); (try simp only [sg, hx1] at h); (try simp only [sx, ↓reduceIte, Nat.reduceAdd, reduceCtorEq, Int.reduceLT, Int.reduceLE, Int.reduceSub, Nat.reduceEqDiff, Nat.reduceLT] at h); try exact nz h))
    all_goals (try exact cz)
    refine ⟨s, rfl, by omega, ?_, ?_⟩
    · intro hn
      rw [hn] at hp
      repeat' (first | (refine And.intro ?_ ?_) | (intro h; (try first | replace h := of_decide_eq_true h | replace h := of_decide_eq_false h); (try simp only [sg, hx1] at h); (try simp only [sx, ↓reduceIte, Nat.reduceAdd, reduceCtorEq, Int.reduceLT, Int.reduceLE, Int.reduceSub, Nat.reduceEqDiff, Nat.reduceLT] at h); try exact nz h))
      all_goals (try exact cz)
      exact fin_pa rfl rfl hp rfl
    · intro l hl
      clear hp
      have hl5 : l.length ≤ 5000 := by
        have h1 := words_len hl
        have h2 := sumL_count fun w hw => (words_ok hl w hw).1
        omega
      have hlw : ∀ w ∈ l, w.length ≤ 5000 := fun w hw => by have h1 := words_len hl; have h2 := sumL_mem hw; omega
      have hW : WOk l := ⟨words_ok hl, hlw⟩
      have hI : PInv (mustP kwMsg ⟨l, [], 0⟩) := (mustP_le kwMsg ⟨l, [], 0⟩).inv ⟨hl5, hlw, by simp, by simp, by simp⟩
      have hS0 : Suf l ⟨l, [], 0⟩ := ⟨by simp, Nat.le_refl _, hl5⟩
      have hAli := tail_same (n := 9) (g := roneP 9 1) (r := 0) (k := 0) (d := 0) (fun τ => one_same 9 1 τ (by decide) (by decide)) (mustP kwMsg ⟨l, [], 0⟩)
      have hFsO : (rtailP (roneP 9 1) 0 0 0 (mustP kwMsg ⟨l, [], 0⟩)).e = 0 → FsOk (rtailP (roneP 9 1) 0 0 0 (mustP kwMsg ⟨l, [], 0⟩)).fs := fun h => by
        rw [hAli.s h]
        exact fsOk_of ((fieldP_le _ _ _ _ _).inv hI)
      obtain ⟨τ, hτ⟩ : ∃ τ, rtailP (roneP 9 1) 0 0 0 (mustP kwMsg ⟨l, [], 0⟩) = τ := ⟨_, rfl⟩
      have hB := rparseF_bad h4 hl hτ
      have hM := rparseF_more h4 hl hτ
      have hE := rparseF_end h4 hl hτ
      rw [hτ] at hFsO
      clear hAli
      have hS1 := hS0.must (w := kwMsg)
      obtain ⟨w1, e1, hm⟩ := ps_fs (mustP_fs kwMsg ⟨l, [], 0⟩)
      have hz : (l.length - (⟨l, [], 0⟩ : PS).ws.length : Nat) = 0 := Nat.sub_self _
      repeat' (first | (refine And.intro ?_ ?_) | (intro h; (try first | replace h := of_decide_eq_true h | replace h := of_decide_eq_false h); (try simp only [sg, hx1] at h); (try simp only [sx, ↓reduceIte, Nat.reduceAdd, reduceCtorEq, Int.reduceLT, Int.reduceLE, Int.reduceSub, Nat.reduceEqDiff, Nat.reduceLT] at h); try exact nz h))
      all_goals (try exact cz)
      refine ⟨[0], [.ptr 0 0 0, .str kwMsg], [(0, rP l ⟨l, [], 0⟩ .nils)], rfl, ⟨.refl _, .refl _, trivial⟩, ⟨⟨by decide, _, rfl, wkR (by rw [hz]; rfl) rfl⟩, trivial⟩, rfl, l, ⟨l, [], 0⟩, .nils, kwMsg, rfl, rfl, rfl, ⟨svOk_nils, hS0⟩, ?_⟩
      rw [hm] at hτ hS1 ⊢
      rw [rtailP] at hτ
      simp only at hτ
      repeat' (first | (refine And.intro ?_ ?_) | (intro h; (try first | replace h := of_decide_eq_true h | replace h := of_decide_eq_false h); (try simp only [sg, hx1] at h); (try simp only [sx, ↓reduceIte, Nat.reduceAdd, reduceCtorEq, Int.reduceLT, Int.reduceLE, Int.reduceSub, Nat.reduceEqDiff, Nat.reduceLT] at h); try exact nz h))
      all_goals (try exact cz)
      refine ⟨[0], [.ptr 0 0 0, fArg 0 0, .int .i64 0], [(0, rP l ⟨w1, [], e1⟩ .nils)], rfl, ⟨.refl _, .refl _, .refl _, trivial⟩, ⟨⟨by decide, _, rfl, .refl _⟩, trivial⟩, rfl, l, ⟨w1, [], e1⟩, 0, 0, 0, rfl, .inl ⟨rfl, rfl, ?_⟩, rfl, ⟨hS1, hW, Nat.zero_le _, by decide, by decide⟩, ?_⟩
      · intro he
        rw [if_pos he] at hτ
        rw [hτ] at he ⊢
        have hp := hB he
        have hfs : τ.fs = [] := by rw [← hτ]; exact headP_ws_le _ _
        obtain ⟨w3, e3, hh⟩ := ps_fs hfs
        subst hh
        have he : e3 ≠ 0 := he
        have hp : rparseF s = ([], e3) := hp
        repeat' (first | (refine And.intro ?_ ?_) | (intro h; (try first | replace h := of_decide_eq_true h | replace h := of_decide_eq_false h); (try simp only [sg, hx1] at h); (try simp only [sx, ↓reduceIte, Nat.reduceAdd, reduceCtorEq, Int.reduceLT, Int.reduceLE, Int.reduceSub, Nat.reduceEqDiff, Nat.reduceLT] at h); try exact nz h))
        all_goals (try exact cz)
        refine ⟨⟨[(6, .ptr 0 0 0), (56, .bool false)], [(0, rP l ⟨w3, [], e3⟩ .nils)], 1⟩, ?_, ?_⟩
        · repeat' (first | (refine And.intro ?_ ?_) | (intro h; (try first | replace h := of_decide_eq_true h | replace h := of_decide_eq_false h); (try simp only [sg, hx1] at h); (try simp only [sx, ↓reduceIte, Nat.reduceAdd, reduceCtorEq, Int.reduceLT, Int.reduceLE, Int.reduceSub, Nat.reduceEqDiff, Nat.reduceLT] at h); try exact nz h))
          all_goals (try exact cz)
          all_goals (refine Exists.intro () ?_; exact reb_num [0] (by first | rfl | kernel_rfl) ⟨.refl _, wk_bool rfl, trivial⟩ ⟨⟨by decide, _, by exact rfl, .refl _⟩, trivial⟩)
        repeat' (first | (refine And.intro ?_ ?_) | (intro h; (try first | replace h := of_decide_eq_true h | replace h := of_decide_eq_false h); (try simp only [sg, hx1] at h); (try simp only [sx, ↓reduceIte, Nat.reduceAdd, reduceCtorEq, Int.reduceLT, Int.reduceLE, Int.reduceSub, Nat.reduceEqDiff, Nat.reduceLT] at h); try exact nz h))
        all_goals (try exact cz)
        refine ⟨⟨[(6, .ptr 0 0 0), (63, .bool (decide (e3 = 0)))], [(0, rP l ⟨w3, [], e3⟩ .nils)], 1⟩, reb_num [0] (by first | rfl | kernel_rfl) ⟨.refl _, .refl _, trivial⟩ ⟨⟨by decide, _, rfl, .refl _⟩, trivial⟩, ?_⟩
        repeat' (first | (refine And.intro ?_ ?_) | (intro h; (try first | replace h := of_decide_eq_true h | replace h := of_decide_eq_false h); (try simp only [sg, hx1] at h); (try simp only [sx, ↓reduceIte, Nat.reduceAdd, reduceCtorEq, Int.reduceLT, Int.reduceLE, Int.reduceSub, Nat.reduceEqDiff, Nat.reduceLT] at h); try exact nz h))
        all_goals (try exact cz)
        all_goals (refine fin_pa ?_ ?_ hp ?_ <;> rfl)
      · intro he
        have hn : ¬ (headP 0 ⟨w1, [], e1⟩).e ≠ 0 := fun h => h he
        rw [if_neg hn, if_neg (show ¬ (0 : Int) ≠ 0 from fun h => h rfl)] at hτ
        have hS2 := hS1.head (d := 0)
        obtain ⟨w2, e2, hh⟩ := ps_fs (show (headP 0 ⟨w1, [], e1⟩).fs = [] from headP_ws_le 0 _)
        rw [hh] at hτ he hS2 ⊢
        have he : e2 = 0 := he
        subst he
        generalize hfd : (⟨nextW (⟨w1, [], e1⟩ : PS), 0, 0, 0⟩ : Fd) = fd at *
        have hS3 : Suf l ⟨w2, [fd], 0⟩ := hS2.same rfl
        have hG := rgroup_ok (W := l) (g := roneP 9 1) (fun τ => rone_ok 9 1 τ) ⟨w2, [fd], 0⟩ (by show 1 ≤ 40; decide) hS3
        have hτ : setK 0 (rgroupP (roneP 9 1) ⟨w2, [fd], 0⟩).2 (rgroupP (roneP 9 1) ⟨w2, [fd], 0⟩).1 = τ := hτ
        obtain ⟨υ, cc, hg⟩ : ∃ υ cc, rgroupP (roneP 9 1) ⟨w2, [fd], 0⟩ = (υ, cc) := ⟨_, _, rfl⟩
        rw [hg] at hτ hG
        have hup : 0 < υ.fs.length := hG.up
        have htop : υ.fs.length ≤ 40 := hG.top
        obtain ⟨F, hF⟩ : ∃ F, υ.fs.set 0 { υ.fs.getD 0 default with kids := (cc : Int) } = F := ⟨_, rfl⟩
        have hkm := kids_map (c := (cc : Int)) hup
        rw [hF] at hkm
        have hFl : F.length = υ.fs.length := by rw [← hF]; simp
        have hτF : τ.fs = F := by rw [← hτ, ← hF]; rfl
        have hST : Suf l τ := by rw [← hτ]; exact hG.suf.setK
        obtain ⟨wt, et, hte⟩ := ps_fs hτF
        have hwt : (setK 0 cc υ).ws = wt := by rw [hτ, hte]
        have het : (setK 0 cc υ).e = et := by rw [hτ, hte]
        have hB : et ≠ 0 → rparseF s = ([], et) := fun h => by have := hB (by rw [hte]; exact h); rw [hte] at this; exact this
        have hM : et = 0 → wt ≠ [] → rparseF s = ([], 6) := fun h1 h2 => hM (by rw [hte]; exact h1) (by rw [hte]; exact h2)
        have hE : et = 0 → wt = [] → rparseF s = if checkF F ≠ 0 then ([], checkF F) else (F, 0) := fun h1 h2 => by have := hE (by rw [hte]; exact h1) (by rw [hte]; exact h2); rw [hte] at this; exact this
        have hFO : et = 0 → FsOk F := fun h => by have := hFsO (by rw [hte]; exact h); rw [hte] at this; exact this
        rw [hte] at hST
        have hal : wt.length ≤ l.length := hST.l
        rw [show addP (⟨w2, [], 0⟩ : PS) fd = ⟨w2, [fd], 0⟩ from rfl]
        repeat' (first | (refine And.intro ?_ ?_) | (intro h; (try first | replace h := of_decide_eq_true h | replace h := of_decide_eq_false h); (try simp only [sg, hx1] at h); (try simp only [sx, ↓reduceIte, Nat.reduceAdd, reduceCtorEq, Int.reduceLT, Int.reduceLE, Int.reduceSub, Nat.reduceEqDiff, Nat.reduceLT] at h); try exact nz h))
        all_goals (try exact cz)
        refine ⟨[0, 5], [.ptr 0 0 0, .int .i64 1], rH 1 l ⟨w2, [fd], 0⟩, rfl, ⟨.refl _, .refl _, trivial⟩, ⟨⟨by decide, _, rfl, .refl _⟩, ⟨by decide, _, rfl, wkB_eq (ren_mapF _ _) (fF _)⟩, trivial⟩, l, ⟨w2, [fd], 0⟩, 1, rfl, rfl, rfl, ⟨hS3, hW, by show 1 ≤ 40; decide, by show 0 < 1; decide, by decide, by decide, by decide⟩, ?_⟩
        rw [hg]
        refine ⟨?_, ?_⟩
        all_goals
          repeat' (first | (refine And.intro ?_ ?_) | (intro h; (try first | replace h := of_decide_eq_true h | replace h := of_decide_eq_false h); (try simp only [sg, hx1] at h); (try simp only [sx, ↓reduceIte, Nat.reduceAdd, reduceCtorEq, Int.reduceLT, Int.reduceLE, Int.reduceSub, Nat.reduceEqDiff, Nat.reduceLT] at h); try exact nz h))
          all_goals (try exact cz)
        all_goals (try ((with_reducible show (_ : Nat) ≤ (_ : Nat)); (show 0 + 3 + 1 ≤ ((List.map (AVal.renL _) (υ.fs.map encF)).getD (0 + 0) []).length); rw [ren_mapF, Nat.zero_add 0, row_at encF default hup]; exact Nat.le_refl 4))
        all_goals refine ⟨⟨[(6, .ptr 0 0 0)], [(0, some (.cells [[vW l, .int .i64 ((l.length - wt.length : Nat) : Int), .slice 1 0 υ.fs.length 4 none, .int .i64 et]] false)), (1, sB F)], 2⟩, ?_, ?_⟩
        · refine reb_num [0, 5] (by first | rfl | kernel_rfl) ⟨.refl _, trivial⟩ ⟨⟨by decide, _, rfl, ?_⟩, ⟨by decide, _, rfl, wkB_eq ?_ (fF _)⟩, trivial⟩
          · rw [← hwt, ← het]; exact .refl _
          · show ((List.map (AVal.renL _) (υ.fs.map encF)).set (0 + 0) (splice ((List.map (AVal.renL _) (υ.fs.map encF)).getD (0 + 0) []) (0 + 3) [.int .i64 (cc : Nat)])) = _
            rw [ren_mapF]; exact hkm
        rotate_left
        · refine reb_num [0, 8] (by first | rfl | kernel_rfl) ⟨.refl _, trivial⟩ ⟨⟨by decide, _, rfl, ?_⟩, ⟨by decide, _, rfl, wkB_eq ?_ (fF _)⟩, trivial⟩
          · rw [← hwt, ← het]; exact .refl _
          · show ((List.map (AVal.renL _) (υ.fs.map encF)).set (0 + 0) (splice ((List.map (AVal.renL _) (υ.fs.map encF)).getD (0 + 0) []) (0 + 3) [.int .i64 (cc : Nat)])) = _
            rw [ren_mapF]; exact hkm
        all_goals
          have hax : ((l.length - wt.length : Nat) : Int) < l.length ↔ 0 < wt.length := by omega
          generalize hai : ((l.length - wt.length : Nat) : Int) = ai at *
          by_cases he : et = 0
          · by_cases hw : wt.length = 0
            · have hp := hE he (List.eq_nil_of_length_eq_zero hw)
              have hFO := hFO he
              subst he
              repeat' (first | (refine And.intro ?_ ?_) | (intro h; (try first | replace h := of_decide_eq_true h | replace h := of_decide_eq_false h); (try simp only [sg, hx1] at h); (try simp only [sx, ↓reduceIte, Nat.reduceAdd, reduceCtorEq, Int.reduceLT, Int.reduceLE, Int.reduceSub, Nat.reduceEqDiff, Nat.reduceLT] at h); try exact nz h))
              all_goals (try exact cz)
              refine ⟨⟨[(6, .ptr 0 0 0), (56, .bool false)], [(0, some (.cells [[vW l, .int .i64 ai, .slice 1 0 υ.fs.length 4 none, .int .i64 0]] false)), (1, sB F)], 2⟩, ?_, ?_⟩
              · repeat' (first | (refine And.intro ?_ ?_) | (intro h; (try first | replace h := of_decide_eq_true h | replace h := of_decide_eq_false h); (try simp only [sg, hx1] at h); (try simp only [sx, ↓reduceIte, Nat.reduceAdd, reduceCtorEq, Int.reduceLT, Int.reduceLE, Int.reduceSub, Nat.reduceEqDiff, Nat.reduceLT] at h); try exact nz h))
                all_goals (try exact cz)
                all_goals (refine Exists.intro () ?_; exact reb_num [0, 1] (by first | rfl | kernel_rfl) ⟨.refl _, wk_bool (by first | rfl | (show decide (ai < (l.length : Int)) = _; first | exact decide_eq_true (by omega) | exact decide_eq_false (by omega))), trivial⟩ ⟨⟨by decide, _, by exact rfl, .refl _⟩, ⟨by decide, _, by exact rfl, wkB_same (fF _)⟩, trivial⟩)
              repeat' (first | (refine And.intro ?_ ?_) | (intro h; (try first | replace h := of_decide_eq_true h | replace h := of_decide_eq_false h); (try simp only [sg, hx1] at h); (try simp only [sx, ↓reduceIte, Nat.reduceAdd, reduceCtorEq, Int.reduceLT, Int.reduceLE, Int.reduceSub, Nat.reduceEqDiff, Nat.reduceLT] at h); try exact nz h))
              all_goals (try exact cz)
              refine ⟨⟨[(6, .ptr 0 0 0), (63, .bool true)], [(0, some (.cells [[vW l, .int .i64 ai, .vs 4 (F.map encF), .int .i64 0]] false))], 1⟩, Reb.trans (s' := ⟨[(6, .ptr 0 0 0), (63, .bool true)], [(0, some (.cells [[vW l, .int .i64 ai, .slice 1 0 υ.fs.length 4 none, .int .i64 0]] false)), (1, sB F)], 2⟩) (reb_num [0, 1] (by first | rfl | kernel_rfl) ⟨.refl _, wk_bool rfl, trivial⟩ ⟨⟨by decide, _, rfl, .refl _⟩, ⟨by decide, _, rfl, wkB_same (fF _)⟩, trivial⟩) (Reb.trans (s' := ⟨[(6, .ptr 0 0 0), (63, .bool true)], [(0, some (.cells [[vW l, .int .i64 ai, .vs 4 (F.map encF), .int .i64 0]] false))], 2⟩) (reb_freezeG (n := 1) (rows := F.map encF) rfl (fF _) ⟨.same _, .same _, trivial⟩ ⟨⟨by decide, .cells [[vW l, .int .i64 ai, .slice 1 0 υ.fs.length 4 none, .int .i64 0]] false, rfl, .cells _ _ _ rfl ?_⟩, trivial⟩) (reb_num [0] (by first | rfl | kernel_rfl) ⟨.refl _, .refl _, trivial⟩ ⟨⟨by decide, _, rfl, .refl _⟩, trivial⟩)), ?_⟩
              · intro k r r' h1 h2
                cases k with
                | zero =>
                  cases h1; cases h2
                  refine ⟨.same _, .same _, ?_, .same _, trivial⟩
                  have := FzV.sl (n := 1) (rows := F.map encF) 0 υ.fs.length 4 none hup (by simp [hFl])
                  rw [List.drop_zero, List.take_of_length_le (by simp [hFl])] at this
                  exact this
                | succ k => cases h2
              repeat' (first | (refine And.intro ?_ ?_) | (intro h; (try first | replace h := of_decide_eq_true h | replace h := of_decide_eq_false h); (try simp only [sg, hx1] at h); (try simp only [sx, ↓reduceIte, Nat.reduceAdd, reduceCtorEq, Int.reduceLT, Int.reduceLE, Int.reduceSub, Nat.reduceEqDiff, Nat.reduceLT] at h); try exact nz h))
              all_goals (try exact cz)
              refine ⟨[vF F], ⟨.tab _ _ _ _ (tabR_map encF default F).symm, trivial⟩, F, rfl, hFO rfl, ?_⟩
              rw [rcheck_eq]
              generalize checkF F = x at *
              by_cases hx : x = 0
              · subst hx
                rw [if_neg (fun h => h rfl)] at hp
                repeat' (first | (refine And.intro ?_ ?_) | (intro h; (try first | replace h := of_decide_eq_true h | replace h := of_decide_eq_false h); (try simp only [sg, hx1] at h); (try simp only [sx, ↓reduceIte, Nat.reduceAdd, reduceCtorEq, Int.reduceLT, Int.reduceLE, Int.reduceSub, Nat.reduceEqDiff, Nat.reduceLT] at h); try exact nz h))
                all_goals (try exact cz)
                all_goals first
                  | exact absurd (show (0 : Int) = 0 from rfl) (show ¬ (0 : Int) = 0 from ‹_›)
                  | (rw [hp]; exact ⟨_, (reb_slot (k := 2) (y := vF F) fun ι v hv => .vt _ _ _ _ (by rw [tabR_map]; exact hv)).trans (reb_flat [2, 3] rfl), _, rfl, rfl, rfl⟩)
              · rw [if_pos hx] at hp
                repeat' (first | (refine And.intro ?_ ?_) | (intro h; (try first | replace h := of_decide_eq_true h | replace h := of_decide_eq_false h); (try simp only [sg, hx1] at h); (try simp only [sx, ↓reduceIte, Nat.reduceAdd, reduceCtorEq, Int.reduceLT, Int.reduceLE, Int.reduceSub, Nat.reduceEqDiff, Nat.reduceLT] at h); try exact nz h))
                all_goals (try exact cz)
                all_goals first
                  | exact absurd (show x = 0 from ‹_›) hx
                  | (refine fin_pa ?_ ?_ hp ?_ <;> rfl)
            · have hp := hM he (fun h => hw (by rw [h]; rfl))
              subst he
              repeat' (first | (refine And.intro ?_ ?_) | (intro h; (try first | replace h := of_decide_eq_true h | replace h := of_decide_eq_false h); (try simp only [sg, hx1] at h); (try simp only [sx, ↓reduceIte, Nat.reduceAdd, reduceCtorEq, Int.reduceLT, Int.reduceLE, Int.reduceSub, Nat.reduceEqDiff, Nat.reduceLT] at h); try exact nz h))
              all_goals (try exact cz)
              refine ⟨⟨[(6, .ptr 0 0 0), (56, .bool true)], [(0, some (.cells [[vW l, .int .i64 ai, .slice 1 0 υ.fs.length 4 none, .int .i64 0]] false)), (1, sB F)], 2⟩, ?_, ?_⟩
              · repeat' (first | (refine And.intro ?_ ?_) | (intro h; (try first | replace h := of_decide_eq_true h | replace h := of_decide_eq_false h); (try simp only [sg, hx1] at h); (try simp only [sx, ↓reduceIte, Nat.reduceAdd, reduceCtorEq, Int.reduceLT, Int.reduceLE, Int.reduceSub, Nat.reduceEqDiff, Nat.reduceLT] at h); try exact nz h))
                all_goals (try exact cz)
                all_goals (refine Exists.intro () ?_; exact reb_num [0, 1] (by first | rfl | kernel_rfl) ⟨.refl _, wk_bool (by first | rfl | (show decide (ai < (l.length : Int)) = _; first | exact decide_eq_true (by omega) | exact decide_eq_false (by omega))), trivial⟩ ⟨⟨by decide, _, by exact rfl, .refl _⟩, ⟨by decide, _, by exact rfl, wkB_same (fF _)⟩, trivial⟩)
              repeat' (first | (refine And.intro ?_ ?_) | (intro h; (try first | replace h := of_decide_eq_true h | replace h := of_decide_eq_false h); (try simp only [sg, hx1] at h); (try simp only [sx, ↓reduceIte, Nat.reduceAdd, reduceCtorEq, Int.reduceLT, Int.reduceLE, Int.reduceSub, Nat.reduceEqDiff, Nat.reduceLT] at h); try exact nz h))
              all_goals (try exact cz)
              refine ⟨[0], [.ptr 0 0 0, .int .i64 6], [(0, some (.cells [[vW l, .int .i64 ((l.length - wt.length : Nat) : Int), .any, .int .i64 0]] false))], rfl, ⟨.refl _, .refl _, trivial⟩, ⟨⟨by decide, _, rfl, ?_⟩, trivial⟩, rfl, l, ⟨wt, F, 0⟩, .any, 6, rfl, rfl, rfl, fun _ => rfl, ?_⟩
              · rw [hai]; exact wkRa rfl
              rw [show failP (⟨wt, F, 0⟩ : PS) 6 = ⟨wt, F, 6⟩ from rfl]
              repeat' (first | (refine And.intro ?_ ?_) | (intro h; (try first | replace h := of_decide_eq_true h | replace h := of_decide_eq_false h); (try simp only [sg, hx1] at h); (try simp only [sx, ↓reduceIte, Nat.reduceAdd, reduceCtorEq, Int.reduceLT, Int.reduceLE, Int.reduceSub, Nat.reduceEqDiff, Nat.reduceLT] at h); try exact nz h))
              all_goals (try exact cz)
              refine ⟨⟨[(6, .ptr 0 0 0), (63, .bool false)], [(0, some (.cells [[vW l, .int .i64 ((l.length - wt.length : Nat) : Int), .any, .int .i64 6]] false))], 1⟩, reb_num [0] (by first | rfl | kernel_rfl) ⟨.refl _, wk_bool rfl, trivial⟩ ⟨⟨by decide, _, rfl, .refl _⟩, trivial⟩, ?_⟩
              repeat' (first | (refine And.intro ?_ ?_) | (intro h; (try first | replace h := of_decide_eq_true h | replace h := of_decide_eq_false h); (try simp only [sg, hx1] at h); (try simp only [sx, ↓reduceIte, Nat.reduceAdd, reduceCtorEq, Int.reduceLT, Int.reduceLE, Int.reduceSub, Nat.reduceEqDiff, Nat.reduceLT] at h); try exact nz h))
              all_goals (try exact cz)
              all_goals (refine fin_pa ?_ ?_ hp ?_ <;> rfl)
          · have hp := hB he
            repeat' (first | (refine And.intro ?_ ?_) | (intro h; (try first | replace h := of_decide_eq_true h | replace h := of_decide_eq_false h); (try simp only [sg, hx1] at h); (try simp only [sx, ↓reduceIte, Nat.reduceAdd, reduceCtorEq, Int.reduceLT, Int.reduceLE, Int.reduceSub, Nat.reduceEqDiff, Nat.reduceLT] at h); try exact nz h))
            all_goals (try exact cz)
            refine ⟨⟨[(6, .ptr 0 0 0), (56, .bool false)], [(0, some (.cells [[vW l, .int .i64 ai, .slice 1 0 υ.fs.length 4 none, .int .i64 et]] false)), (1, sB F)], 2⟩, ?_, ?_⟩
            · repeat' (first | (refine And.intro ?_ ?_) | (intro h; (try first | replace h := of_decide_eq_true h | replace h := of_decide_eq_false h); (try simp only [sg, hx1] at h); (try simp only [sx, ↓reduceIte, Nat.reduceAdd, reduceCtorEq, Int.reduceLT, Int.reduceLE, Int.reduceSub, Nat.reduceEqDiff, Nat.reduceLT] at h); try exact nz h))
              all_goals (try exact cz)
              all_goals (refine Exists.intro () ?_; exact reb_num [0, 1] (by first | rfl | kernel_rfl) ⟨.refl _, wk_bool (by first | rfl | (show decide (ai < (l.length : Int)) = _; first | exact decide_eq_true (by omega) | exact decide_eq_false (by omega))), trivial⟩ ⟨⟨by decide, _, by exact rfl, .refl _⟩, ⟨by decide, _, by exact rfl, wkB_same (fF _)⟩, trivial⟩)
            repeat' (first | (refine And.intro ?_ ?_) | (intro h; (try first | replace h := of_decide_eq_true h | replace h := of_decide_eq_false h); (try simp only [sg, hx1] at h); (try simp only [sx, ↓reduceIte, Nat.reduceAdd, reduceCtorEq, Int.reduceLT, Int.reduceLE, Int.reduceSub, Nat.reduceEqDiff, Nat.reduceLT] at h); try exact nz h))
            all_goals (try exact cz)
            refine ⟨⟨[(6, .ptr 0 0 0), (63, .bool (decide (et = 0)))], [(0, some (.cells [[vW l, .int .i64 ai, .any, .int .i64 et]] false))], 1⟩, reb_num [0] (by first | rfl | kernel_rfl) ⟨.refl _, .refl _, trivial⟩ ⟨⟨by decide, _, rfl, wkRa rfl⟩, trivial⟩, ?_⟩
            repeat' (first | (refine And.intro ?_ ?_) | (intro h; (try first | replace h := of_decide_eq_true h | replace h := of_decide_eq_false h); (try simp only [sg, hx1] at h); (try simp only [sx, ↓reduceIte, Nat.reduceAdd, reduceCtorEq, Int.reduceLT, Int.reduceLE, Int.reduceSub, Nat.reduceEqDiff, Nat.reduceLT] at h); try exact nz h))
            all_goals (try exact cz)
            all_goals (refine fin_pa ?_ ?_ hp ?_ <;> rfl)
theorem rparse_ok [Syms] : ImmOk Try.prog 17 S_parse := by
  rintro args K ⟨s, rfl, h, hk⟩
  exact ⟨rfl, _, rfl, hk, fnI tys_ok fns_ok noneT_det cRPa_ok mixed (rparse_t s h)⟩
end Go.Proofs.Ytjffmehcbaechaa
