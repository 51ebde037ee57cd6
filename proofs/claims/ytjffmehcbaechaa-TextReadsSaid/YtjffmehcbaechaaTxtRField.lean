/-
  The document's 'field': one more, of a depth: its name.
-/
import Derived.Test.YtjffmehcbaechaaTxtRNext
set_option linter.unusedVariables false
set_option linter.unusedSimpArgs false
namespace Go.Proofs.Ytjffmehcbaechaa
open Go Go.Av
set_option maxRecDepth 100000
set_option maxHeartbeats 4000000
def S_name5 : SpecI := fun args K => ∃ s, args = [.str s] ∧ s.length ≤ 5000 ∧ K (.bool (nameF s))
theorem rname5_ok [Syms] : ImmOk Try.prog 49 S_name5 := by
  rintro args K ⟨s, rfl, h, hk⟩
  exact ⟨rfl, _, rfl, hk, fnI tys_ok fns_ok noneT_det cSg_ok mixed (rname_t s h)⟩
theorem headP_name {d : Int} {σ : PS} (h : nameT (nextW σ) = false) : headP d σ = failP (nextP σ) 6 := by
  have he : (failP (nextP σ) 6).e ≠ 0 := failP_e (by decide)
  have h4 := failP_bad (x := 4) he
  have h11 := failP_bad (x := 11) he
  unfold headP
  simp only [h, Bool.false_eq_true, if_false, h4]
  have e2 : (if 40 ≤ (failP (nextP σ) 6).fs.length then failP (nextP σ) 6 else failP (nextP σ) 6) = failP (nextP σ) 6 := by split <;> rfl
  rw [e2, h11]
  split <;> rfl
theorem headP_many {d : Int} {σ : PS} (h : nameT (nextW σ) = true) (hl : 40 ≤ σ.fs.length) : headP d σ = failP (nextP σ) 4 := by
  have he : (failP (nextP σ) 4).e ≠ 0 := failP_e (by decide)
  unfold headP
  simp only [h, if_true, nextP_fs, hl, failP_bad he]
  split <;> rfl
theorem headP_deep {d : Int} {σ : PS} (h : nameT (nextW σ) = true) (hl : ¬ 40 ≤ σ.fs.length) (hd : 8 < d) : headP d σ = failP (nextP σ) 11 := by
  unfold headP
  simp only [h, if_true, nextP_fs, hl, if_false, hd]
theorem headP_fine {d : Int} {σ : PS} (h : nameT (nextW σ) = true) (hl : ¬ 40 ≤ σ.fs.length) (hd : ¬ 8 < d) : headP d σ = nextP σ := by
  unfold headP
  simp only [h, if_true, nextP_fs, hl, if_false, hd]
theorem e_of_name {σ : PS} (h : nameT (nextW σ) = true) : σ.e = 0 := by
  by_cases he : σ.e = 0
  · exact he
  · rw [nextW_bad he] at h; cases h
/-- Words, each one as it may be. -/
structure WOk (W : List Wd) : Prop where
  ok : ∀ w ∈ W, wordOk w
  len : ∀ w ∈ W, w.length ≤ 5000
theorem next_of {W : List Wd} {σ : PS} (hS : Suf W σ) : nextW σ = [] ∨ nextW σ ∈ W := by
  unfold nextW
  split
  · exact .inl rfl
  · cases hw : σ.ws with
    | nil => exact .inl rfl
    | cons w t =>
      have h1 : w ∈ σ.ws := by rw [hw]; exact List.mem_cons_self ..
      rw [hS.s] at h1
      exact .inr (List.mem_of_mem_drop h1)
theorem next_name {W : List Wd} {σ : PS} (hS : Suf W σ) (hW : WOk W) : nameF (nextW σ) = nameT (nextW σ) := by
  rcases next_of hS with h | h
  · rw [h]; rfl
  · exact (nameT_eq (hW.ok _ h)).symm
theorem next_len {W : List Wd} {σ : PS} (hS : Suf W σ) (hW : WOk W) : (nextW σ).length ≤ 5000 := by
  rcases next_of hS with h | h
  · rw [h]; decide
  · exact hW.len _ h
theorem fieldA_app (w : Wd) (r k : Int) : [[AVal.str w, .int .i64 r, .int .i64 k, .int .i64 0]] = ([⟨w, r, k, 0⟩] : List Fd).map encF := rfl
theorem fieldB_app (gs : List Fd) (w : Wd) (r k : Int) : List.take gs.length (List.drop 0 (gs.map encF)) ++ [[AVal.str w, .int .i64 r, .int .i64 k, .int .i64 0]] = (gs ++ [(⟨w, r, k, 0⟩ : Fd)]).map encF := by
  rw [List.drop_zero, List.take_of_length_le (by rw [List.length_map]; exact Nat.le_refl _), List.map_append]; rfl
abbrev cRFd : CallT := pickT 48 (specT S_rnext) (pickT 32 (specT S_rfail) (pickT 49 (immT S_name5) noneT))
theorem cRFd_ok [Syms] : cRFd.ok Try.prog := pickT_spec rnext_ok (pickT_spec rfail_ok (pickT_imm_ok rname5_ok noneT_ok))
theorem wkR' {ρ : Nat → Nat} {W : List Wd} {a e : Int} {sv : AVal} {R : List (List AVal)} (h : R = [[vW W, .int .i64 a, sv.ren ρ, .int .i64 e]]) : WkB (.cells R false) ((Blk.cells [[vW W, .int .i64 a, sv, .int .i64 e]] false).ren ρ) := by
  subst h
  exact .refl _
noncomputable abbrev plRF : Nat → Nat → Pl := plAdd [(30, 8)] (plTab plt)
theorem rfield_e {d : Int} {σ : PS} {x : Int} (hx : x ≠ 0) (h : headP d σ = failP (nextP σ) x) : (headP d σ).e ≠ 0 := by rw [h]; exact failP_e hx
theorem rfieldA_t [Syms] {Post : AVal → Heap → Nat → Prop} (W : List Wd) (ws : List Wd) (e : Int) (rep kind depth : Int) (hS : Suf W (⟨ws, ([] : List Fd), e⟩ : PS)) (hW : WOk W) (hd : -9223372036854775808 ≤ depth ∧ depth ≤ 9223372036854775807)
    (hE : (headP depth (⟨ws, ([] : List Fd), e⟩ : PS)).e ≠ 0 → Post (.tup []) [(0, rP W (headP depth (⟨ws, ([] : List Fd), e⟩ : PS)) .nils)] 2)
    (hO : (headP depth (⟨ws, ([] : List Fd), e⟩ : PS)).e = 0 → Post (.tup []) [(0, rP W (addP (headP depth (⟨ws, ([] : List Fd), e⟩ : PS)) ⟨nextW (⟨ws, ([] : List Fd), e⟩ : PS), rep, kind, 0⟩) (.slice 2 0 (([] : List Fd) ++ [(⟨nextW (⟨ws, ([] : List Fd), e⟩ : PS), rep, kind, 0⟩ : Fd)]).length 4 none)), (2, sB (([] : List Fd) ++ [(⟨nextW (⟨ws, ([] : List Fd), e⟩ : PS), rep, kind, 0⟩ : Fd)]))] 3) :
    fnT noneT cRFd (fnTab fns) (tyTab tys) plRF 100 30 [.ptr 0 0 0, .agg [.str [], .int .i64 rep, .int .i64 kind, .int .i64 0], .int .i64 depth] [(0, rP W ((⟨ws, ([] : List Fd), e⟩ : PS)) .nils)] 2 Post := by
  have hnm := next_name hS hW
  have hnl := next_len hS hW
  have hx1 : True = True := rfl
  repeat' (first | (refine And.intro ?_ ?_) | (intro h; (try first | replace h := of_decide_eq_true h | replace h := of_decide_eq_false h); (try simp only [sg, hx1] at h); (try simp only [sx, ↓reduceIte, Nat.reduceAdd, reduceCtorEq, Int.reduceLT, Int.reduceLE, Int.reduceSub, Nat.reduceEqDiff, Nat.reduceLT] at h); try exact nz h))
  all_goals (try exact cz)
  refine ⟨[0, 1], [.ptr 0 0 0], [(0, rP W (⟨ws, ([] : List Fd), e⟩ : PS) .nils)], rfl, ⟨.refl _, trivial⟩, ⟨⟨by decide, _, rfl, wkR rfl (svOk_nils _)⟩, trivial⟩, W, (⟨ws, ([] : List Fd), e⟩ : PS), .nils, rfl, rfl, rfl, ⟨svOk_nils, hS⟩, ?_⟩
  repeat' (first | (refine And.intro ?_ ?_) | (intro h; (try first | replace h := of_decide_eq_true h | replace h := of_decide_eq_false h); (try simp only [sg, hx1] at h); (try simp only [sx, ↓reduceIte, Nat.reduceAdd, reduceCtorEq, Int.reduceLT, Int.reduceLE, Int.reduceSub, Nat.reduceEqDiff, Nat.reduceLT] at h); try exact nz h))
  all_goals (try exact cz)
  refine ⟨nextW (⟨ws, ([] : List Fd), e⟩ : PS), rfl, hnl, ?_⟩
  rw [hnm]
  cases hn : nameT (nextW (⟨ws, ([] : List Fd), e⟩ : PS))
  · -- no name
    have hh : headP depth (⟨ws, ([] : List Fd), e⟩ : PS) = failP (nextP (⟨ws, ([] : List Fd), e⟩ : PS)) 6 := headP_name hn
    have hE := hE (rfield_e (by decide) hh)
    rw [hh] at hE
    repeat' (first | (refine And.intro ?_ ?_) | (intro h; (try first | replace h := of_decide_eq_true h | replace h := of_decide_eq_false h); (try simp only [sg, hx1] at h); (try simp only [sx, ↓reduceIte, Nat.reduceAdd, reduceCtorEq, Int.reduceLT, Int.reduceLE, Int.reduceSub, Nat.reduceEqDiff, Nat.reduceLT] at h); try exact nz h))
    all_goals (try exact cz)
    refine ⟨[0, 1], [.ptr 0 0 0, .int .i64 6], [(0, rP W (nextP (⟨ws, ([] : List Fd), e⟩ : PS)) .nils)], rfl, ⟨.refl _, .refl _, trivial⟩, ⟨⟨by decide, _, rfl, wkR (rvRen svOk_nils) (svOk_nils _)⟩, trivial⟩, W, nextP (⟨ws, ([] : List Fd), e⟩ : PS), .nils, 6, rfl, rfl, rfl, svOk_nils, ?_⟩
    repeat' (first | (refine And.intro ?_ ?_) | (intro h; (try first | replace h := of_decide_eq_true h | replace h := of_decide_eq_false h); (try simp only [sg, hx1] at h); (try simp only [sx, ↓reduceIte, Nat.reduceAdd, reduceCtorEq, Int.reduceLT, Int.reduceLE, Int.reduceSub, Nat.reduceEqDiff, Nat.reduceLT] at h); try exact nz h))
    all_goals (try exact cz)
    exact ⟨⟨[], [(0, rP W (failP (nextP (⟨ws, ([] : List Fd), e⟩ : PS)) 6) .nils)], 2⟩, reb_num [0, 1] (by first | rfl | kernel_rfl) trivial ⟨⟨by decide, _, rfl, wkR (rvRen svOk_nils) (svOk_nils _)⟩, trivial⟩, _, rfl, hE⟩
  · by_cases h40 : 40 ≤ ([] : List Fd).length
    · exact absurd h40 (by simp)
    · by_cases h8 : 8 < depth
      · skip
        have h40' : ([] : List Fd).length < 40 := by decide
        have hh : headP depth (⟨ws, ([] : List Fd), e⟩ : PS) = failP (nextP (⟨ws, ([] : List Fd), e⟩ : PS)) 11 := headP_deep hn h40 h8
        have hE := hE (rfield_e (by decide) hh)
        rw [hh] at hE
        repeat' (first | (refine And.intro ?_ ?_) | (intro h; (try first | replace h := of_decide_eq_true h | replace h := of_decide_eq_false h); (try simp only [sg, hx1] at h); (try simp only [sx, ↓reduceIte, Nat.reduceAdd, reduceCtorEq, Int.reduceLT, Int.reduceLE, Int.reduceSub, Nat.reduceEqDiff, Nat.reduceLT] at h); try exact nz h))
        all_goals (try exact cz)
        refine ⟨[0, 1], [.ptr 0 0 0, .int .i64 11], [(0, rP W (nextP (⟨ws, ([] : List Fd), e⟩ : PS)) .nils)], rfl, ⟨.refl _, .refl _, trivial⟩, ⟨⟨by decide, _, rfl, wkR (rvRen svOk_nils) (svOk_nils _)⟩, trivial⟩, W, nextP (⟨ws, ([] : List Fd), e⟩ : PS), .nils, 11, rfl, rfl, rfl, svOk_nils, ?_⟩
        repeat' (first | (refine And.intro ?_ ?_) | (intro h; (try first | replace h := of_decide_eq_true h | replace h := of_decide_eq_false h); (try simp only [sg, hx1] at h); (try simp only [sx, ↓reduceIte, Nat.reduceAdd, reduceCtorEq, Int.reduceLT, Int.reduceLE, Int.reduceSub, Nat.reduceEqDiff, Nat.reduceLT] at h); try exact nz h))
        all_goals (try exact cz)
        exact ⟨⟨[], [(0, rP W (failP (nextP (⟨ws, ([] : List Fd), e⟩ : PS)) 11) .nils)], 2⟩, reb_num [0, 1] (by first | rfl | kernel_rfl) trivial ⟨⟨by decide, _, rfl, wkR (rvRen svOk_nils) (svOk_nils _)⟩, trivial⟩, _, rfl, hE⟩
      · have hh : headP depth (⟨ws, ([] : List Fd), e⟩ : PS) = nextP (⟨ws, ([] : List Fd), e⟩ : PS) := headP_fine hn h40 h8
        have h40' : ([] : List Fd).length < 40 := by decide
        have he0 : e = 0 := e_of_name hn
        have hne : (nextP (⟨ws, ([] : List Fd), e⟩ : PS)).e = 0 := (nextP_e _).trans he0
        have hO := hO (by rw [hh]; exact hne)
        rw [hh] at hO
        repeat' (first | (refine And.intro ?_ ?_) | (intro h; (try first | replace h := of_decide_eq_true h | replace h := of_decide_eq_false h); (try simp only [sg, hx1] at h); (try simp only [sx, ↓reduceIte, Nat.reduceAdd, reduceCtorEq, Int.reduceLT, Int.reduceLE, Int.reduceSub, Nat.reduceEqDiff, Nat.reduceLT] at h); try exact nz h))
        all_goals (try exact cz)
        refine ⟨⟨[], [(0, rP W (addP (nextP (⟨ws, ([] : List Fd), e⟩ : PS)) ⟨nextW (⟨ws, ([] : List Fd), e⟩ : PS), rep, kind, 0⟩) (.slice 2 0 1 4 none)), (2, sB (([] : List Fd) ++ [(⟨nextW (⟨ws, ([] : List Fd), e⟩ : PS), rep, kind, 0⟩ : Fd)]))], 3⟩, ?_⟩
        repeat' (first | (refine And.intro ?_ ?_) | (intro h; (try first | replace h := of_decide_eq_true h | replace h := of_decide_eq_false h); (try simp only [sg, hx1] at h); (try simp only [sx, ↓reduceIte, Nat.reduceAdd, reduceCtorEq, Int.reduceLT, Int.reduceLE, Int.reduceSub, Nat.reduceEqDiff, Nat.reduceLT] at h); try exact nz h))
        all_goals (try exact cz)
        all_goals first | exact ⟨_, .refl _ _ _, _, rfl, hO⟩ | (refine Exists.intro () ?_; refine reb_num [0, 1, 7] (by exact rfl) trivial ⟨⟨by decide, _, by exact rfl, wkR' (by exact rfl)⟩, ⟨by decide, _, by exact rfl, wkB_eq ?_ (fF _)⟩, trivial⟩; exact fieldA_app _ _ _)
theorem rfieldB_t [Syms] {Post : AVal → Heap → Nat → Prop} (W : List Wd) (ws : List Wd) (gs : List Fd) (e : Int) (rep kind depth : Int) (hS : Suf W (⟨ws, gs, e⟩ : PS)) (hW : WOk W) (hfl : gs.length ≤ 40) (hd : -9223372036854775808 ≤ depth ∧ depth ≤ 9223372036854775807)
    (hE : (headP depth (⟨ws, gs, e⟩ : PS)).e ≠ 0 → Post (.tup []) [(0, rP W (headP depth (⟨ws, gs, e⟩ : PS)) (.slice 1 0 gs.length 4 none)), (1, sB gs)] 2)
    (hO : (headP depth (⟨ws, gs, e⟩ : PS)).e = 0 → Post (.tup []) [(0, rP W (addP (headP depth (⟨ws, gs, e⟩ : PS)) ⟨nextW (⟨ws, gs, e⟩ : PS), rep, kind, 0⟩) (.slice 2 0 (gs ++ [(⟨nextW (⟨ws, gs, e⟩ : PS), rep, kind, 0⟩ : Fd)]).length 4 none)), (2, sB (gs ++ [(⟨nextW (⟨ws, gs, e⟩ : PS), rep, kind, 0⟩ : Fd)]))] 3) :
    fnT noneT cRFd (fnTab fns) (tyTab tys) plRF 100 30 [.ptr 0 0 0, .agg [.str [], .int .i64 rep, .int .i64 kind, .int .i64 0], .int .i64 depth] [(0, rP W ((⟨ws, gs, e⟩ : PS)) (.slice 1 0 gs.length 4 none)), (1, sB gs)] 2 Post := by
  have hnm := next_name hS hW
  have hnl := next_len hS hW
  have hx1 : True = True := rfl
  repeat' (first | (refine And.intro ?_ ?_) | (intro h; (try first | replace h := of_decide_eq_true h | replace h := of_decide_eq_false h); (try simp only [sg, hx1] at h); (try simp only [sx, ↓reduceIte, Nat.reduceAdd, reduceCtorEq, Int.reduceLT, Int.reduceLE, Int.reduceSub, Nat.reduceEqDiff, Nat.reduceLT] at h); try exact nz h))
  all_goals (try exact cz)
  refine ⟨[0, 1], [.ptr 0 0 0], [(0, rP W (⟨ws, gs, e⟩ : PS) (.slice 1 0 gs.length 4 none))], rfl, ⟨.refl _, trivial⟩, ⟨⟨by decide, _, rfl, wkR rfl ((svOk_slice _ _ _ _) _)⟩, trivial⟩, W, (⟨ws, gs, e⟩ : PS), (.slice 1 0 gs.length 4 none), rfl, rfl, rfl, ⟨(svOk_slice _ _ _ _), hS⟩, ?_⟩
  repeat' (first | (refine And.intro ?_ ?_) | (intro h; (try first | replace h := of_decide_eq_true h | replace h := of_decide_eq_false h); (try simp only [sg, hx1] at h); (try simp only [sx, ↓reduceIte, Nat.reduceAdd, reduceCtorEq, Int.reduceLT, Int.reduceLE, Int.reduceSub, Nat.reduceEqDiff, Nat.reduceLT] at h); try exact nz h))
  all_goals (try exact cz)
  refine ⟨nextW (⟨ws, gs, e⟩ : PS), rfl, hnl, ?_⟩
  rw [hnm]
  cases hn : nameT (nextW (⟨ws, gs, e⟩ : PS))
  · -- no name
    have hh : headP depth (⟨ws, gs, e⟩ : PS) = failP (nextP (⟨ws, gs, e⟩ : PS)) 6 := headP_name hn
    have hE := hE (rfield_e (by decide) hh)
    rw [hh] at hE
    repeat' (first | (refine And.intro ?_ ?_) | (intro h; (try first | replace h := of_decide_eq_true h | replace h := of_decide_eq_false h); (try simp only [sg, hx1] at h); (try simp only [sx, ↓reduceIte, Nat.reduceAdd, reduceCtorEq, Int.reduceLT, Int.reduceLE, Int.reduceSub, Nat.reduceEqDiff, Nat.reduceLT] at h); try exact nz h))
    all_goals (try exact cz)
    refine ⟨[0, 1], [.ptr 0 0 0, .int .i64 6], [(0, rP W (nextP (⟨ws, gs, e⟩ : PS)) (.slice 1 0 gs.length 4 none))], rfl, ⟨.refl _, .refl _, trivial⟩, ⟨⟨by decide, _, rfl, wkR (rvRen (svOk_slice _ _ _ _)) ((svOk_slice _ _ _ _) _)⟩, trivial⟩, W, nextP (⟨ws, gs, e⟩ : PS), (.slice 1 0 gs.length 4 none), 6, rfl, rfl, rfl, (svOk_slice _ _ _ _), ?_⟩
    repeat' (first | (refine And.intro ?_ ?_) | (intro h; (try first | replace h := of_decide_eq_true h | replace h := of_decide_eq_false h); (try simp only [sg, hx1] at h); (try simp only [sx, ↓reduceIte, Nat.reduceAdd, reduceCtorEq, Int.reduceLT, Int.reduceLE, Int.reduceSub, Nat.reduceEqDiff, Nat.reduceLT] at h); try exact nz h))
    all_goals (try exact cz)
    exact ⟨⟨[], [(0, rP W (failP (nextP (⟨ws, gs, e⟩ : PS)) 6) (.slice 1 0 gs.length 4 none)), (1, sB gs)], 2⟩, reb_num [0, 1] (by first | rfl | kernel_rfl) trivial ⟨⟨by decide, _, rfl, wkR (rvRen (svOk_slice _ _ _ _)) ((svOk_slice _ _ _ _) _)⟩, ⟨by decide, _, rfl, wkB_same (fF _)⟩, trivial⟩, _, rfl, hE⟩
  · by_cases h40 : 40 ≤ gs.length
    · skip
      have hh : headP depth (⟨ws, gs, e⟩ : PS) = failP (nextP (⟨ws, gs, e⟩ : PS)) 4 := headP_many hn h40
      have hE := hE (rfield_e (by decide) hh)
      rw [hh] at hE
      repeat' (first | (refine And.intro ?_ ?_) | (intro h; (try first | replace h := of_decide_eq_true h | replace h := of_decide_eq_false h); (try simp only [sg, hx1] at h); (try simp only [sx, ↓reduceIte, Nat.reduceAdd, reduceCtorEq, Int.reduceLT, Int.reduceLE, Int.reduceSub, Nat.reduceEqDiff, Nat.reduceLT] at h); try exact nz h))
      all_goals (try exact cz)
      refine ⟨[0, 1], [.ptr 0 0 0, .int .i64 4], [(0, rP W (nextP (⟨ws, gs, e⟩ : PS)) (.slice 1 0 gs.length 4 none))], rfl, ⟨.refl _, .refl _, trivial⟩, ⟨⟨by decide, _, rfl, wkR (rvRen (svOk_slice _ _ _ _)) ((svOk_slice _ _ _ _) _)⟩, trivial⟩, W, nextP (⟨ws, gs, e⟩ : PS), (.slice 1 0 gs.length 4 none), 4, rfl, rfl, rfl, (svOk_slice _ _ _ _), ?_⟩
      repeat' (first | (refine And.intro ?_ ?_) | (intro h; (try first | replace h := of_decide_eq_true h | replace h := of_decide_eq_false h); (try simp only [sg, hx1] at h); (try simp only [sx, ↓reduceIte, Nat.reduceAdd, reduceCtorEq, Int.reduceLT, Int.reduceLE, Int.reduceSub, Nat.reduceEqDiff, Nat.reduceLT] at h); try exact nz h))
      all_goals (try exact cz)
      exact ⟨⟨[], [(0, rP W (failP (nextP (⟨ws, gs, e⟩ : PS)) 4) (.slice 1 0 gs.length 4 none)), (1, sB gs)], 2⟩, reb_num [0, 1] (by first | rfl | kernel_rfl) trivial ⟨⟨by decide, _, rfl, wkR (rvRen (svOk_slice _ _ _ _)) ((svOk_slice _ _ _ _) _)⟩, ⟨by decide, _, rfl, wkB_same (fF _)⟩, trivial⟩, _, rfl, hE⟩
    · by_cases h8 : 8 < depth
      · skip
        have hh : headP depth (⟨ws, gs, e⟩ : PS) = failP (nextP (⟨ws, gs, e⟩ : PS)) 11 := headP_deep hn h40 h8
        have hE := hE (rfield_e (by decide) hh)
        rw [hh] at hE
        repeat' (first | (refine And.intro ?_ ?_) | (intro h; (try first | replace h := of_decide_eq_true h | replace h := of_decide_eq_false h); (try simp only [sg, hx1] at h); (try simp only [sx, ↓reduceIte, Nat.reduceAdd, reduceCtorEq, Int.reduceLT, Int.reduceLE, Int.reduceSub, Nat.reduceEqDiff, Nat.reduceLT] at h); try exact nz h))
        all_goals (try exact cz)
        refine ⟨[0, 1], [.ptr 0 0 0, .int .i64 11], [(0, rP W (nextP (⟨ws, gs, e⟩ : PS)) (.slice 1 0 gs.length 4 none))], rfl, ⟨.refl _, .refl _, trivial⟩, ⟨⟨by decide, _, rfl, wkR (rvRen (svOk_slice _ _ _ _)) ((svOk_slice _ _ _ _) _)⟩, trivial⟩, W, nextP (⟨ws, gs, e⟩ : PS), (.slice 1 0 gs.length 4 none), 11, rfl, rfl, rfl, (svOk_slice _ _ _ _), ?_⟩
        repeat' (first | (refine And.intro ?_ ?_) | (intro h; (try first | replace h := of_decide_eq_true h | replace h := of_decide_eq_false h); (try simp only [sg, hx1] at h); (try simp only [sx, ↓reduceIte, Nat.reduceAdd, reduceCtorEq, Int.reduceLT, Int.reduceLE, Int.reduceSub, Nat.reduceEqDiff, Nat.reduceLT] at h); try exact nz h))
        all_goals (try exact cz)
        exact ⟨⟨[], [(0, rP W (failP (nextP (⟨ws, gs, e⟩ : PS)) 11) (.slice 1 0 gs.length 4 none)), (1, sB gs)], 2⟩, reb_num [0, 1] (by first | rfl | kernel_rfl) trivial ⟨⟨by decide, _, rfl, wkR (rvRen (svOk_slice _ _ _ _)) ((svOk_slice _ _ _ _) _)⟩, ⟨by decide, _, rfl, wkB_same (fF _)⟩, trivial⟩, _, rfl, hE⟩
      · have hh : headP depth (⟨ws, gs, e⟩ : PS) = nextP (⟨ws, gs, e⟩ : PS) := headP_fine hn h40 h8
        have he0 : e = 0 := e_of_name hn
        have hne : (nextP (⟨ws, gs, e⟩ : PS)).e = 0 := (nextP_e _).trans he0
        have hO := hO (by rw [hh]; exact hne)
        rw [hh] at hO
        repeat' (first | (refine And.intro ?_ ?_) | (intro h; (try first | replace h := of_decide_eq_true h | replace h := of_decide_eq_false h); (try simp only [sg, hx1] at h); (try simp only [sx, ↓reduceIte, Nat.reduceAdd, reduceCtorEq, Int.reduceLT, Int.reduceLE, Int.reduceSub, Nat.reduceEqDiff, Nat.reduceLT] at h); try exact nz h))
        all_goals (try exact cz)
        rw [show (gs ++ [(⟨nextW (⟨ws, gs, e⟩ : PS), rep, kind, 0⟩ : Fd)]).length = gs.length + 1 by simp] at hO
        refine ⟨⟨[], [(0, rP W (addP (nextP (⟨ws, gs, e⟩ : PS)) ⟨nextW (⟨ws, gs, e⟩ : PS), rep, kind, 0⟩) (.slice 2 0 (gs.length + 1) 4 none)), (2, sB (gs ++ [(⟨nextW (⟨ws, gs, e⟩ : PS), rep, kind, 0⟩ : Fd)]))], 3⟩, ?_⟩
        repeat' (first | (refine And.intro ?_ ?_) | (intro h; (try first | replace h := of_decide_eq_true h | replace h := of_decide_eq_false h); (try simp only [sg, hx1] at h); (try simp only [sx, ↓reduceIte, Nat.reduceAdd, reduceCtorEq, Int.reduceLT, Int.reduceLE, Int.reduceSub, Nat.reduceEqDiff, Nat.reduceLT] at h); try exact nz h))
        all_goals (try exact cz)
        all_goals first | exact ⟨_, .refl _ _ _, _, rfl, hO⟩ | (refine Exists.intro () ?_; refine reb_num [0, 1, 7] (by exact rfl) trivial ⟨⟨by decide, _, by exact rfl, wkR' (by exact rfl)⟩, ⟨by decide, _, by exact rfl, wkB_eq ?_ (fF _)⟩, trivial⟩; exact fieldB_app gs _ _ _)
def fArg (rep kind : Int) : AVal := .agg [.str [], .int .i64 rep, .int .i64 kind, .int .i64 0]
def S_rfield : SpecT := fun args H nx Post => ∃ (W : List Wd) (σ : PS) (rep kind depth : Int), args = [.ptr 0 0 0, fArg rep kind, .int .i64 depth] ∧
  ((σ.fs = [] ∧ H = [(0, rP W σ .nils)] ∧ ((headP depth σ).e ≠ 0 → Post (.tup []) [(0, rP W (headP depth σ) .nils)] 2)) ∨
    (σ.fs ≠ [] ∧ H = [(0, rP W σ (.slice 1 0 σ.fs.length 4 none)), (1, sB σ.fs)] ∧ ((headP depth σ).e ≠ 0 → Post (.tup []) [(0, rP W (headP depth σ) (.slice 1 0 σ.fs.length 4 none)), (1, sB σ.fs)] 2))) ∧ nx = 2 ∧
  (Suf W σ ∧ WOk W ∧ σ.fs.length ≤ 40 ∧ -9223372036854775808 ≤ depth ∧ depth ≤ 9223372036854775807) ∧
  ((headP depth σ).e = 0 → Post (.tup []) [(0, rP W (addP (headP depth σ) ⟨nextW σ, rep, kind, 0⟩) (.slice 2 0 (σ.fs.length + 1) 4 none)), (2, sB (σ.fs ++ [⟨nextW σ, rep, kind, 0⟩]))] 3)
theorem rfield_ok [Syms] : S_rfield.ok Try.prog 30 := by
  rintro args H nx Post ⟨W, σ, rep, kind, depth, rfl, hsh, rfl, ⟨hS, hW, hl, hd⟩, hO⟩
  obtain ⟨ws, gs, e⟩ := σ
  simp only at hsh hl hO
  rcases hsh with ⟨rfl, rfl, hE⟩ | ⟨hne, rfl, hE⟩
  · exact fnT_sound tys_ok fns_ok noneT_det cRFd_ok mixed (rfieldA_t W ws e rep kind depth hS hW hd hE hO)
  · exact fnT_sound tys_ok fns_ok noneT_det cRFd_ok mixed (rfieldB_t W ws gs e rep kind depth hS hW hl hd hE (by
      rw [show (gs ++ [(⟨nextW (⟨ws, gs, e⟩ : PS), rep, kind, 0⟩ : Fd)]).length = gs.length + 1 by simp]
      exact hO))
end Go.Proofs.Ytjffmehcbaechaa
