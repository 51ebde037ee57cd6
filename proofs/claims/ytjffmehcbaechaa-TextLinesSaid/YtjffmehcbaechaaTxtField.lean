/-
  The program's recursive 'field': a field, and all in it.
-/
import Derived.Test.YtjffmehcbaechaaTxtNext
import Derived.Test.YtjffmehcbaechaaTxtInv
set_option linter.unusedVariables false
set_option linter.unusedSimpArgs false
namespace Go.Proofs.Ytjffmehcbaechaa
open Go Go.Av
set_option maxRecDepth 100000
set_option maxHeartbeats 16000000
/-- A parser that has found something wrong. -/
def eB (ws : List Wd) (e : Int) : Option Blk := some (.cells [[vW ws, .any, .int .i64 e]] false)
def sB (fs : List Fd) : Option Blk := some (.cells (fs.map encF) false)
theorem wkE {ρ : Nat → Nat} {R : List (List AVal)} {ws : List Wd} {b : AVal} {e : Int} (h : R = [[vW ws, b, .int .i64 e]]) : WkB (.cells R false) ((Blk.cells [[vW ws, .any, .int .i64 e]] false).ren ρ) := by
  subst h
  refine .each _ _ _ rfl fun k r r' h1 h2 => ?_
  cases k with
  | zero =>
    cases h1; cases h2
    refine ⟨rfl, fun j x x' hx hx' => ?_⟩
    match j with
    | 0 => cases hx; cases hx'; exact .refl _
    | 1 => cases hx'; exact .any _
    | 2 => cases hx; cases hx'; exact .refl _
    | j + 3 => cases hx'
  | succ k => cases h2
theorem wr_id {x : Int} (h1 : -9223372036854775808 ≤ x) (h2 : x ≤ 9223372036854775807) : wr .i64 x = x := by
  unfold wr
  rw [if_pos]
  exact ⟨h1, h2⟩
theorem ren_mapF (ρ : Nat → Nat) (l : List Fd) : (l.map encF).map (AVal.renL ρ) = l.map encF := by
  rw [List.map_map]
  exact List.map_congr_left fun a _ => renL_flat ρ (by intro x hx; simp [encF] at hx; rcases hx with rfl | rfl | rfl | rfl <;> rfl)
theorem mustP_fs (w : Wd) (σ : PS) : (mustP w σ).fs = σ.fs := by
  unfold mustP
  split
  · exact nextP_fs σ
  · rw [failP_fs, nextP_fs]
theorem pickP_fs (l : List Wd) (σ : PS) : (pickP l σ).fs = σ.fs := by
  unfold pickP
  split
  · rw [failP_fs, nextP_fs]
  · exact nextP_fs σ
theorem ps_ext {σ : PS} {ws : List Wd} {fs : List Fd} {e : Int} (h1 : σ.ws = ws) (h2 : σ.fs = fs) (h3 : σ.e = e) : σ = ⟨ws, fs, e⟩ := by
  obtain ⟨a, b, c⟩ := σ
  simp only at h1 h2 h3
  subst h1; subst h2; subst h3
  rfl
def tfL (depth : Int) (ws : List Wd) (fs : List Fd) (e : Int) (at' : Nat) : St := ⟨[(0, .ptr 0 0 0), (3, .int .i64 depth), (9, .int .i64 at')], [(0, pB ws (.slice 2 0 fs.length 4 none) e), (2, sB fs)], 3⟩
theorem p_e {ρ : Nat → Nat} {ws : List Wd} {sv : AVal} {e : Int} : asI (((List.map (AVal.renL ρ) [[vW ws, sv, AVal.int .i64 e]]).getD 0 []).getD 2 AVal.any) = e := rfl
theorem nums2 {nx : Nat} (h : 2 < nx) : NumsOk 2 nx [0, 1] = true := by
  have a0 : Nat.blt 0 nx = true := by rw [Nat.blt_eq]; omega
  have a1 : Nat.blt 1 nx = true := by rw [Nat.blt_eq]; omega
  show (Nat.blt 0 nx && (Nat.blt 1 nx && true) && _ && _ && _) = true
  rw [a0, a1]; rfl
theorem nums3 {nx : Nat} (h : 2 < nx) : NumsOk 2 nx [0, 1, 2] = true := by
  have a0 : Nat.blt 0 nx = true := by rw [Nat.blt_eq]; omega
  have a1 : Nat.blt 1 nx = true := by rw [Nat.blt_eq]; omega
  have a2 : Nat.blt 2 nx = true := by rw [Nat.blt_eq]; omega
  show (Nat.blt 0 nx && (Nat.blt 1 nx && (Nat.blt 2 nx && true)) && _ && _ && _) = true
  rw [a0, a1, a2]; rfl
/-- What 'field' gives, at its end. -/
theorem fin_field [Syms] {N : Nat} {Post : AVal → Heap → Nat → Prop} {τ : PS} {fs : List Fd} {env : Env} {H : Heap} {nx : Nat}
    (hE : τ.e ≠ 0 → Post (.tup []) [(0, eB τ.ws τ.e)] 2) (hO : τ.e = 0 → Post (.tup []) [(0, pB τ.ws (.slice 2 0 τ.fs.length 4 none) 0), (2, sB τ.fs)] 3) (hfs : τ.fs = fs)
    (h0 : H.get 0 = some (.cells [[vW τ.ws, .slice 2 0 fs.length 4 none, .int .i64 τ.e]] false)) (h2 : H.get 2 = some (.cells (fs.map encF) false)) (hn : Nat.blt 2 nx = true := by first | rfl | kernel_rfl) :
    ∃ s3, Reb 2 N ⟨env, H, nx⟩ s3 ∧ ∃ v, resultsA (tyTab tys) s3 [] = some v ∧ Post v s3.heap s3.nx := by
  have hn' : 2 < nx := by simpa [Nat.blt_eq] using hn
  by_cases he : τ.e = 0
  · refine ⟨⟨[], [(0, pB τ.ws (.slice 2 0 τ.fs.length 4 none) 0), (2, sB τ.fs)], 3⟩, reb_num [0, 1, 2] (nums3 hn') trivial ⟨⟨by decide, _, h0, ?_⟩, ⟨by decide, _, h2, ?_⟩, trivial⟩, _, rfl, hO he⟩
    · rw [hfs, he]; exact .refl _
    · rw [hfs]; exact wkB_same (fF _)
  · exact ⟨⟨[], [(0, eB τ.ws τ.e)], 2⟩, reb_num [0, 1] (nums2 hn') trivial ⟨⟨by decide, _, h0, wkE rfl⟩, trivial⟩, _, rfl, hE he⟩
def S_field (n : Nat) : SpecT := fun args H nx Post => ∃ (σ : PS) (rep kind depth : Int), args = [.ptr 0 0 0, .int .i64 rep, .int .i64 kind, .int .i64 depth] ∧ ((σ.fs = [] ∧ H = [(0, pB σ.ws .nils σ.e)]) ∨ (σ.fs ≠ [] ∧ H = [(0, pB σ.ws (.slice 1 0 σ.fs.length 4 none) σ.e), (1, sB σ.fs)])) ∧ nx = 2 ∧ (PInv σ ∧ 0 ≤ depth ∧ depth ≤ 9 ∧ 10 ≤ n + depth) ∧
  ((fieldP n rep kind depth σ).e ≠ 0 → Post (.tup []) [(0, eB (fieldP n rep kind depth σ).ws (fieldP n rep kind depth σ).e)] 2) ∧
  ((fieldP n rep kind depth σ).e = 0 → Post (.tup []) [(0, pB (fieldP n rep kind depth σ).ws (.slice 2 0 (fieldP n rep kind depth σ).fs.length 4 none) 0), (2, sB (fieldP n rep kind depth σ).fs)] 3)
abbrev cFd (n : Nat) : CallT := pickT 38 (specT S_next) (pickT 25 (specT S_fail) (pickT 23 (specT S_must) (pickT 40 (specT S_pick) (pickT 39 (immT S_tname) (pickT 41 (immT S_reps) (pickT 42 (immT S_kinds) (pickT 24 (specT (S_field n)) noneT)))))))
theorem cFd_ok [Syms] {n : Nat} (h : (S_field n).ok Try.prog 24) : (cFd n).ok Try.prog :=
  pickT_spec tnext_ok (pickT_spec tfail_ok (pickT_spec tmust_ok (pickT_spec tpick_ok (pickT_imm_ok tname_ok (pickT_imm_ok reps_ok (pickT_imm_ok kinds_ok (pickT_spec h noneT_ok)))))))
noncomputable abbrev plF : Nat → Nat → Pl := plAdd [(24, 9), (24, 12), (24, 13), (24, 14), (24, 15), (24, 17)] (plTab plt)
theorem field_t [Syms] {Post : AVal → Heap → Nat → Prop} (n : Nat) (σ τ : PS) (rep kind depth : Int) (H : Heap) (hH : (σ.fs = [] ∧ H = [(0, pB σ.ws .nils σ.e)]) ∨ (σ.fs ≠ [] ∧ H = [(0, pB σ.ws (.slice 1 0 σ.fs.length 4 none) σ.e), (1, sB σ.fs)]))
    (hI : PInv σ) (hd0 : 0 ≤ depth) (hd9 : depth ≤ 9) (hnd : 10 ≤ (n + 1 : Nat) + depth) (hτ : fieldP (n + 1) rep kind depth σ = τ)
    (hE : τ.e ≠ 0 → Post (.tup []) [(0, eB τ.ws τ.e)] 2) (hO : τ.e = 0 → Post (.tup []) [(0, pB τ.ws (.slice 2 0 τ.fs.length 4 none) 0), (2, sB τ.fs)] 3) :
    fnT noneT (cFd n) (fnTab fns) (tyTab tys) plF 100 24 [.ptr 0 0 0, .int .i64 rep, .int .i64 kind, .int .i64 depth] H 2 Post := by
  obtain ⟨ws, gs, e⟩ := σ
  rw [fieldP] at hτ
  simp only at hτ
  rcases hH with ⟨rfl, rfl⟩ | ⟨hne, rfl⟩
  · -- no fields as yet
    have hI : PInv (⟨ws, [], e⟩ : PS) := hI
    have hwl := nextW_mem hI
    have hlen : ws.length ≤ 5000 := hI.len
    have hx1 : True = True := rfl
    refine .inr ⟨fun lb m s => lb = 0 ∧ ∃ (ws : List Wd) (fs : List Fd) (at' f : Nat), (PInv ⟨ws, fs, 0⟩ ∧ at' < fs.length ∧ ws.length < f ∧ m = ws.length ∧ depth ≤ 8 ∧ moreP (fun r k => fieldP n r k (depth + 1)) at' f ⟨ws, fs, 0⟩ = τ) ∧ s = tfL depth ws fs 0 at', ?_, ?_⟩
    · cases hnm : nameT (nextW (⟨ws, [], e⟩ : PS))
      · by_cases h40 : 40 ≤ ([] : List Fd).length
        · exact absurd h40 (by simp)
        · by_cases h8 : 8 < depth
          · skip
            have hch : headP depth (⟨ws, [], e⟩ : PS) = failP (failP (nextP (⟨ws, [], e⟩ : PS)) 6) 11 := by
              unfold headP
              simp only [hnm, reduceCtorEq, failP_fs, nextP_fs, h40, h8, if_true, if_false]
            have hce : (failP (failP (nextP (⟨ws, [], e⟩ : PS)) 6) 11).e ≠ 0 := failP_e (by decide)
            rw [if_pos (by rw [hch]; exact hce), hch] at hτ
            rw [← hτ] at hE
            refine ⟨[0, 1], [.ptr 0 0 0], [(0, pB ((⟨ws, [], e⟩ : PS)).ws .nils ((⟨ws, [], e⟩ : PS)).e)], rfl, ⟨.refl _, trivial⟩, ⟨⟨by decide, _, rfl, .refl _⟩, trivial⟩, (⟨ws, [], e⟩ : PS), .nils, rfl, rfl, rfl, ⟨svOk_nils, hI.len⟩, ?_⟩
            repeat' (first | (refine And.intro ?_ ?_) | (intro h; (try first | replace h := of_decide_eq_true h | replace h := of_decide_eq_false h); (try simp only [p_e, sg, hx1] at h); (try simp only [sx, ↓reduceIte, Nat.reduceAdd, reduceCtorEq, Int.reduceLT, Int.reduceLE, Int.reduceSub, Nat.reduceEqDiff, Nat.reduceLT] at h); try exact nz h))
            all_goals (try exact cz)
            refine ⟨nextW (⟨ws, [], e⟩ : PS), rfl, hwl, ?_⟩
            rw [hnm]
            repeat' (first | (refine And.intro ?_ ?_) | (intro h; (try first | replace h := of_decide_eq_true h | replace h := of_decide_eq_false h); (try simp only [p_e, sg, hx1] at h); (try simp only [sx, ↓reduceIte, Nat.reduceAdd, reduceCtorEq, Int.reduceLT, Int.reduceLE, Int.reduceSub, Nat.reduceEqDiff, Nat.reduceLT] at h); try exact nz h))
            all_goals (try exact cz)
            refine ⟨[0, 1], [.ptr 0 0 0, .int .i64 6], [(0, pB (nextP (⟨ws, [], e⟩ : PS)).ws .nils (nextP (⟨ws, [], e⟩ : PS)).e)], rfl, ⟨.refl _, .refl _, trivial⟩, ⟨⟨by decide, _, rfl, .refl _⟩, trivial⟩, nextP (⟨ws, [], e⟩ : PS), .nils, 6, rfl, rfl, rfl, svOk_nils, ?_⟩
            repeat' (first | (refine And.intro ?_ ?_) | (intro h; (try first | replace h := of_decide_eq_true h | replace h := of_decide_eq_false h); (try simp only [p_e, sg, hx1] at h); (try simp only [sx, ↓reduceIte, Nat.reduceAdd, reduceCtorEq, Int.reduceLT, Int.reduceLE, Int.reduceSub, Nat.reduceEqDiff, Nat.reduceLT] at h); try exact nz h))
            all_goals (try exact cz)
            refine ⟨[0, 1], [.ptr 0 0 0, .int .i64 11], [(0, pB (failP (nextP (⟨ws, [], e⟩ : PS)) 6).ws .nils (failP (nextP (⟨ws, [], e⟩ : PS)) 6).e)], rfl, ⟨.refl _, .refl _, trivial⟩, ⟨⟨by decide, _, rfl, .refl _⟩, trivial⟩, failP (nextP (⟨ws, [], e⟩ : PS)) 6, .nils, 11, rfl, rfl, rfl, svOk_nils, ?_⟩
            repeat' (first | (refine And.intro ?_ ?_) | (intro h; (try first | replace h := of_decide_eq_true h | replace h := of_decide_eq_false h); (try simp only [p_e, sg, hx1] at h); (try simp only [sx, ↓reduceIte, Nat.reduceAdd, reduceCtorEq, Int.reduceLT, Int.reduceLE, Int.reduceSub, Nat.reduceEqDiff, Nat.reduceLT] at h); try exact nz h))
            all_goals (try exact cz)
            exact ⟨⟨[], [(0, eB (failP (failP (nextP (⟨ws, [], e⟩ : PS)) 6) 11).ws (failP (failP (nextP (⟨ws, [], e⟩ : PS)) 6) 11).e)], 2⟩, reb_num [0, 1] (by first | rfl | kernel_rfl) trivial ⟨⟨by decide, _, rfl, wkE rfl⟩, trivial⟩, _, rfl, hE hce⟩
          · skip
            have hch : headP depth (⟨ws, [], e⟩ : PS) = failP (nextP (⟨ws, [], e⟩ : PS)) 6 := by
              unfold headP
              simp only [hnm, reduceCtorEq, failP_fs, nextP_fs, h40, h8, if_true, if_false]
            have hce : (failP (nextP (⟨ws, [], e⟩ : PS)) 6).e ≠ 0 := failP_e (by decide)
            rw [if_pos (by rw [hch]; exact hce), hch] at hτ
            rw [← hτ] at hE
            refine ⟨[0, 1], [.ptr 0 0 0], [(0, pB ((⟨ws, [], e⟩ : PS)).ws .nils ((⟨ws, [], e⟩ : PS)).e)], rfl, ⟨.refl _, trivial⟩, ⟨⟨by decide, _, rfl, .refl _⟩, trivial⟩, (⟨ws, [], e⟩ : PS), .nils, rfl, rfl, rfl, ⟨svOk_nils, hI.len⟩, ?_⟩
            repeat' (first | (refine And.intro ?_ ?_) | (intro h; (try first | replace h := of_decide_eq_true h | replace h := of_decide_eq_false h); (try simp only [p_e, sg, hx1] at h); (try simp only [sx, ↓reduceIte, Nat.reduceAdd, reduceCtorEq, Int.reduceLT, Int.reduceLE, Int.reduceSub, Nat.reduceEqDiff, Nat.reduceLT] at h); try exact nz h))
            all_goals (try exact cz)
            refine ⟨nextW (⟨ws, [], e⟩ : PS), rfl, hwl, ?_⟩
            rw [hnm]
            repeat' (first | (refine And.intro ?_ ?_) | (intro h; (try first | replace h := of_decide_eq_true h | replace h := of_decide_eq_false h); (try simp only [p_e, sg, hx1] at h); (try simp only [sx, ↓reduceIte, Nat.reduceAdd, reduceCtorEq, Int.reduceLT, Int.reduceLE, Int.reduceSub, Nat.reduceEqDiff, Nat.reduceLT] at h); try exact nz h))
            all_goals (try exact cz)
            refine ⟨[0, 1], [.ptr 0 0 0, .int .i64 6], [(0, pB (nextP (⟨ws, [], e⟩ : PS)).ws .nils (nextP (⟨ws, [], e⟩ : PS)).e)], rfl, ⟨.refl _, .refl _, trivial⟩, ⟨⟨by decide, _, rfl, .refl _⟩, trivial⟩, nextP (⟨ws, [], e⟩ : PS), .nils, 6, rfl, rfl, rfl, svOk_nils, ?_⟩
            repeat' (first | (refine And.intro ?_ ?_) | (intro h; (try first | replace h := of_decide_eq_true h | replace h := of_decide_eq_false h); (try simp only [p_e, sg, hx1] at h); (try simp only [sx, ↓reduceIte, Nat.reduceAdd, reduceCtorEq, Int.reduceLT, Int.reduceLE, Int.reduceSub, Nat.reduceEqDiff, Nat.reduceLT] at h); try exact nz h))
            all_goals (try exact cz)
            exact ⟨⟨[], [(0, eB (failP (nextP (⟨ws, [], e⟩ : PS)) 6).ws (failP (nextP (⟨ws, [], e⟩ : PS)) 6).e)], 2⟩, reb_num [0, 1] (by first | rfl | kernel_rfl) trivial ⟨⟨by decide, _, rfl, wkE rfl⟩, trivial⟩, _, rfl, hE hce⟩
      · by_cases h40 : 40 ≤ ([] : List Fd).length
        · exact absurd h40 (by simp)
        · by_cases h8 : 8 < depth
          · skip
            have hch : headP depth (⟨ws, [], e⟩ : PS) = failP (nextP (⟨ws, [], e⟩ : PS)) 11 := by
              unfold headP
              simp only [hnm, reduceCtorEq, failP_fs, nextP_fs, h40, h8, if_true, if_false]
            have hce : (failP (nextP (⟨ws, [], e⟩ : PS)) 11).e ≠ 0 := failP_e (by decide)
            rw [if_pos (by rw [hch]; exact hce), hch] at hτ
            rw [← hτ] at hE
            refine ⟨[0, 1], [.ptr 0 0 0], [(0, pB ((⟨ws, [], e⟩ : PS)).ws .nils ((⟨ws, [], e⟩ : PS)).e)], rfl, ⟨.refl _, trivial⟩, ⟨⟨by decide, _, rfl, .refl _⟩, trivial⟩, (⟨ws, [], e⟩ : PS), .nils, rfl, rfl, rfl, ⟨svOk_nils, hI.len⟩, ?_⟩
            repeat' (first | (refine And.intro ?_ ?_) | (intro h; (try first | replace h := of_decide_eq_true h | replace h := of_decide_eq_false h); (try simp only [p_e, sg, hx1] at h); (try simp only [sx, ↓reduceIte, Nat.reduceAdd, reduceCtorEq, Int.reduceLT, Int.reduceLE, Int.reduceSub, Nat.reduceEqDiff, Nat.reduceLT] at h); try exact nz h))
            all_goals (try exact cz)
            refine ⟨nextW (⟨ws, [], e⟩ : PS), rfl, hwl, ?_⟩
            rw [hnm]
            repeat' (first | (refine And.intro ?_ ?_) | (intro h; (try first | replace h := of_decide_eq_true h | replace h := of_decide_eq_false h); (try simp only [p_e, sg, hx1] at h); (try simp only [sx, ↓reduceIte, Nat.reduceAdd, reduceCtorEq, Int.reduceLT, Int.reduceLE, Int.reduceSub, Nat.reduceEqDiff, Nat.reduceLT] at h); try exact nz h))
            all_goals (try exact cz)
            refine ⟨[0, 1], [.ptr 0 0 0, .int .i64 11], [(0, pB (nextP (⟨ws, [], e⟩ : PS)).ws .nils (nextP (⟨ws, [], e⟩ : PS)).e)], rfl, ⟨.refl _, .refl _, trivial⟩, ⟨⟨by decide, _, rfl, .refl _⟩, trivial⟩, nextP (⟨ws, [], e⟩ : PS), .nils, 11, rfl, rfl, rfl, svOk_nils, ?_⟩
            repeat' (first | (refine And.intro ?_ ?_) | (intro h; (try first | replace h := of_decide_eq_true h | replace h := of_decide_eq_false h); (try simp only [p_e, sg, hx1] at h); (try simp only [sx, ↓reduceIte, Nat.reduceAdd, reduceCtorEq, Int.reduceLT, Int.reduceLE, Int.reduceSub, Nat.reduceEqDiff, Nat.reduceLT] at h); try exact nz h))
            all_goals (try exact cz)
            exact ⟨⟨[], [(0, eB (failP (nextP (⟨ws, [], e⟩ : PS)) 11).ws (failP (nextP (⟨ws, [], e⟩ : PS)) 11).e)], 2⟩, reb_num [0, 1] (by first | rfl | kernel_rfl) trivial ⟨⟨by decide, _, rfl, wkE rfl⟩, trivial⟩, _, rfl, hE hce⟩
          · skip
            have h40' : ([] : List Fd).length < 40 := by simp
            have hch : headP depth (⟨ws, [], e⟩ : PS) = nextP ⟨ws, [], e⟩ := by
              unfold headP
              simp only [hnm, reduceCtorEq, failP_fs, nextP_fs, h40, h8, if_true, if_false]
            have he0 : e = 0 := by
              by_cases he : e = 0
              · exact he
              · rw [show nextW ⟨ws, [], e⟩ = [] from if_pos he] at hnm; cases hnm
            subst he0
            have hnx0 : (nextP (⟨ws, [], 0⟩ : PS)).e = 0 := nextP_e _
            refine ⟨[0, 1], [.ptr 0 0 0], [(0, pB ((⟨ws, [], 0⟩ : PS)).ws .nils ((⟨ws, [], 0⟩ : PS)).e)], rfl, ⟨.refl _, trivial⟩, ⟨⟨by decide, _, rfl, .refl _⟩, trivial⟩, (⟨ws, [], 0⟩ : PS), .nils, rfl, rfl, rfl, ⟨svOk_nils, hI.len⟩, ?_⟩
            repeat' (first | (refine And.intro ?_ ?_) | (intro h; (try first | replace h := of_decide_eq_true h | replace h := of_decide_eq_false h); (try simp only [p_e, sg, hx1] at h); (try simp only [sx, ↓reduceIte, Nat.reduceAdd, reduceCtorEq, Int.reduceLT, Int.reduceLE, Int.reduceSub, Nat.reduceEqDiff, Nat.reduceLT] at h); try exact nz h))
            all_goals (try exact cz)
            refine ⟨nextW (⟨ws, [], 0⟩ : PS), rfl, hwl, ?_⟩
            rw [hnm]
            repeat' (first | (refine And.intro ?_ ?_) | (intro h; (try first | replace h := of_decide_eq_true h | replace h := of_decide_eq_false h); (try simp only [p_e, sg, hx1] at h); (try simp only [sx, ↓reduceIte, Nat.reduceAdd, reduceCtorEq, Int.reduceLT, Int.reduceLE, Int.reduceSub, Nat.reduceEqDiff, Nat.reduceLT] at h); try exact nz h))
            all_goals (try exact cz)
            rw [hch, if_neg (fun h => h hnx0), nextP_fs] at hτ
            have hIn : PInv (nextP ⟨ws, [], 0⟩) := (nextP_le _).inv hI
            obtain ⟨w0, hw0⟩ : ∃ w0, nextP (⟨ws, [], 0⟩ : PS) = ⟨w0, [], 0⟩ := ⟨(nextP ⟨ws, [], 0⟩).ws, rfl⟩
            generalize hw : nextW (⟨ws, [], 0⟩ : PS) = w at *
            rw [hw0] at hτ hIn ⊢
            have hIa : PInv ⟨w0, [⟨w, rep, kind, 0⟩], 0⟩ := (addP_le (σ := ⟨w0, [], 0⟩) (f := ⟨w, rep, kind, 0⟩) h40' rfl (nameT_len hnm)).inv hIn
            refine ⟨⟨[(0, .ptr 0 0 0), (2, .int .i64 kind), (3, .int .i64 depth), (9, .int .i64 ([] : List Fd).length)], [(0, pB w0 (.slice 2 0 ([⟨w, rep, kind, 0⟩] : List Fd).length 4 none) 0), (2, sB [⟨w, rep, kind, 0⟩])], 3⟩, reb_num [0, 1, 5] (by first | rfl | kernel_rfl) ⟨.refl _, .refl _, .refl _, .refl _, trivial⟩ ⟨⟨by decide, _, rfl, .refl _⟩, ⟨by decide, _, rfl, wkB_eq rfl (fF _)⟩, trivial⟩, ?_⟩
            have hfsn : ([⟨w, rep, kind, 0⟩] : List Fd) ≠ [] := by simp
            have hat : ([] : List Fd).length < ([⟨w, rep, kind, 0⟩] : List Fd).length := by simp
            have hτ : (if kind ≠ 0 then mustP [59] ⟨w0, [⟨w, rep, kind, 0⟩], 0⟩ else moreP (fun r k => fieldP n r k (depth + 1)) ([] : List Fd).length (w0.length + 1) (mustP [123] ⟨w0, [⟨w, rep, kind, 0⟩], 0⟩)) = τ := hτ
            generalize ([⟨w, rep, kind, 0⟩] : List Fd) = fs at *
            generalize ([] : List Fd).length = at' at hτ hat ⊢
            by_cases hk : kind = 0
            · rw [if_neg (fun h => h hk)] at hτ
              obtain ⟨ws, e, hmu⟩ : ∃ ws e, mustP [123] (⟨w0, fs, 0⟩ : PS) = ⟨ws, fs, e⟩ := ⟨_, _, ps_ext rfl (mustP_fs _ _) rfl⟩
              have hI : PInv ⟨ws, fs, e⟩ := by rw [← hmu]; exact (mustP_le _ _).inv hIa
              have hf : ws.length < w0.length + 1 := by have := (mustP_le [123] ⟨w0, fs, 0⟩).len; rw [hmu] at this; exact Nat.lt_succ_of_le this
              have ha := hat
              have hne := hfsn
              have hm0 := hτ
              rw [hmu] at hm0
              repeat' (first | (refine And.intro ?_ ?_) | (intro h; (try first | replace h := of_decide_eq_true h | replace h := of_decide_eq_false h); (try simp only [p_e, sg, hx1] at h); (try simp only [sx, ↓reduceIte, Nat.reduceAdd, reduceCtorEq, Int.reduceLT, Int.reduceLE, Int.reduceSub, Nat.reduceEqDiff, Nat.reduceLT] at h); try exact nz h))
              all_goals (try exact cz)
              refine ⟨[0, 2], [.ptr 0 0 0, .str [123]], [(0, pB w0 (.slice 1 0 fs.length 4 none) 0)], rfl, ⟨.refl _, .refl _, trivial⟩, ⟨⟨by decide, _, rfl, .refl _⟩, trivial⟩, ⟨w0, fs, 0⟩, .slice 1 0 fs.length 4 none, [123], rfl, rfl, rfl, ⟨svOk_slice _ _ _ _, hIa.len⟩, ?_⟩
              rw [hmu]
              clear hτ
              generalize w0.length + 1 = f0 at hm0 hf
              repeat' (first | (refine And.intro ?_ ?_) | (intro h; (try first | replace h := of_decide_eq_true h | replace h := of_decide_eq_false h); (try simp only [p_e, sg, hx1] at h); (try simp only [sx, ↓reduceIte, Nat.reduceAdd, reduceCtorEq, Int.reduceLT, Int.reduceLE, Int.reduceSub, Nat.reduceEqDiff, Nat.reduceLT] at h); try exact nz h))
              all_goals (try exact cz)
              refine ⟨tfL depth ws fs e at', reb_num [0, 1, 2] (by first | rfl | kernel_rfl) ⟨.refl _, .refl _, .refl _, trivial⟩ ⟨⟨by decide, _, rfl, .refl _⟩, ⟨by decide, _, rfl, wkB_same (fF _)⟩, trivial⟩, ?_⟩
              obtain ⟨w1, e1, q1⟩ : ∃ w1 e1, pickP kwReps (⟨ws, fs, e⟩ : PS) = ⟨w1, fs, e1⟩ := ⟨_, _, ps_ext rfl (pickP_fs _ _) rfl⟩
              obtain ⟨w2, e2, q2⟩ : ∃ w2 e2, pickP kwKinds (⟨w1, fs, e1⟩ : PS) = ⟨w2, fs, e2⟩ := ⟨_, _, ps_ext rfl (pickP_fs _ _) rfl⟩
              obtain ⟨v1, r1⟩ : ∃ v1, pickV kwReps (⟨ws, fs, e⟩ : PS) = v1 := ⟨_, rfl⟩
              obtain ⟨v2, r2⟩ : ∃ v2, pickV kwKinds (⟨w1, fs, e1⟩ : PS) = v2 := ⟨_, rfl⟩
              obtain ⟨w3, fs3, e3, q3⟩ : ∃ w3 fs3 e3, fieldP n v1 v2 (depth + 1) (⟨w2, fs, e2⟩ : PS) = ⟨w3, fs3, e3⟩ := ⟨_, _, _, rfl⟩
              have hI1 : PInv ⟨w1, fs, e1⟩ := by rw [← q1]; exact (pickP_le _ _).inv hI
              have hI2 : PInv ⟨w2, fs, e2⟩ := by rw [← q2]; exact (pickP_le _ _).inv hI1
              have hI3' : PInv ⟨w3, fs3, e3⟩ := by rw [← q3]; exact (fieldP_le _ _ _ _ _).inv hI2
              have hfl3 : fs.length ≤ fs3.length := by have := (fieldP_le n v1 v2 (depth + 1) ⟨w2, fs, e2⟩).fl; rw [q3] at this; exact this
              obtain ⟨f, rfl⟩ : ∃ f, f0 = f + 1 := ⟨f0 - 1, by omega⟩
              rw [moreP] at hm0
              simp only at hm0
              rw [q1, r1, q2, r2] at hm0
              have hm := hm0
              repeat' (first | (refine And.intro ?_ ?_) | (intro h; (try first | replace h := of_decide_eq_true h | replace h := of_decide_eq_false h); (try simp only [p_e, sg, hx1] at h); (try simp only [sx, ↓reduceIte, Nat.reduceAdd, reduceCtorEq, Int.reduceLT, Int.reduceLE, Int.reduceSub, Nat.reduceEqDiff, Nat.reduceLT] at h); try exact nz h))
              all_goals (try exact cz)
              refine ⟨[0, 2], [.ptr 0 0 0, vW kwReps], [(0, pB ((⟨ws, fs, e⟩ : PS)).ws (.slice 1 0 fs.length 4 none) ((⟨ws, fs, e⟩ : PS)).e)], rfl, ⟨.refl _, .refl _, trivial⟩, ⟨⟨by decide, _, rfl, .refl _⟩, trivial⟩, (⟨ws, fs, e⟩ : PS), (.slice 1 0 fs.length 4 none), kwReps, rfl, rfl, rfl, ⟨svOk_slice _ _ _ _, hI.len, by decide⟩, ?_⟩
              rw [q1, r1]
              repeat' (first | (refine And.intro ?_ ?_) | (intro h; (try first | replace h := of_decide_eq_true h | replace h := of_decide_eq_false h); (try simp only [p_e, sg, hx1] at h); (try simp only [sx, ↓reduceIte, Nat.reduceAdd, reduceCtorEq, Int.reduceLT, Int.reduceLE, Int.reduceSub, Nat.reduceEqDiff, Nat.reduceLT] at h); try exact nz h))
              all_goals (try exact cz)
              refine ⟨⟨[(0, .ptr 0 0 0), (1, .int .i64 v1), (3, .int .i64 depth), (9, .int .i64 at')], [(0, pB w1 (.slice 2 0 fs.length 4 none) e1), (2, sB fs)], 3⟩, reb_num [0, 1, 2] (by first | rfl | kernel_rfl) ⟨.refl _, .refl _, .refl _, .refl _, trivial⟩ ⟨⟨by decide, _, rfl, .refl _⟩, ⟨by decide, _, rfl, wkB_same (fF _)⟩, trivial⟩, ?_⟩
              repeat' (first | (refine And.intro ?_ ?_) | (intro h; (try first | replace h := of_decide_eq_true h | replace h := of_decide_eq_false h); (try simp only [p_e, sg, hx1] at h); (try simp only [sx, ↓reduceIte, Nat.reduceAdd, reduceCtorEq, Int.reduceLT, Int.reduceLE, Int.reduceSub, Nat.reduceEqDiff, Nat.reduceLT] at h); try exact nz h))
              all_goals (try exact cz)
              refine ⟨[0, 2], [.ptr 0 0 0, vW kwKinds], [(0, pB ((⟨w1, fs, e1⟩ : PS)).ws (.slice 1 0 fs.length 4 none) ((⟨w1, fs, e1⟩ : PS)).e)], rfl, ⟨.refl _, .refl _, trivial⟩, ⟨⟨by decide, _, rfl, .refl _⟩, trivial⟩, (⟨w1, fs, e1⟩ : PS), (.slice 1 0 fs.length 4 none), kwKinds, rfl, rfl, rfl, ⟨svOk_slice _ _ _ _, hI1.len, by decide⟩, ?_⟩
              rw [q2, r2]
              repeat' (first | (refine And.intro ?_ ?_) | (intro h; (try first | replace h := of_decide_eq_true h | replace h := of_decide_eq_false h); (try simp only [p_e, sg, hx1] at h); (try simp only [sx, ↓reduceIte, Nat.reduceAdd, reduceCtorEq, Int.reduceLT, Int.reduceLE, Int.reduceSub, Nat.reduceEqDiff, Nat.reduceLT] at h); try exact nz h))
              all_goals (try exact cz)
              refine ⟨⟨[(0, .ptr 0 0 0), (1, .int .i64 v1), (2, .int .i64 v2), (3, .int .i64 depth), (9, .int .i64 at')], [(0, pB w2 (.slice 2 0 fs.length 4 none) e2), (2, sB fs)], 3⟩, reb_num [0, 1, 2] (by first | rfl | kernel_rfl) ⟨.refl _, .refl _, .refl _, .refl _, .refl _, trivial⟩ ⟨⟨by decide, _, rfl, .refl _⟩, ⟨by decide, _, rfl, wkB_same (fF _)⟩, trivial⟩, ?_⟩
              repeat' (first | (refine And.intro ?_ ?_) | (intro h; (try first | replace h := of_decide_eq_true h | replace h := of_decide_eq_false h); (try simp only [p_e, sg, hx1] at h); (try simp only [sx, ↓reduceIte, Nat.reduceAdd, reduceCtorEq, Int.reduceLT, Int.reduceLE, Int.reduceSub, Nat.reduceEqDiff, Nat.reduceLT] at h); try exact nz h))
              all_goals (try exact cz)
              refine ⟨[0, 2], [.ptr 0 0 0, .int .i64 v1, .int .i64 v2, .int .i64 (depth + 1)], [(0, pB w2 (.slice 1 0 fs.length 4 none) e2), (1, sB fs)], rfl, ⟨.refl _, .refl _, .refl _, wk_int (wr_id (by omega) (by omega)), trivial⟩, ⟨⟨by decide, _, rfl, .refl _⟩, ⟨by decide, _, rfl, wkB_same (fF _)⟩, trivial⟩, ⟨w2, fs, e2⟩, v1, v2, depth + 1, rfl, .inr ⟨hne, rfl⟩, rfl, ⟨hI2, by omega, by omega, by omega⟩, fun he => ?_, fun he => ?_⟩
              · rw [if_pos he] at hm
                rw [q3] at he ⊢
                repeat' (first | (refine And.intro ?_ ?_) | (intro h; (try first | replace h := of_decide_eq_true h | replace h := of_decide_eq_false h); (try simp only [p_e, sg, hx1] at h); (try simp only [sx, ↓reduceIte, Nat.reduceAdd, reduceCtorEq, Int.reduceLT, Int.reduceLE, Int.reduceSub, Nat.reduceEqDiff, Nat.reduceLT] at h); try exact nz h))
                all_goals (try exact cz)
                refine ⟨⟨[(0, .ptr 0 0 0), (3, .int .i64 depth), (9, .int .i64 at')], [(0, eB w3 e3)], 2⟩, reb_num [0, 1] (by first | rfl | kernel_rfl) ⟨.refl _, .refl _, .refl _, trivial⟩ ⟨⟨by decide, _, rfl, .refl _⟩, trivial⟩, ?_⟩
                repeat' (first | (refine And.intro ?_ ?_) | (intro h; (try first | replace h := of_decide_eq_true h | replace h := of_decide_eq_false h); (try simp only [p_e, sg, hx1] at h); (try simp only [sx, ↓reduceIte, Nat.reduceAdd, reduceCtorEq, Int.reduceLT, Int.reduceLE, Int.reduceSub, Nat.reduceEqDiff, Nat.reduceLT] at h); try exact nz h))
                all_goals (try exact cz)
                refine ⟨⟨[], [(0, eB w3 e3)], 2⟩, reb_num [0, 1] (by first | rfl | kernel_rfl) trivial ⟨⟨by decide, _, rfl, .refl _⟩, trivial⟩, _, rfl, ?_⟩
                rw [← hm, q3] at hE
                exact hE he
              · rw [if_neg (fun h => h he)] at hm
                have hone := one_inv (σ := ⟨ws, fs, e⟩) (g := fun r k => fieldP n r k (depth + 1)) (fun r k σ => fieldP_le n r k (depth + 1) σ) ha (by rw [q1, r1, q2, r2]; exact he)
                rw [q1, r1, q2, r2] at hone
                rw [q3] at he hm hone ⊢
                have he3 : e3 = 0 := he
                subst he3
                obtain ⟨hdec, hinv⟩ := hone
                have hdec : w3.length < ws.length := hdec
                have hI4 : PInv ⟨w3, incK fs3 at', 0⟩ := hinv hI
                have ha3 : at' < fs3.length := Nat.lt_of_lt_of_le ha hfl3
                have hl4 : (incK fs3 at').length = fs3.length := incK_length fs3 at'
                have hI3 : PInv ⟨w3, fs3, 0⟩ := hI3'
                have hk3 := hI3.kids (fs3.getD at' default) (by rw [List.getD_eq_getElem?_getD, List.getElem?_eq_getElem ha3]; exact List.getElem_mem ha3)
                have hk3a : 0 ≤ (fs3.getD at' default).kids := hk3.1
                have hk3b : (fs3.getD at' default).kids + (w3.length : Int) ≤ 5000 := hk3.2
                have hrow : (fs3.map encF).getD (0 + ((at' : Nat) : Int).toNat) [] = encF (fs3.getD at' default) := by rw [Nat.zero_add, Int.toNat_natCast]; exact row_at encF default ha3
                repeat' (first | (refine And.intro ?_ ?_) | (intro h; (try first | replace h := of_decide_eq_true h | replace h := of_decide_eq_false h); (try simp only [p_e, sg, hx1] at h); (try simp only [sx, ↓reduceIte, Nat.reduceAdd, reduceCtorEq, Int.reduceLT, Int.reduceLE, Int.reduceSub, Nat.reduceEqDiff, Nat.reduceLT] at h); try exact nz h))
                all_goals (try exact cz)
                refine ⟨⟨[(0, .ptr 0 0 0), (3, .int .i64 depth), (9, .int .i64 at')], [(0, pB w3 (.slice 2 0 fs3.length 4 none) 0), (2, sB fs3)], 3⟩, reb_num [0, 1, 5] (by first | rfl | kernel_rfl) ⟨.refl _, .refl _, .refl _, trivial⟩ ⟨⟨by decide, _, rfl, .refl _⟩, ⟨by decide, _, rfl, wkB_eq (ren_mapF _ _) (fF _)⟩, trivial⟩, ?_⟩
                repeat' (first | (refine And.intro ?_ ?_) | (intro h; (try first | replace h := of_decide_eq_true h | replace h := of_decide_eq_false h); (try simp only [p_e, sg, hx1] at h); (try simp only [sx, ↓reduceIte, Nat.reduceAdd, reduceCtorEq, Int.reduceLT, Int.reduceLE, Int.reduceSub, Nat.reduceEqDiff, Nat.reduceLT] at h); try exact nz h))
                all_goals (try exact cz)
                all_goals (try (rw [hrow]; first | exact rfl | exact Nat.le_of_ble_eq_true rfl))
                refine ⟨⟨[(0, .ptr 0 0 0), (3, .int .i64 depth), (9, .int .i64 at')], [(0, pB w3 (.slice 2 0 fs3.length 4 none) 0), (2, sB (incK fs3 at'))], 3⟩, reb_num [0, 1, 2] (by first | rfl | kernel_rfl) ⟨.refl _, .refl _, .refl _, trivial⟩ ⟨⟨by decide, _, rfl, .refl _⟩, ⟨by decide, _, rfl, wkB_eq ?_ (fF _)⟩, trivial⟩, ?_⟩
                · rw [hrow]
                  show (fs3.map encF).set (0 + ((at' : Nat) : Int).toNat) [.str (fs3.getD at' default).name, .int .i64 (fs3.getD at' default).rep, .int .i64 (fs3.getD at' default).kind, .int .i64 (wr .i64 ((fs3.getD at' default).kids + 1))] = _
                  rw [wr_id (by omega) (by omega), Nat.zero_add, Int.toNat_natCast, incK_map ha3]
                rw [← hl4]
                have hm4 : (if w3 ≠ [] ∧ w3.headD [] ≠ [125] then moreP (fun r k => fieldP n r k (depth + 1)) at' f ⟨w3, incK fs3 at', 0⟩ else mustP [125] ⟨w3, incK fs3 at', 0⟩) = τ := hm
                have ha4 : at' < (incK fs3 at').length := by rw [hl4]; exact ha3
                generalize incK fs3 at' = fs4 at *
                cases w3 with
                | nil =>
                  rw [if_neg (fun h => h.1 rfl)] at hm4
                  repeat' (first | (refine And.intro ?_ ?_) | (intro h; (try first | replace h := of_decide_eq_true h | replace h := of_decide_eq_false h); (try simp only [p_e, sg, hx1] at h); (try simp only [sx, ↓reduceIte, Nat.reduceAdd, reduceCtorEq, Int.reduceLT, Int.reduceLE, Int.reduceSub, Nat.reduceEqDiff, Nat.reduceLT] at h); try exact nz h))
                  all_goals (try exact cz)
                  all_goals (try exact absurd (show eqb w [125] = false from ‹_›) (by rw [hx1]; decide))
                  refine ⟨[0, 2], [.ptr 0 0 0, .str [125]], [(0, pB [] (.slice 1 0 fs4.length 4 none) 0)], rfl, ⟨.refl _, .refl _, trivial⟩, ⟨⟨by decide, _, rfl, .refl _⟩, trivial⟩, ⟨[], fs4, 0⟩, .slice 1 0 fs4.length 4 none, [125], rfl, rfl, rfl, ⟨svOk_slice _ _ _ _, hI4.len⟩, ?_⟩
                  rw [hm4]
                  have hfs : τ.fs = fs4 := by rw [← hm4, mustP_fs]
                  repeat' (first | (refine And.intro ?_ ?_) | (intro h; (try first | replace h := of_decide_eq_true h | replace h := of_decide_eq_false h); (try simp only [p_e, sg, hx1] at h); (try simp only [sx, ↓reduceIte, Nat.reduceAdd, reduceCtorEq, Int.reduceLT, Int.reduceLE, Int.reduceSub, Nat.reduceEqDiff, Nat.reduceLT] at h); try exact nz h))
                  all_goals (try exact cz)
                  exact fin_field hE hO hfs rfl rfl
                | cons w t =>
                  have hlc : (w :: t).length = t.length + 1 := rfl
                  have hl5 := hI4.len
                  have hl5 : (w :: t).length ≤ 5000 := hl5
                  have hx1 := eqb_eq w [125]
                  by_cases hw : w = [125]
                  · rw [if_neg (fun h => h.2 hw)] at hm4
                    rw [decide_eq_true hw] at hx1
                    repeat' (first | (refine And.intro ?_ ?_) | (intro h; (try first | replace h := of_decide_eq_true h | replace h := of_decide_eq_false h); (try simp only [p_e, sg, hx1] at h); (try simp only [sx, ↓reduceIte, Nat.reduceAdd, reduceCtorEq, Int.reduceLT, Int.reduceLE, Int.reduceSub, Nat.reduceEqDiff, Nat.reduceLT] at h); try exact nz h))
                    all_goals (try exact cz)
                    all_goals (try exact absurd (show eqb w [125] = false from ‹_›) (by rw [hx1]; decide))
                    refine ⟨[0, 2], [.ptr 0 0 0, .str [125]], [(0, pB (w :: t) (.slice 1 0 fs4.length 4 none) 0)], rfl, ⟨.refl _, .refl _, trivial⟩, ⟨⟨by decide, _, rfl, .refl _⟩, trivial⟩, ⟨(w :: t), fs4, 0⟩, .slice 1 0 fs4.length 4 none, [125], rfl, rfl, rfl, ⟨svOk_slice _ _ _ _, hI4.len⟩, ?_⟩
                    rw [hm4]
                    have hfs : τ.fs = fs4 := by rw [← hm4, mustP_fs]
                    repeat' (first | (refine And.intro ?_ ?_) | (intro h; (try first | replace h := of_decide_eq_true h | replace h := of_decide_eq_false h); (try simp only [p_e, sg, hx1] at h); (try simp only [sx, ↓reduceIte, Nat.reduceAdd, reduceCtorEq, Int.reduceLT, Int.reduceLE, Int.reduceSub, Nat.reduceEqDiff, Nat.reduceLT] at h); try exact nz h))
                    all_goals (try exact cz)
                    exact fin_field hE hO hfs rfl rfl
                  · rw [if_pos ⟨by simp, hw⟩] at hm4
                    rw [decide_eq_false hw] at hx1
                    repeat' (first | (refine And.intro ?_ ?_) | (intro h; (try first | replace h := of_decide_eq_true h | replace h := of_decide_eq_false h); (try simp only [p_e, sg, hx1] at h); (try simp only [sx, ↓reduceIte, Nat.reduceAdd, reduceCtorEq, Int.reduceLT, Int.reduceLE, Int.reduceSub, Nat.reduceEqDiff, Nat.reduceLT] at h); try exact nz h))
                    all_goals (try exact cz)
                    all_goals (try exact absurd (show eqb w [125] = true from ‹_›) (by rw [hx1]; decide))
                    exact ⟨_, tfL depth (w :: t) fs4 0 at', reb_num [0, 1, 2] (by first | rfl | kernel_rfl) ⟨.refl _, .refl _, .refl _, trivial⟩ ⟨⟨by decide, _, rfl, .refl _⟩, ⟨by decide, _, rfl, wkB_same (fF _)⟩, trivial⟩, rfl, _, _, _, f, ⟨hI4, ha4, by rw [hlc] at hdec ⊢; omega, rfl, by omega, hm4⟩, rfl⟩
            · rw [if_pos hk] at hτ
              repeat' (first | (refine And.intro ?_ ?_) | (intro h; (try first | replace h := of_decide_eq_true h | replace h := of_decide_eq_false h); (try simp only [p_e, sg, hx1] at h); (try simp only [sx, ↓reduceIte, Nat.reduceAdd, reduceCtorEq, Int.reduceLT, Int.reduceLE, Int.reduceSub, Nat.reduceEqDiff, Nat.reduceLT] at h); try exact nz h))
              all_goals (try exact cz)
              refine ⟨[0, 2], [.ptr 0 0 0, .str [59]], [(0, pB w0 (.slice 1 0 fs.length 4 none) 0)], rfl, ⟨.refl _, .refl _, trivial⟩, ⟨⟨by decide, _, rfl, .refl _⟩, trivial⟩, ⟨w0, fs, 0⟩, .slice 1 0 fs.length 4 none, [59], rfl, rfl, rfl, ⟨svOk_slice _ _ _ _, hIa.len⟩, ?_⟩
              rw [hτ]
              have hfs : τ.fs = fs := by rw [← hτ, mustP_fs]
              repeat' (first | (refine And.intro ?_ ?_) | (intro h; (try first | replace h := of_decide_eq_true h | replace h := of_decide_eq_false h); (try simp only [p_e, sg, hx1] at h); (try simp only [sx, ↓reduceIte, Nat.reduceAdd, reduceCtorEq, Int.reduceLT, Int.reduceLE, Int.reduceSub, Nat.reduceEqDiff, Nat.reduceLT] at h); try exact nz h))
              all_goals (try exact cz)
              exact fin_field hE hO hfs rfl rfl
    · rintro lb rest m s hfl ⟨rfl, ws, fs, at', f0, ⟨hI, ha, hf, rfl, hd8, hm0⟩, rfl⟩
      cases hfl
      have hne : fs ≠ [] := fun h => by rw [h] at ha; exact absurd ha (by simp)
      obtain ⟨w1, e1, q1⟩ : ∃ w1 e1, pickP kwReps (⟨ws, fs, 0⟩ : PS) = ⟨w1, fs, e1⟩ := ⟨_, _, ps_ext rfl (pickP_fs _ _) rfl⟩
      obtain ⟨w2, e2, q2⟩ : ∃ w2 e2, pickP kwKinds (⟨w1, fs, e1⟩ : PS) = ⟨w2, fs, e2⟩ := ⟨_, _, ps_ext rfl (pickP_fs _ _) rfl⟩
      obtain ⟨v1, r1⟩ : ∃ v1, pickV kwReps (⟨ws, fs, 0⟩ : PS) = v1 := ⟨_, rfl⟩
      obtain ⟨v2, r2⟩ : ∃ v2, pickV kwKinds (⟨w1, fs, e1⟩ : PS) = v2 := ⟨_, rfl⟩
      obtain ⟨w3, fs3, e3, q3⟩ : ∃ w3 fs3 e3, fieldP n v1 v2 (depth + 1) (⟨w2, fs, e2⟩ : PS) = ⟨w3, fs3, e3⟩ := ⟨_, _, _, rfl⟩
      have hI1 : PInv ⟨w1, fs, e1⟩ := by rw [← q1]; exact (pickP_le _ _).inv hI
      have hI2 : PInv ⟨w2, fs, e2⟩ := by rw [← q2]; exact (pickP_le _ _).inv hI1
      have hI3' : PInv ⟨w3, fs3, e3⟩ := by rw [← q3]; exact (fieldP_le _ _ _ _ _).inv hI2
      have hfl3 : fs.length ≤ fs3.length := by have := (fieldP_le n v1 v2 (depth + 1) ⟨w2, fs, e2⟩).fl; rw [q3] at this; exact this
      obtain ⟨f, rfl⟩ : ∃ f, f0 = f + 1 := ⟨f0 - 1, by omega⟩
      rw [moreP] at hm0
      simp only at hm0
      rw [q1, r1, q2, r2] at hm0
      have hm := hm0
      repeat' (first | (refine And.intro ?_ ?_) | (intro h; (try first | replace h := of_decide_eq_true h | replace h := of_decide_eq_false h); (try simp only [p_e, sg, hx1] at h); (try simp only [sx, ↓reduceIte, Nat.reduceAdd, reduceCtorEq, Int.reduceLT, Int.reduceLE, Int.reduceSub, Nat.reduceEqDiff, Nat.reduceLT] at h); try exact nz h))
      all_goals (try exact cz)
      refine ⟨[0, 2], [.ptr 0 0 0, vW kwReps], [(0, pB ((⟨ws, fs, 0⟩ : PS)).ws (.slice 1 0 fs.length 4 none) ((⟨ws, fs, 0⟩ : PS)).e)], rfl, ⟨.refl _, .refl _, trivial⟩, ⟨⟨by decide, _, rfl, .refl _⟩, trivial⟩, (⟨ws, fs, 0⟩ : PS), (.slice 1 0 fs.length 4 none), kwReps, rfl, rfl, rfl, ⟨svOk_slice _ _ _ _, hI.len, by decide⟩, ?_⟩
      rw [q1, r1]
      repeat' (first | (refine And.intro ?_ ?_) | (intro h; (try first | replace h := of_decide_eq_true h | replace h := of_decide_eq_false h); (try simp only [p_e, sg, hx1] at h); (try simp only [sx, ↓reduceIte, Nat.reduceAdd, reduceCtorEq, Int.reduceLT, Int.reduceLE, Int.reduceSub, Nat.reduceEqDiff, Nat.reduceLT] at h); try exact nz h))
      all_goals (try exact cz)
      refine ⟨⟨[(0, .ptr 0 0 0), (1, .int .i64 v1), (3, .int .i64 depth), (9, .int .i64 at')], [(0, pB w1 (.slice 2 0 fs.length 4 none) e1), (2, sB fs)], 3⟩, reb_num [0, 1, 2] (by first | rfl | kernel_rfl) ⟨.refl _, .refl _, .refl _, .refl _, trivial⟩ ⟨⟨by decide, _, rfl, .refl _⟩, ⟨by decide, _, rfl, wkB_same (fF _)⟩, trivial⟩, ?_⟩
      repeat' (first | (refine And.intro ?_ ?_) | (intro h; (try first | replace h := of_decide_eq_true h | replace h := of_decide_eq_false h); (try simp only [p_e, sg, hx1] at h); (try simp only [sx, ↓reduceIte, Nat.reduceAdd, reduceCtorEq, Int.reduceLT, Int.reduceLE, Int.reduceSub, Nat.reduceEqDiff, Nat.reduceLT] at h); try exact nz h))
      all_goals (try exact cz)
      refine ⟨[0, 2], [.ptr 0 0 0, vW kwKinds], [(0, pB ((⟨w1, fs, e1⟩ : PS)).ws (.slice 1 0 fs.length 4 none) ((⟨w1, fs, e1⟩ : PS)).e)], rfl, ⟨.refl _, .refl _, trivial⟩, ⟨⟨by decide, _, rfl, .refl _⟩, trivial⟩, (⟨w1, fs, e1⟩ : PS), (.slice 1 0 fs.length 4 none), kwKinds, rfl, rfl, rfl, ⟨svOk_slice _ _ _ _, hI1.len, by decide⟩, ?_⟩
      rw [q2, r2]
      repeat' (first | (refine And.intro ?_ ?_) | (intro h; (try first | replace h := of_decide_eq_true h | replace h := of_decide_eq_false h); (try simp only [p_e, sg, hx1] at h); (try simp only [sx, ↓reduceIte, Nat.reduceAdd, reduceCtorEq, Int.reduceLT, Int.reduceLE, Int.reduceSub, Nat.reduceEqDiff, Nat.reduceLT] at h); try exact nz h))
      all_goals (try exact cz)
      refine ⟨⟨[(0, .ptr 0 0 0), (1, .int .i64 v1), (2, .int .i64 v2), (3, .int .i64 depth), (9, .int .i64 at')], [(0, pB w2 (.slice 2 0 fs.length 4 none) e2), (2, sB fs)], 3⟩, reb_num [0, 1, 2] (by first | rfl | kernel_rfl) ⟨.refl _, .refl _, .refl _, .refl _, .refl _, trivial⟩ ⟨⟨by decide, _, rfl, .refl _⟩, ⟨by decide, _, rfl, wkB_same (fF _)⟩, trivial⟩, ?_⟩
      repeat' (first | (refine And.intro ?_ ?_) | (intro h; (try first | replace h := of_decide_eq_true h | replace h := of_decide_eq_false h); (try simp only [p_e, sg, hx1] at h); (try simp only [sx, ↓reduceIte, Nat.reduceAdd, reduceCtorEq, Int.reduceLT, Int.reduceLE, Int.reduceSub, Nat.reduceEqDiff, Nat.reduceLT] at h); try exact nz h))
      all_goals (try exact cz)
      refine ⟨[0, 2], [.ptr 0 0 0, .int .i64 v1, .int .i64 v2, .int .i64 (depth + 1)], [(0, pB w2 (.slice 1 0 fs.length 4 none) e2), (1, sB fs)], rfl, ⟨.refl _, .refl _, .refl _, wk_int (wr_id (by omega) (by omega)), trivial⟩, ⟨⟨by decide, _, rfl, .refl _⟩, ⟨by decide, _, rfl, wkB_same (fF _)⟩, trivial⟩, ⟨w2, fs, e2⟩, v1, v2, depth + 1, rfl, .inr ⟨hne, rfl⟩, rfl, ⟨hI2, by omega, by omega, by omega⟩, fun he => ?_, fun he => ?_⟩
      · rw [if_pos he] at hm
        rw [q3] at he ⊢
        repeat' (first | (refine And.intro ?_ ?_) | (intro h; (try first | replace h := of_decide_eq_true h | replace h := of_decide_eq_false h); (try simp only [p_e, sg, hx1] at h); (try simp only [sx, ↓reduceIte, Nat.reduceAdd, reduceCtorEq, Int.reduceLT, Int.reduceLE, Int.reduceSub, Nat.reduceEqDiff, Nat.reduceLT] at h); try exact nz h))
        all_goals (try exact cz)
        refine ⟨⟨[(0, .ptr 0 0 0), (3, .int .i64 depth), (9, .int .i64 at')], [(0, eB w3 e3)], 2⟩, reb_num [0, 1] (by first | rfl | kernel_rfl) ⟨.refl _, .refl _, .refl _, trivial⟩ ⟨⟨by decide, _, rfl, .refl _⟩, trivial⟩, ?_⟩
        repeat' (first | (refine And.intro ?_ ?_) | (intro h; (try first | replace h := of_decide_eq_true h | replace h := of_decide_eq_false h); (try simp only [p_e, sg, hx1] at h); (try simp only [sx, ↓reduceIte, Nat.reduceAdd, reduceCtorEq, Int.reduceLT, Int.reduceLE, Int.reduceSub, Nat.reduceEqDiff, Nat.reduceLT] at h); try exact nz h))
        all_goals (try exact cz)
        refine ⟨⟨[], [(0, eB w3 e3)], 2⟩, reb_num [0, 1] (by first | rfl | kernel_rfl) trivial ⟨⟨by decide, _, rfl, .refl _⟩, trivial⟩, _, rfl, ?_⟩
        rw [← hm, q3] at hE
        exact hE he
      · rw [if_neg (fun h => h he)] at hm
        have hone := one_inv (σ := ⟨ws, fs, 0⟩) (g := fun r k => fieldP n r k (depth + 1)) (fun r k σ => fieldP_le n r k (depth + 1) σ) ha (by rw [q1, r1, q2, r2]; exact he)
        rw [q1, r1, q2, r2] at hone
        rw [q3] at he hm hone ⊢
        have he3 : e3 = 0 := he
        subst he3
        obtain ⟨hdec, hinv⟩ := hone
        have hdec : w3.length < ws.length := hdec
        have hI4 : PInv ⟨w3, incK fs3 at', 0⟩ := hinv hI
        have ha3 : at' < fs3.length := Nat.lt_of_lt_of_le ha hfl3
        have hl4 : (incK fs3 at').length = fs3.length := incK_length fs3 at'
        have hI3 : PInv ⟨w3, fs3, 0⟩ := hI3'
        have hk3 := hI3.kids (fs3.getD at' default) (by rw [List.getD_eq_getElem?_getD, List.getElem?_eq_getElem ha3]; exact List.getElem_mem ha3)
        have hk3a : 0 ≤ (fs3.getD at' default).kids := hk3.1
        have hk3b : (fs3.getD at' default).kids + (w3.length : Int) ≤ 5000 := hk3.2
        have hrow : (fs3.map encF).getD (0 + ((at' : Nat) : Int).toNat) [] = encF (fs3.getD at' default) := by rw [Nat.zero_add, Int.toNat_natCast]; exact row_at encF default ha3
        repeat' (first | (refine And.intro ?_ ?_) | (intro h; (try first | replace h := of_decide_eq_true h | replace h := of_decide_eq_false h); (try simp only [p_e, sg, hx1] at h); (try simp only [sx, ↓reduceIte, Nat.reduceAdd, reduceCtorEq, Int.reduceLT, Int.reduceLE, Int.reduceSub, Nat.reduceEqDiff, Nat.reduceLT] at h); try exact nz h))
        all_goals (try exact cz)
        refine ⟨⟨[(0, .ptr 0 0 0), (3, .int .i64 depth), (9, .int .i64 at')], [(0, pB w3 (.slice 2 0 fs3.length 4 none) 0), (2, sB fs3)], 3⟩, reb_num [0, 1, 5] (by first | rfl | kernel_rfl) ⟨.refl _, .refl _, .refl _, trivial⟩ ⟨⟨by decide, _, rfl, .refl _⟩, ⟨by decide, _, rfl, wkB_eq (ren_mapF _ _) (fF _)⟩, trivial⟩, ?_⟩
        repeat' (first | (refine And.intro ?_ ?_) | (intro h; (try first | replace h := of_decide_eq_true h | replace h := of_decide_eq_false h); (try simp only [p_e, sg, hx1] at h); (try simp only [sx, ↓reduceIte, Nat.reduceAdd, reduceCtorEq, Int.reduceLT, Int.reduceLE, Int.reduceSub, Nat.reduceEqDiff, Nat.reduceLT] at h); try exact nz h))
        all_goals (try exact cz)
        all_goals (try (rw [hrow]; first | exact rfl | exact Nat.le_of_ble_eq_true rfl))
        refine ⟨⟨[(0, .ptr 0 0 0), (3, .int .i64 depth), (9, .int .i64 at')], [(0, pB w3 (.slice 2 0 fs3.length 4 none) 0), (2, sB (incK fs3 at'))], 3⟩, reb_num [0, 1, 2] (by first | rfl | kernel_rfl) ⟨.refl _, .refl _, .refl _, trivial⟩ ⟨⟨by decide, _, rfl, .refl _⟩, ⟨by decide, _, rfl, wkB_eq ?_ (fF _)⟩, trivial⟩, ?_⟩
        · rw [hrow]
          show (fs3.map encF).set (0 + ((at' : Nat) : Int).toNat) [.str (fs3.getD at' default).name, .int .i64 (fs3.getD at' default).rep, .int .i64 (fs3.getD at' default).kind, .int .i64 (wr .i64 ((fs3.getD at' default).kids + 1))] = _
          rw [wr_id (by omega) (by omega), Nat.zero_add, Int.toNat_natCast, incK_map ha3]
        rw [← hl4]
        have hm4 : (if w3 ≠ [] ∧ w3.headD [] ≠ [125] then moreP (fun r k => fieldP n r k (depth + 1)) at' f ⟨w3, incK fs3 at', 0⟩ else mustP [125] ⟨w3, incK fs3 at', 0⟩) = τ := hm
        have ha4 : at' < (incK fs3 at').length := by rw [hl4]; exact ha3
        generalize incK fs3 at' = fs4 at *
        cases w3 with
        | nil =>
          rw [if_neg (fun h => h.1 rfl)] at hm4
          repeat' (first | (refine And.intro ?_ ?_) | (intro h; (try first | replace h := of_decide_eq_true h | replace h := of_decide_eq_false h); (try simp only [p_e, sg, hx1] at h); (try simp only [sx, ↓reduceIte, Nat.reduceAdd, reduceCtorEq, Int.reduceLT, Int.reduceLE, Int.reduceSub, Nat.reduceEqDiff, Nat.reduceLT] at h); try exact nz h))
          all_goals (try exact cz)
          all_goals (try exact absurd (show eqb w [125] = false from ‹_›) (by rw [hx1]; decide))
          refine ⟨[0, 2], [.ptr 0 0 0, .str [125]], [(0, pB [] (.slice 1 0 fs4.length 4 none) 0)], rfl, ⟨.refl _, .refl _, trivial⟩, ⟨⟨by decide, _, rfl, .refl _⟩, trivial⟩, ⟨[], fs4, 0⟩, .slice 1 0 fs4.length 4 none, [125], rfl, rfl, rfl, ⟨svOk_slice _ _ _ _, hI4.len⟩, ?_⟩
          rw [hm4]
          have hfs : τ.fs = fs4 := by rw [← hm4, mustP_fs]
          repeat' (first | (refine And.intro ?_ ?_) | (intro h; (try first | replace h := of_decide_eq_true h | replace h := of_decide_eq_false h); (try simp only [p_e, sg, hx1] at h); (try simp only [sx, ↓reduceIte, Nat.reduceAdd, reduceCtorEq, Int.reduceLT, Int.reduceLE, Int.reduceSub, Nat.reduceEqDiff, Nat.reduceLT] at h); try exact nz h))
          all_goals (try exact cz)
          exact fin_field hE hO hfs rfl rfl
        | cons w t =>
          have hlc : (w :: t).length = t.length + 1 := rfl
          have hl5 := hI4.len
          have hl5 : (w :: t).length ≤ 5000 := hl5
          have hx1 := eqb_eq w [125]
          by_cases hw : w = [125]
          · rw [if_neg (fun h => h.2 hw)] at hm4
            rw [decide_eq_true hw] at hx1
            repeat' (first | (refine And.intro ?_ ?_) | (intro h; (try first | replace h := of_decide_eq_true h | replace h := of_decide_eq_false h); (try simp only [p_e, sg, hx1] at h); (try simp only [sx, ↓reduceIte, Nat.reduceAdd, reduceCtorEq, Int.reduceLT, Int.reduceLE, Int.reduceSub, Nat.reduceEqDiff, Nat.reduceLT] at h); try exact nz h))
            all_goals (try exact cz)
            all_goals (try exact absurd (show eqb w [125] = false from ‹_›) (by rw [hx1]; decide))
            refine ⟨[0, 2], [.ptr 0 0 0, .str [125]], [(0, pB (w :: t) (.slice 1 0 fs4.length 4 none) 0)], rfl, ⟨.refl _, .refl _, trivial⟩, ⟨⟨by decide, _, rfl, .refl _⟩, trivial⟩, ⟨(w :: t), fs4, 0⟩, .slice 1 0 fs4.length 4 none, [125], rfl, rfl, rfl, ⟨svOk_slice _ _ _ _, hI4.len⟩, ?_⟩
            rw [hm4]
            have hfs : τ.fs = fs4 := by rw [← hm4, mustP_fs]
            repeat' (first | (refine And.intro ?_ ?_) | (intro h; (try first | replace h := of_decide_eq_true h | replace h := of_decide_eq_false h); (try simp only [p_e, sg, hx1] at h); (try simp only [sx, ↓reduceIte, Nat.reduceAdd, reduceCtorEq, Int.reduceLT, Int.reduceLE, Int.reduceSub, Nat.reduceEqDiff, Nat.reduceLT] at h); try exact nz h))
            all_goals (try exact cz)
            exact fin_field hE hO hfs rfl rfl
          · rw [if_pos ⟨by simp, hw⟩] at hm4
            rw [decide_eq_false hw] at hx1
            repeat' (first | (refine And.intro ?_ ?_) | (intro h; (try first | replace h := of_decide_eq_true h | replace h := of_decide_eq_false h); (try simp only [p_e, sg, hx1] at h); (try simp only [sx, ↓reduceIte, Nat.reduceAdd, reduceCtorEq, Int.reduceLT, Int.reduceLE, Int.reduceSub, Nat.reduceEqDiff, Nat.reduceLT] at h); try exact nz h))
            all_goals (try exact cz)
            all_goals (try exact absurd (show eqb w [125] = true from ‹_›) (by rw [hx1]; decide))
            exact ⟨_, tfL depth (w :: t) fs4 0 at', reb_num [0, 1, 2] (by first | rfl | kernel_rfl) ⟨.refl _, .refl _, .refl _, trivial⟩ ⟨⟨by decide, _, rfl, .refl _⟩, ⟨by decide, _, rfl, wkB_same (fF _)⟩, trivial⟩, ⟨rfl, _, _, _, f, ⟨hI4, ha4, by rw [hlc] at hdec ⊢; omega, rfl, by omega, hm4⟩, rfl⟩, hdec⟩
  · -- some fields
    have hI : PInv (⟨ws, gs, e⟩ : PS) := hI
    have hwl := nextW_mem hI
    have hlen : ws.length ≤ 5000 := hI.len
    have hx1 : True = True := rfl
    have hfl40 : gs.length ≤ 40 := hI.fl
    refine .inr ⟨fun lb m s => lb = 0 ∧ ∃ (ws : List Wd) (fs : List Fd) (at' f : Nat), (PInv ⟨ws, fs, 0⟩ ∧ at' < fs.length ∧ ws.length < f ∧ m = ws.length ∧ depth ≤ 8 ∧ moreP (fun r k => fieldP n r k (depth + 1)) at' f ⟨ws, fs, 0⟩ = τ) ∧ s = tfL depth ws fs 0 at', ?_, ?_⟩
    · cases hnm : nameT (nextW (⟨ws, gs, e⟩ : PS))
      · by_cases h40 : 40 ≤ (gs : List Fd).length
        · by_cases h8 : 8 < depth
          · skip
            have hch : headP depth (⟨ws, gs, e⟩ : PS) = failP (failP (failP (nextP (⟨ws, gs, e⟩ : PS)) 6) 4) 11 := by
              unfold headP
              simp only [hnm, reduceCtorEq, failP_fs, nextP_fs, h40, h8, if_true, if_false]
            have hce : (failP (failP (failP (nextP (⟨ws, gs, e⟩ : PS)) 6) 4) 11).e ≠ 0 := failP_e (by decide)
            rw [if_pos (by rw [hch]; exact hce), hch] at hτ
            rw [← hτ] at hE
            refine ⟨[0, 1], [.ptr 0 0 0], [(0, pB ((⟨ws, gs, e⟩ : PS)).ws (.slice 1 0 gs.length 4 none) ((⟨ws, gs, e⟩ : PS)).e)], rfl, ⟨.refl _, trivial⟩, ⟨⟨by decide, _, rfl, .refl _⟩, trivial⟩, (⟨ws, gs, e⟩ : PS), (.slice 1 0 gs.length 4 none), rfl, rfl, rfl, ⟨svOk_slice _ _ _ _, hI.len⟩, ?_⟩
            repeat' (first | (refine And.intro ?_ ?_) | (intro h; (try first | replace h := of_decide_eq_true h | replace h := of_decide_eq_false h); (try simp only [p_e, sg, hx1] at h); (try simp only [sx, ↓reduceIte, Nat.reduceAdd, reduceCtorEq, Int.reduceLT, Int.reduceLE, Int.reduceSub, Nat.reduceEqDiff, Nat.reduceLT] at h); try exact nz h))
            all_goals (try exact cz)
            refine ⟨nextW (⟨ws, gs, e⟩ : PS), rfl, hwl, ?_⟩
            rw [hnm]
            repeat' (first | (refine And.intro ?_ ?_) | (intro h; (try first | replace h := of_decide_eq_true h | replace h := of_decide_eq_false h); (try simp only [p_e, sg, hx1] at h); (try simp only [sx, ↓reduceIte, Nat.reduceAdd, reduceCtorEq, Int.reduceLT, Int.reduceLE, Int.reduceSub, Nat.reduceEqDiff, Nat.reduceLT] at h); try exact nz h))
            all_goals (try exact cz)
            refine ⟨[0, 1], [.ptr 0 0 0, .int .i64 6], [(0, pB (nextP (⟨ws, gs, e⟩ : PS)).ws (.slice 1 0 gs.length 4 none) (nextP (⟨ws, gs, e⟩ : PS)).e)], rfl, ⟨.refl _, .refl _, trivial⟩, ⟨⟨by decide, _, rfl, .refl _⟩, trivial⟩, nextP (⟨ws, gs, e⟩ : PS), (.slice 1 0 gs.length 4 none), 6, rfl, rfl, rfl, svOk_slice _ _ _ _, ?_⟩
            repeat' (first | (refine And.intro ?_ ?_) | (intro h; (try first | replace h := of_decide_eq_true h | replace h := of_decide_eq_false h); (try simp only [p_e, sg, hx1] at h); (try simp only [sx, ↓reduceIte, Nat.reduceAdd, reduceCtorEq, Int.reduceLT, Int.reduceLE, Int.reduceSub, Nat.reduceEqDiff, Nat.reduceLT] at h); try exact nz h))
            all_goals (try exact cz)
            refine ⟨[0, 1], [.ptr 0 0 0, .int .i64 4], [(0, pB (failP (nextP (⟨ws, gs, e⟩ : PS)) 6).ws (.slice 1 0 gs.length 4 none) (failP (nextP (⟨ws, gs, e⟩ : PS)) 6).e)], rfl, ⟨.refl _, .refl _, trivial⟩, ⟨⟨by decide, _, rfl, .refl _⟩, trivial⟩, failP (nextP (⟨ws, gs, e⟩ : PS)) 6, (.slice 1 0 gs.length 4 none), 4, rfl, rfl, rfl, svOk_slice _ _ _ _, ?_⟩
            repeat' (first | (refine And.intro ?_ ?_) | (intro h; (try first | replace h := of_decide_eq_true h | replace h := of_decide_eq_false h); (try simp only [p_e, sg, hx1] at h); (try simp only [sx, ↓reduceIte, Nat.reduceAdd, reduceCtorEq, Int.reduceLT, Int.reduceLE, Int.reduceSub, Nat.reduceEqDiff, Nat.reduceLT] at h); try exact nz h))
            all_goals (try exact cz)
            refine ⟨[0, 1], [.ptr 0 0 0, .int .i64 11], [(0, pB (failP (failP (nextP (⟨ws, gs, e⟩ : PS)) 6) 4).ws (.slice 1 0 gs.length 4 none) (failP (failP (nextP (⟨ws, gs, e⟩ : PS)) 6) 4).e)], rfl, ⟨.refl _, .refl _, trivial⟩, ⟨⟨by decide, _, rfl, .refl _⟩, trivial⟩, failP (failP (nextP (⟨ws, gs, e⟩ : PS)) 6) 4, (.slice 1 0 gs.length 4 none), 11, rfl, rfl, rfl, svOk_slice _ _ _ _, ?_⟩
            repeat' (first | (refine And.intro ?_ ?_) | (intro h; (try first | replace h := of_decide_eq_true h | replace h := of_decide_eq_false h); (try simp only [p_e, sg, hx1] at h); (try simp only [sx, ↓reduceIte, Nat.reduceAdd, reduceCtorEq, Int.reduceLT, Int.reduceLE, Int.reduceSub, Nat.reduceEqDiff, Nat.reduceLT] at h); try exact nz h))
            all_goals (try exact cz)
            exact ⟨⟨[], [(0, eB (failP (failP (failP (nextP (⟨ws, gs, e⟩ : PS)) 6) 4) 11).ws (failP (failP (failP (nextP (⟨ws, gs, e⟩ : PS)) 6) 4) 11).e)], 2⟩, reb_num [0, 1] (by first | rfl | kernel_rfl) trivial ⟨⟨by decide, _, rfl, wkE rfl⟩, trivial⟩, _, rfl, hE hce⟩
          · skip
            have hch : headP depth (⟨ws, gs, e⟩ : PS) = failP (failP (nextP (⟨ws, gs, e⟩ : PS)) 6) 4 := by
              unfold headP
              simp only [hnm, reduceCtorEq, failP_fs, nextP_fs, h40, h8, if_true, if_false]
            have hce : (failP (failP (nextP (⟨ws, gs, e⟩ : PS)) 6) 4).e ≠ 0 := failP_e (by decide)
            rw [if_pos (by rw [hch]; exact hce), hch] at hτ
            rw [← hτ] at hE
            refine ⟨[0, 1], [.ptr 0 0 0], [(0, pB ((⟨ws, gs, e⟩ : PS)).ws (.slice 1 0 gs.length 4 none) ((⟨ws, gs, e⟩ : PS)).e)], rfl, ⟨.refl _, trivial⟩, ⟨⟨by decide, _, rfl, .refl _⟩, trivial⟩, (⟨ws, gs, e⟩ : PS), (.slice 1 0 gs.length 4 none), rfl, rfl, rfl, ⟨svOk_slice _ _ _ _, hI.len⟩, ?_⟩
            repeat' (first | (refine And.intro ?_ ?_) | (intro h; (try first | replace h := of_decide_eq_true h | replace h := of_decide_eq_false h); (try simp only [p_e, sg, hx1] at h); (try simp only [sx, ↓reduceIte, Nat.reduceAdd, reduceCtorEq, Int.reduceLT, Int.reduceLE, Int.reduceSub, Nat.reduceEqDiff, Nat.reduceLT] at h); try exact nz h))
            all_goals (try exact cz)
            refine ⟨nextW (⟨ws, gs, e⟩ : PS), rfl, hwl, ?_⟩
            rw [hnm]
            repeat' (first | (refine And.intro ?_ ?_) | (intro h; (try first | replace h := of_decide_eq_true h | replace h := of_decide_eq_false h); (try simp only [p_e, sg, hx1] at h); (try simp only [sx, ↓reduceIte, Nat.reduceAdd, reduceCtorEq, Int.reduceLT, Int.reduceLE, Int.reduceSub, Nat.reduceEqDiff, Nat.reduceLT] at h); try exact nz h))
            all_goals (try exact cz)
            refine ⟨[0, 1], [.ptr 0 0 0, .int .i64 6], [(0, pB (nextP (⟨ws, gs, e⟩ : PS)).ws (.slice 1 0 gs.length 4 none) (nextP (⟨ws, gs, e⟩ : PS)).e)], rfl, ⟨.refl _, .refl _, trivial⟩, ⟨⟨by decide, _, rfl, .refl _⟩, trivial⟩, nextP (⟨ws, gs, e⟩ : PS), (.slice 1 0 gs.length 4 none), 6, rfl, rfl, rfl, svOk_slice _ _ _ _, ?_⟩
            repeat' (first | (refine And.intro ?_ ?_) | (intro h; (try first | replace h := of_decide_eq_true h | replace h := of_decide_eq_false h); (try simp only [p_e, sg, hx1] at h); (try simp only [sx, ↓reduceIte, Nat.reduceAdd, reduceCtorEq, Int.reduceLT, Int.reduceLE, Int.reduceSub, Nat.reduceEqDiff, Nat.reduceLT] at h); try exact nz h))
            all_goals (try exact cz)
            refine ⟨[0, 1], [.ptr 0 0 0, .int .i64 4], [(0, pB (failP (nextP (⟨ws, gs, e⟩ : PS)) 6).ws (.slice 1 0 gs.length 4 none) (failP (nextP (⟨ws, gs, e⟩ : PS)) 6).e)], rfl, ⟨.refl _, .refl _, trivial⟩, ⟨⟨by decide, _, rfl, .refl _⟩, trivial⟩, failP (nextP (⟨ws, gs, e⟩ : PS)) 6, (.slice 1 0 gs.length 4 none), 4, rfl, rfl, rfl, svOk_slice _ _ _ _, ?_⟩
            repeat' (first | (refine And.intro ?_ ?_) | (intro h; (try first | replace h := of_decide_eq_true h | replace h := of_decide_eq_false h); (try simp only [p_e, sg, hx1] at h); (try simp only [sx, ↓reduceIte, Nat.reduceAdd, reduceCtorEq, Int.reduceLT, Int.reduceLE, Int.reduceSub, Nat.reduceEqDiff, Nat.reduceLT] at h); try exact nz h))
            all_goals (try exact cz)
            exact ⟨⟨[], [(0, eB (failP (failP (nextP (⟨ws, gs, e⟩ : PS)) 6) 4).ws (failP (failP (nextP (⟨ws, gs, e⟩ : PS)) 6) 4).e)], 2⟩, reb_num [0, 1] (by first | rfl | kernel_rfl) trivial ⟨⟨by decide, _, rfl, wkE rfl⟩, trivial⟩, _, rfl, hE hce⟩
        · by_cases h8 : 8 < depth
          · skip
            have hch : headP depth (⟨ws, gs, e⟩ : PS) = failP (failP (nextP (⟨ws, gs, e⟩ : PS)) 6) 11 := by
              unfold headP
              simp only [hnm, reduceCtorEq, failP_fs, nextP_fs, h40, h8, if_true, if_false]
            have hce : (failP (failP (nextP (⟨ws, gs, e⟩ : PS)) 6) 11).e ≠ 0 := failP_e (by decide)
            rw [if_pos (by rw [hch]; exact hce), hch] at hτ
            rw [← hτ] at hE
            refine ⟨[0, 1], [.ptr 0 0 0], [(0, pB ((⟨ws, gs, e⟩ : PS)).ws (.slice 1 0 gs.length 4 none) ((⟨ws, gs, e⟩ : PS)).e)], rfl, ⟨.refl _, trivial⟩, ⟨⟨by decide, _, rfl, .refl _⟩, trivial⟩, (⟨ws, gs, e⟩ : PS), (.slice 1 0 gs.length 4 none), rfl, rfl, rfl, ⟨svOk_slice _ _ _ _, hI.len⟩, ?_⟩
            repeat' (first | (refine And.intro ?_ ?_) | (intro h; (try first | replace h := of_decide_eq_true h | replace h := of_decide_eq_false h); (try simp only [p_e, sg, hx1] at h); (try simp only [sx, ↓reduceIte, Nat.reduceAdd, reduceCtorEq, Int.reduceLT, Int.reduceLE, Int.reduceSub, Nat.reduceEqDiff, Nat.reduceLT] at h); try exact nz h))
            all_goals (try exact cz)
            refine ⟨nextW (⟨ws, gs, e⟩ : PS), rfl, hwl, ?_⟩
            rw [hnm]
            repeat' (first | (refine And.intro ?_ ?_) | (intro h; (try first | replace h := of_decide_eq_true h | replace h := of_decide_eq_false h); (try simp only [p_e, sg, hx1] at h); (try simp only [sx, ↓reduceIte, Nat.reduceAdd, reduceCtorEq, Int.reduceLT, Int.reduceLE, Int.reduceSub, Nat.reduceEqDiff, Nat.reduceLT] at h); try exact nz h))
            all_goals (try exact cz)
            refine ⟨[0, 1], [.ptr 0 0 0, .int .i64 6], [(0, pB (nextP (⟨ws, gs, e⟩ : PS)).ws (.slice 1 0 gs.length 4 none) (nextP (⟨ws, gs, e⟩ : PS)).e)], rfl, ⟨.refl _, .refl _, trivial⟩, ⟨⟨by decide, _, rfl, .refl _⟩, trivial⟩, nextP (⟨ws, gs, e⟩ : PS), (.slice 1 0 gs.length 4 none), 6, rfl, rfl, rfl, svOk_slice _ _ _ _, ?_⟩
            repeat' (first | (refine And.intro ?_ ?_) | (intro h; (try first | replace h := of_decide_eq_true h | replace h := of_decide_eq_false h); (try simp only [p_e, sg, hx1] at h); (try simp only [sx, ↓reduceIte, Nat.reduceAdd, reduceCtorEq, Int.reduceLT, Int.reduceLE, Int.reduceSub, Nat.reduceEqDiff, Nat.reduceLT] at h); try exact nz h))
            all_goals (try exact cz)
            refine ⟨[0, 1], [.ptr 0 0 0, .int .i64 11], [(0, pB (failP (nextP (⟨ws, gs, e⟩ : PS)) 6).ws (.slice 1 0 gs.length 4 none) (failP (nextP (⟨ws, gs, e⟩ : PS)) 6).e)], rfl, ⟨.refl _, .refl _, trivial⟩, ⟨⟨by decide, _, rfl, .refl _⟩, trivial⟩, failP (nextP (⟨ws, gs, e⟩ : PS)) 6, (.slice 1 0 gs.length 4 none), 11, rfl, rfl, rfl, svOk_slice _ _ _ _, ?_⟩
            repeat' (first | (refine And.intro ?_ ?_) | (intro h; (try first | replace h := of_decide_eq_true h | replace h := of_decide_eq_false h); (try simp only [p_e, sg, hx1] at h); (try simp only [sx, ↓reduceIte, Nat.reduceAdd, reduceCtorEq, Int.reduceLT, Int.reduceLE, Int.reduceSub, Nat.reduceEqDiff, Nat.reduceLT] at h); try exact nz h))
            all_goals (try exact cz)
            exact ⟨⟨[], [(0, eB (failP (failP (nextP (⟨ws, gs, e⟩ : PS)) 6) 11).ws (failP (failP (nextP (⟨ws, gs, e⟩ : PS)) 6) 11).e)], 2⟩, reb_num [0, 1] (by first | rfl | kernel_rfl) trivial ⟨⟨by decide, _, rfl, wkE rfl⟩, trivial⟩, _, rfl, hE hce⟩
          · skip
            have hch : headP depth (⟨ws, gs, e⟩ : PS) = failP (nextP (⟨ws, gs, e⟩ : PS)) 6 := by
              unfold headP
              simp only [hnm, reduceCtorEq, failP_fs, nextP_fs, h40, h8, if_true, if_false]
            have hce : (failP (nextP (⟨ws, gs, e⟩ : PS)) 6).e ≠ 0 := failP_e (by decide)
            rw [if_pos (by rw [hch]; exact hce), hch] at hτ
            rw [← hτ] at hE
            refine ⟨[0, 1], [.ptr 0 0 0], [(0, pB ((⟨ws, gs, e⟩ : PS)).ws (.slice 1 0 gs.length 4 none) ((⟨ws, gs, e⟩ : PS)).e)], rfl, ⟨.refl _, trivial⟩, ⟨⟨by decide, _, rfl, .refl _⟩, trivial⟩, (⟨ws, gs, e⟩ : PS), (.slice 1 0 gs.length 4 none), rfl, rfl, rfl, ⟨svOk_slice _ _ _ _, hI.len⟩, ?_⟩
            repeat' (first | (refine And.intro ?_ ?_) | (intro h; (try first | replace h := of_decide_eq_true h | replace h := of_decide_eq_false h); (try simp only [p_e, sg, hx1] at h); (try simp only [sx, ↓reduceIte, Nat.reduceAdd, reduceCtorEq, Int.reduceLT, Int.reduceLE, Int.reduceSub, Nat.reduceEqDiff, Nat.reduceLT] at h); try exact nz h))
            all_goals (try exact cz)
            refine ⟨nextW (⟨ws, gs, e⟩ : PS), rfl, hwl, ?_⟩
            rw [hnm]
            repeat' (first | (refine And.intro ?_ ?_) | (intro h; (try first | replace h := of_decide_eq_true h | replace h := of_decide_eq_false h); (try simp only [p_e, sg, hx1] at h); (try simp only [sx, ↓reduceIte, Nat.reduceAdd, reduceCtorEq, Int.reduceLT, Int.reduceLE, Int.reduceSub, Nat.reduceEqDiff, Nat.reduceLT] at h); try exact nz h))
            all_goals (try exact cz)
            refine ⟨[0, 1], [.ptr 0 0 0, .int .i64 6], [(0, pB (nextP (⟨ws, gs, e⟩ : PS)).ws (.slice 1 0 gs.length 4 none) (nextP (⟨ws, gs, e⟩ : PS)).e)], rfl, ⟨.refl _, .refl _, trivial⟩, ⟨⟨by decide, _, rfl, .refl _⟩, trivial⟩, nextP (⟨ws, gs, e⟩ : PS), (.slice 1 0 gs.length 4 none), 6, rfl, rfl, rfl, svOk_slice _ _ _ _, ?_⟩
            repeat' (first | (refine And.intro ?_ ?_) | (intro h; (try first | replace h := of_decide_eq_true h | replace h := of_decide_eq_false h); (try simp only [p_e, sg, hx1] at h); (try simp only [sx, ↓reduceIte, Nat.reduceAdd, reduceCtorEq, Int.reduceLT, Int.reduceLE, Int.reduceSub, Nat.reduceEqDiff, Nat.reduceLT] at h); try exact nz h))
            all_goals (try exact cz)
            exact ⟨⟨[], [(0, eB (failP (nextP (⟨ws, gs, e⟩ : PS)) 6).ws (failP (nextP (⟨ws, gs, e⟩ : PS)) 6).e)], 2⟩, reb_num [0, 1] (by first | rfl | kernel_rfl) trivial ⟨⟨by decide, _, rfl, wkE rfl⟩, trivial⟩, _, rfl, hE hce⟩
      · by_cases h40 : 40 ≤ (gs : List Fd).length
        · by_cases h8 : 8 < depth
          · skip
            have hch : headP depth (⟨ws, gs, e⟩ : PS) = failP (failP (nextP (⟨ws, gs, e⟩ : PS)) 4) 11 := by
              unfold headP
              simp only [hnm, reduceCtorEq, failP_fs, nextP_fs, h40, h8, if_true, if_false]
            have hce : (failP (failP (nextP (⟨ws, gs, e⟩ : PS)) 4) 11).e ≠ 0 := failP_e (by decide)
            rw [if_pos (by rw [hch]; exact hce), hch] at hτ
            rw [← hτ] at hE
            refine ⟨[0, 1], [.ptr 0 0 0], [(0, pB ((⟨ws, gs, e⟩ : PS)).ws (.slice 1 0 gs.length 4 none) ((⟨ws, gs, e⟩ : PS)).e)], rfl, ⟨.refl _, trivial⟩, ⟨⟨by decide, _, rfl, .refl _⟩, trivial⟩, (⟨ws, gs, e⟩ : PS), (.slice 1 0 gs.length 4 none), rfl, rfl, rfl, ⟨svOk_slice _ _ _ _, hI.len⟩, ?_⟩
            repeat' (first | (refine And.intro ?_ ?_) | (intro h; (try first | replace h := of_decide_eq_true h | replace h := of_decide_eq_false h); (try simp only [p_e, sg, hx1] at h); (try simp only [sx, ↓reduceIte, Nat.reduceAdd, reduceCtorEq, Int.reduceLT, Int.reduceLE, Int.reduceSub, Nat.reduceEqDiff, Nat.reduceLT] at h); try exact nz h))
            all_goals (try exact cz)
            refine ⟨nextW (⟨ws, gs, e⟩ : PS), rfl, hwl, ?_⟩
            rw [hnm]
            repeat' (first | (refine And.intro ?_ ?_) | (intro h; (try first | replace h := of_decide_eq_true h | replace h := of_decide_eq_false h); (try simp only [p_e, sg, hx1] at h); (try simp only [sx, ↓reduceIte, Nat.reduceAdd, reduceCtorEq, Int.reduceLT, Int.reduceLE, Int.reduceSub, Nat.reduceEqDiff, Nat.reduceLT] at h); try exact nz h))
            all_goals (try exact cz)
            refine ⟨[0, 1], [.ptr 0 0 0, .int .i64 4], [(0, pB (nextP (⟨ws, gs, e⟩ : PS)).ws (.slice 1 0 gs.length 4 none) (nextP (⟨ws, gs, e⟩ : PS)).e)], rfl, ⟨.refl _, .refl _, trivial⟩, ⟨⟨by decide, _, rfl, .refl _⟩, trivial⟩, nextP (⟨ws, gs, e⟩ : PS), (.slice 1 0 gs.length 4 none), 4, rfl, rfl, rfl, svOk_slice _ _ _ _, ?_⟩
            repeat' (first | (refine And.intro ?_ ?_) | (intro h; (try first | replace h := of_decide_eq_true h | replace h := of_decide_eq_false h); (try simp only [p_e, sg, hx1] at h); (try simp only [sx, ↓reduceIte, Nat.reduceAdd, reduceCtorEq, Int.reduceLT, Int.reduceLE, Int.reduceSub, Nat.reduceEqDiff, Nat.reduceLT] at h); try exact nz h))
            all_goals (try exact cz)
            refine ⟨[0, 1], [.ptr 0 0 0, .int .i64 11], [(0, pB (failP (nextP (⟨ws, gs, e⟩ : PS)) 4).ws (.slice 1 0 gs.length 4 none) (failP (nextP (⟨ws, gs, e⟩ : PS)) 4).e)], rfl, ⟨.refl _, .refl _, trivial⟩, ⟨⟨by decide, _, rfl, .refl _⟩, trivial⟩, failP (nextP (⟨ws, gs, e⟩ : PS)) 4, (.slice 1 0 gs.length 4 none), 11, rfl, rfl, rfl, svOk_slice _ _ _ _, ?_⟩
            repeat' (first | (refine And.intro ?_ ?_) | (intro h; (try first | replace h := of_decide_eq_true h | replace h := of_decide_eq_false h); (try simp only [p_e, sg, hx1] at h); (try simp only [sx, ↓reduceIte, Nat.reduceAdd, reduceCtorEq, Int.reduceLT, Int.reduceLE, Int.reduceSub, Nat.reduceEqDiff, Nat.reduceLT] at h); try exact nz h))
            all_goals (try exact cz)
            exact ⟨⟨[], [(0, eB (failP (failP (nextP (⟨ws, gs, e⟩ : PS)) 4) 11).ws (failP (failP (nextP (⟨ws, gs, e⟩ : PS)) 4) 11).e)], 2⟩, reb_num [0, 1] (by first | rfl | kernel_rfl) trivial ⟨⟨by decide, _, rfl, wkE rfl⟩, trivial⟩, _, rfl, hE hce⟩
          · skip
            have hch : headP depth (⟨ws, gs, e⟩ : PS) = failP (nextP (⟨ws, gs, e⟩ : PS)) 4 := by
              unfold headP
              simp only [hnm, reduceCtorEq, failP_fs, nextP_fs, h40, h8, if_true, if_false]
            have hce : (failP (nextP (⟨ws, gs, e⟩ : PS)) 4).e ≠ 0 := failP_e (by decide)
            rw [if_pos (by rw [hch]; exact hce), hch] at hτ
            rw [← hτ] at hE
            refine ⟨[0, 1], [.ptr 0 0 0], [(0, pB ((⟨ws, gs, e⟩ : PS)).ws (.slice 1 0 gs.length 4 none) ((⟨ws, gs, e⟩ : PS)).e)], rfl, ⟨.refl _, trivial⟩, ⟨⟨by decide, _, rfl, .refl _⟩, trivial⟩, (⟨ws, gs, e⟩ : PS), (.slice 1 0 gs.length 4 none), rfl, rfl, rfl, ⟨svOk_slice _ _ _ _, hI.len⟩, ?_⟩
            repeat' (first | (refine And.intro ?_ ?_) | (intro h; (try first | replace h := of_decide_eq_true h | replace h := of_decide_eq_false h); (try simp only [p_e, sg, hx1] at h); (try simp only [sx, ↓reduceIte, Nat.reduceAdd, reduceCtorEq, Int.reduceLT, Int.reduceLE, Int.reduceSub, Nat.reduceEqDiff, Nat.reduceLT] at h); try exact nz h))
            all_goals (try exact cz)
            refine ⟨nextW (⟨ws, gs, e⟩ : PS), rfl, hwl, ?_⟩
            rw [hnm]
            repeat' (first | (refine And.intro ?_ ?_) | (intro h; (try first | replace h := of_decide_eq_true h | replace h := of_decide_eq_false h); (try simp only [p_e, sg, hx1] at h); (try simp only [sx, ↓reduceIte, Nat.reduceAdd, reduceCtorEq, Int.reduceLT, Int.reduceLE, Int.reduceSub, Nat.reduceEqDiff, Nat.reduceLT] at h); try exact nz h))
            all_goals (try exact cz)
            refine ⟨[0, 1], [.ptr 0 0 0, .int .i64 4], [(0, pB (nextP (⟨ws, gs, e⟩ : PS)).ws (.slice 1 0 gs.length 4 none) (nextP (⟨ws, gs, e⟩ : PS)).e)], rfl, ⟨.refl _, .refl _, trivial⟩, ⟨⟨by decide, _, rfl, .refl _⟩, trivial⟩, nextP (⟨ws, gs, e⟩ : PS), (.slice 1 0 gs.length 4 none), 4, rfl, rfl, rfl, svOk_slice _ _ _ _, ?_⟩
            repeat' (first | (refine And.intro ?_ ?_) | (intro h; (try first | replace h := of_decide_eq_true h | replace h := of_decide_eq_false h); (try simp only [p_e, sg, hx1] at h); (try simp only [sx, ↓reduceIte, Nat.reduceAdd, reduceCtorEq, Int.reduceLT, Int.reduceLE, Int.reduceSub, Nat.reduceEqDiff, Nat.reduceLT] at h); try exact nz h))
            all_goals (try exact cz)
            exact ⟨⟨[], [(0, eB (failP (nextP (⟨ws, gs, e⟩ : PS)) 4).ws (failP (nextP (⟨ws, gs, e⟩ : PS)) 4).e)], 2⟩, reb_num [0, 1] (by first | rfl | kernel_rfl) trivial ⟨⟨by decide, _, rfl, wkE rfl⟩, trivial⟩, _, rfl, hE hce⟩
        · by_cases h8 : 8 < depth
          · skip
            have hch : headP depth (⟨ws, gs, e⟩ : PS) = failP (nextP (⟨ws, gs, e⟩ : PS)) 11 := by
              unfold headP
              simp only [hnm, reduceCtorEq, failP_fs, nextP_fs, h40, h8, if_true, if_false]
            have hce : (failP (nextP (⟨ws, gs, e⟩ : PS)) 11).e ≠ 0 := failP_e (by decide)
            rw [if_pos (by rw [hch]; exact hce), hch] at hτ
            rw [← hτ] at hE
            refine ⟨[0, 1], [.ptr 0 0 0], [(0, pB ((⟨ws, gs, e⟩ : PS)).ws (.slice 1 0 gs.length 4 none) ((⟨ws, gs, e⟩ : PS)).e)], rfl, ⟨.refl _, trivial⟩, ⟨⟨by decide, _, rfl, .refl _⟩, trivial⟩, (⟨ws, gs, e⟩ : PS), (.slice 1 0 gs.length 4 none), rfl, rfl, rfl, ⟨svOk_slice _ _ _ _, hI.len⟩, ?_⟩
            repeat' (first | (refine And.intro ?_ ?_) | (intro h; (try first | replace h := of_decide_eq_true h | replace h := of_decide_eq_false h); (try simp only [p_e, sg, hx1] at h); (try simp only [sx, ↓reduceIte, Nat.reduceAdd, reduceCtorEq, Int.reduceLT, Int.reduceLE, Int.reduceSub, Nat.reduceEqDiff, Nat.reduceLT] at h); try exact nz h))
            all_goals (try exact cz)
            refine ⟨nextW (⟨ws, gs, e⟩ : PS), rfl, hwl, ?_⟩
            rw [hnm]
            repeat' (first | (refine And.intro ?_ ?_) | (intro h; (try first | replace h := of_decide_eq_true h | replace h := of_decide_eq_false h); (try simp only [p_e, sg, hx1] at h); (try simp only [sx, ↓reduceIte, Nat.reduceAdd, reduceCtorEq, Int.reduceLT, Int.reduceLE, Int.reduceSub, Nat.reduceEqDiff, Nat.reduceLT] at h); try exact nz h))
            all_goals (try exact cz)
            refine ⟨[0, 1], [.ptr 0 0 0, .int .i64 11], [(0, pB (nextP (⟨ws, gs, e⟩ : PS)).ws (.slice 1 0 gs.length 4 none) (nextP (⟨ws, gs, e⟩ : PS)).e)], rfl, ⟨.refl _, .refl _, trivial⟩, ⟨⟨by decide, _, rfl, .refl _⟩, trivial⟩, nextP (⟨ws, gs, e⟩ : PS), (.slice 1 0 gs.length 4 none), 11, rfl, rfl, rfl, svOk_slice _ _ _ _, ?_⟩
            repeat' (first | (refine And.intro ?_ ?_) | (intro h; (try first | replace h := of_decide_eq_true h | replace h := of_decide_eq_false h); (try simp only [p_e, sg, hx1] at h); (try simp only [sx, ↓reduceIte, Nat.reduceAdd, reduceCtorEq, Int.reduceLT, Int.reduceLE, Int.reduceSub, Nat.reduceEqDiff, Nat.reduceLT] at h); try exact nz h))
            all_goals (try exact cz)
            exact ⟨⟨[], [(0, eB (failP (nextP (⟨ws, gs, e⟩ : PS)) 11).ws (failP (nextP (⟨ws, gs, e⟩ : PS)) 11).e)], 2⟩, reb_num [0, 1] (by first | rfl | kernel_rfl) trivial ⟨⟨by decide, _, rfl, wkE rfl⟩, trivial⟩, _, rfl, hE hce⟩
          · skip
            have h40' : gs.length < 40 := by omega
            have hch : headP depth (⟨ws, gs, e⟩ : PS) = nextP ⟨ws, gs, e⟩ := by
              unfold headP
              simp only [hnm, reduceCtorEq, failP_fs, nextP_fs, h40, h8, if_true, if_false]
            have he0 : e = 0 := by
              by_cases he : e = 0
              · exact he
              · rw [show nextW ⟨ws, gs, e⟩ = [] from if_pos he] at hnm; cases hnm
            subst he0
            have hnx0 : (nextP (⟨ws, gs, 0⟩ : PS)).e = 0 := nextP_e _
            refine ⟨[0, 1], [.ptr 0 0 0], [(0, pB ((⟨ws, gs, 0⟩ : PS)).ws (.slice 1 0 gs.length 4 none) ((⟨ws, gs, 0⟩ : PS)).e)], rfl, ⟨.refl _, trivial⟩, ⟨⟨by decide, _, rfl, .refl _⟩, trivial⟩, (⟨ws, gs, 0⟩ : PS), (.slice 1 0 gs.length 4 none), rfl, rfl, rfl, ⟨svOk_slice _ _ _ _, hI.len⟩, ?_⟩
            repeat' (first | (refine And.intro ?_ ?_) | (intro h; (try first | replace h := of_decide_eq_true h | replace h := of_decide_eq_false h); (try simp only [p_e, sg, hx1] at h); (try simp only [sx, ↓reduceIte, Nat.reduceAdd, reduceCtorEq, Int.reduceLT, Int.reduceLE, Int.reduceSub, Nat.reduceEqDiff, Nat.reduceLT] at h); try exact nz h))
            all_goals (try exact cz)
            refine ⟨nextW (⟨ws, gs, 0⟩ : PS), rfl, hwl, ?_⟩
            rw [hnm]
            repeat' (first | (refine And.intro ?_ ?_) | (intro h; (try first | replace h := of_decide_eq_true h | replace h := of_decide_eq_false h); (try simp only [p_e, sg, hx1] at h); (try simp only [sx, ↓reduceIte, Nat.reduceAdd, reduceCtorEq, Int.reduceLT, Int.reduceLE, Int.reduceSub, Nat.reduceEqDiff, Nat.reduceLT] at h); try exact nz h))
            all_goals (try exact cz)
            rw [hch, if_neg (fun h => h hnx0), nextP_fs] at hτ
            have hIn : PInv (nextP ⟨ws, gs, 0⟩) := (nextP_le _).inv hI
            obtain ⟨w0, hw0⟩ : ∃ w0, nextP (⟨ws, gs, 0⟩ : PS) = ⟨w0, gs, 0⟩ := ⟨(nextP ⟨ws, gs, 0⟩).ws, rfl⟩
            generalize hw : nextW (⟨ws, gs, 0⟩ : PS) = w at *
            rw [hw0] at hτ hIn ⊢
            have hIa : PInv ⟨w0, gs ++ [(⟨w, rep, kind, 0⟩ : Fd)], 0⟩ := (addP_le (σ := ⟨w0, gs, 0⟩) (f := ⟨w, rep, kind, 0⟩) h40' rfl (nameT_len hnm)).inv hIn
            have heq : List.take gs.length (List.drop 0 (gs.map encF)) ++ [[.str w, .int .i64 rep, .int .i64 kind, .int .i64 0]] = (gs ++ [(⟨w, rep, kind, 0⟩ : Fd)]).map encF := by
              rw [List.drop_zero, List.take_of_length_le (by rw [List.length_map]; exact Nat.le_refl _), List.map_append]; rfl
            refine ⟨⟨[(0, .ptr 0 0 0), (2, .int .i64 kind), (3, .int .i64 depth), (9, .int .i64 gs.length)], [(0, pB w0 (.slice 2 0 (gs.length + 1) 4 none) 0), (2, sB (gs ++ [(⟨w, rep, kind, 0⟩ : Fd)]))], 3⟩, reb_num [0, 1, 5] (by first | rfl | kernel_rfl) ⟨.refl _, .refl _, .refl _, .refl _, trivial⟩ ⟨⟨by decide, _, rfl, .refl _⟩, ⟨by decide, _, rfl, wkB_eq heq (fF _)⟩, trivial⟩, ?_⟩
            have hfsn : gs ++ [(⟨w, rep, kind, 0⟩ : Fd)] ≠ [] := by simp
            have hat : gs.length < (gs ++ [(⟨w, rep, kind, 0⟩ : Fd)]).length := by simp
            have hτ : (if kind ≠ 0 then mustP [59] ⟨w0, gs ++ [(⟨w, rep, kind, 0⟩ : Fd)], 0⟩ else moreP (fun r k => fieldP n r k (depth + 1)) gs.length (w0.length + 1) (mustP [123] ⟨w0, gs ++ [(⟨w, rep, kind, 0⟩ : Fd)], 0⟩)) = τ := hτ
            have hsl : (gs ++ [(⟨w, rep, kind, 0⟩ : Fd)]).length = gs.length + 1 := by simp
            rw [← hsl]
            clear heq
            generalize hfs0 : gs ++ [(⟨w, rep, kind, 0⟩ : Fd)] = fs at *
            generalize gs.length = at' at hτ hat ⊢
            by_cases hk : kind = 0
            · rw [if_neg (fun h => h hk)] at hτ
              obtain ⟨ws, e, hmu⟩ : ∃ ws e, mustP [123] (⟨w0, fs, 0⟩ : PS) = ⟨ws, fs, e⟩ := ⟨_, _, ps_ext rfl (mustP_fs _ _) rfl⟩
              have hI : PInv ⟨ws, fs, e⟩ := by rw [← hmu]; exact (mustP_le _ _).inv hIa
              have hf : ws.length < w0.length + 1 := by have := (mustP_le [123] ⟨w0, fs, 0⟩).len; rw [hmu] at this; exact Nat.lt_succ_of_le this
              have ha := hat
              have hne := hfsn
              have hm0 := hτ
              rw [hmu] at hm0
              repeat' (first | (refine And.intro ?_ ?_) | (intro h; (try first | replace h := of_decide_eq_true h | replace h := of_decide_eq_false h); (try simp only [p_e, sg, hx1] at h); (try simp only [sx, ↓reduceIte, Nat.reduceAdd, reduceCtorEq, Int.reduceLT, Int.reduceLE, Int.reduceSub, Nat.reduceEqDiff, Nat.reduceLT] at h); try exact nz h))
              all_goals (try exact cz)
              refine ⟨[0, 2], [.ptr 0 0 0, .str [123]], [(0, pB w0 (.slice 1 0 fs.length 4 none) 0)], rfl, ⟨.refl _, .refl _, trivial⟩, ⟨⟨by decide, _, rfl, .refl _⟩, trivial⟩, ⟨w0, fs, 0⟩, .slice 1 0 fs.length 4 none, [123], rfl, rfl, rfl, ⟨svOk_slice _ _ _ _, hIa.len⟩, ?_⟩
              rw [hmu]
              clear hτ
              generalize w0.length + 1 = f0 at hm0 hf
              repeat' (first | (refine And.intro ?_ ?_) | (intro h; (try first | replace h := of_decide_eq_true h | replace h := of_decide_eq_false h); (try simp only [p_e, sg, hx1] at h); (try simp only [sx, ↓reduceIte, Nat.reduceAdd, reduceCtorEq, Int.reduceLT, Int.reduceLE, Int.reduceSub, Nat.reduceEqDiff, Nat.reduceLT] at h); try exact nz h))
              all_goals (try exact cz)
              refine ⟨tfL depth ws fs e at', reb_num [0, 1, 2] (by first | rfl | kernel_rfl) ⟨.refl _, .refl _, .refl _, trivial⟩ ⟨⟨by decide, _, rfl, .refl _⟩, ⟨by decide, _, rfl, wkB_same (fF _)⟩, trivial⟩, ?_⟩
              obtain ⟨w1, e1, q1⟩ : ∃ w1 e1, pickP kwReps (⟨ws, fs, e⟩ : PS) = ⟨w1, fs, e1⟩ := ⟨_, _, ps_ext rfl (pickP_fs _ _) rfl⟩
              obtain ⟨w2, e2, q2⟩ : ∃ w2 e2, pickP kwKinds (⟨w1, fs, e1⟩ : PS) = ⟨w2, fs, e2⟩ := ⟨_, _, ps_ext rfl (pickP_fs _ _) rfl⟩
              obtain ⟨v1, r1⟩ : ∃ v1, pickV kwReps (⟨ws, fs, e⟩ : PS) = v1 := ⟨_, rfl⟩
              obtain ⟨v2, r2⟩ : ∃ v2, pickV kwKinds (⟨w1, fs, e1⟩ : PS) = v2 := ⟨_, rfl⟩
              obtain ⟨w3, fs3, e3, q3⟩ : ∃ w3 fs3 e3, fieldP n v1 v2 (depth + 1) (⟨w2, fs, e2⟩ : PS) = ⟨w3, fs3, e3⟩ := ⟨_, _, _, rfl⟩
              have hI1 : PInv ⟨w1, fs, e1⟩ := by rw [← q1]; exact (pickP_le _ _).inv hI
              have hI2 : PInv ⟨w2, fs, e2⟩ := by rw [← q2]; exact (pickP_le _ _).inv hI1
              have hI3' : PInv ⟨w3, fs3, e3⟩ := by rw [← q3]; exact (fieldP_le _ _ _ _ _).inv hI2
              have hfl3 : fs.length ≤ fs3.length := by have := (fieldP_le n v1 v2 (depth + 1) ⟨w2, fs, e2⟩).fl; rw [q3] at this; exact this
              obtain ⟨f, rfl⟩ : ∃ f, f0 = f + 1 := ⟨f0 - 1, by omega⟩
              rw [moreP] at hm0
              simp only at hm0
              rw [q1, r1, q2, r2] at hm0
              have hm := hm0
              repeat' (first | (refine And.intro ?_ ?_) | (intro h; (try first | replace h := of_decide_eq_true h | replace h := of_decide_eq_false h); (try simp only [p_e, sg, hx1] at h); (try simp only [sx, ↓reduceIte, Nat.reduceAdd, reduceCtorEq, Int.reduceLT, Int.reduceLE, Int.reduceSub, Nat.reduceEqDiff, Nat.reduceLT] at h); try exact nz h))
              all_goals (try exact cz)
              refine ⟨[0, 2], [.ptr 0 0 0, vW kwReps], [(0, pB ((⟨ws, fs, e⟩ : PS)).ws (.slice 1 0 fs.length 4 none) ((⟨ws, fs, e⟩ : PS)).e)], rfl, ⟨.refl _, .refl _, trivial⟩, ⟨⟨by decide, _, rfl, .refl _⟩, trivial⟩, (⟨ws, fs, e⟩ : PS), (.slice 1 0 fs.length 4 none), kwReps, rfl, rfl, rfl, ⟨svOk_slice _ _ _ _, hI.len, by decide⟩, ?_⟩
              rw [q1, r1]
              repeat' (first | (refine And.intro ?_ ?_) | (intro h; (try first | replace h := of_decide_eq_true h | replace h := of_decide_eq_false h); (try simp only [p_e, sg, hx1] at h); (try simp only [sx, ↓reduceIte, Nat.reduceAdd, reduceCtorEq, Int.reduceLT, Int.reduceLE, Int.reduceSub, Nat.reduceEqDiff, Nat.reduceLT] at h); try exact nz h))
              all_goals (try exact cz)
              refine ⟨⟨[(0, .ptr 0 0 0), (1, .int .i64 v1), (3, .int .i64 depth), (9, .int .i64 at')], [(0, pB w1 (.slice 2 0 fs.length 4 none) e1), (2, sB fs)], 3⟩, reb_num [0, 1, 2] (by first | rfl | kernel_rfl) ⟨.refl _, .refl _, .refl _, .refl _, trivial⟩ ⟨⟨by decide, _, rfl, .refl _⟩, ⟨by decide, _, rfl, wkB_same (fF _)⟩, trivial⟩, ?_⟩
              repeat' (first | (refine And.intro ?_ ?_) | (intro h; (try first | replace h := of_decide_eq_true h | replace h := of_decide_eq_false h); (try simp only [p_e, sg, hx1] at h); (try simp only [sx, ↓reduceIte, Nat.reduceAdd, reduceCtorEq, Int.reduceLT, Int.reduceLE, Int.reduceSub, Nat.reduceEqDiff, Nat.reduceLT] at h); try exact nz h))
              all_goals (try exact cz)
              refine ⟨[0, 2], [.ptr 0 0 0, vW kwKinds], [(0, pB ((⟨w1, fs, e1⟩ : PS)).ws (.slice 1 0 fs.length 4 none) ((⟨w1, fs, e1⟩ : PS)).e)], rfl, ⟨.refl _, .refl _, trivial⟩, ⟨⟨by decide, _, rfl, .refl _⟩, trivial⟩, (⟨w1, fs, e1⟩ : PS), (.slice 1 0 fs.length 4 none), kwKinds, rfl, rfl, rfl, ⟨svOk_slice _ _ _ _, hI1.len, by decide⟩, ?_⟩
              rw [q2, r2]
              repeat' (first | (refine And.intro ?_ ?_) | (intro h; (try first | replace h := of_decide_eq_true h | replace h := of_decide_eq_false h); (try simp only [p_e, sg, hx1] at h); (try simp only [sx, ↓reduceIte, Nat.reduceAdd, reduceCtorEq, Int.reduceLT, Int.reduceLE, Int.reduceSub, Nat.reduceEqDiff, Nat.reduceLT] at h); try exact nz h))
              all_goals (try exact cz)
              refine ⟨⟨[(0, .ptr 0 0 0), (1, .int .i64 v1), (2, .int .i64 v2), (3, .int .i64 depth), (9, .int .i64 at')], [(0, pB w2 (.slice 2 0 fs.length 4 none) e2), (2, sB fs)], 3⟩, reb_num [0, 1, 2] (by first | rfl | kernel_rfl) ⟨.refl _, .refl _, .refl _, .refl _, .refl _, trivial⟩ ⟨⟨by decide, _, rfl, .refl _⟩, ⟨by decide, _, rfl, wkB_same (fF _)⟩, trivial⟩, ?_⟩
              repeat' (first | (refine And.intro ?_ ?_) | (intro h; (try first | replace h := of_decide_eq_true h | replace h := of_decide_eq_false h); (try simp only [p_e, sg, hx1] at h); (try simp only [sx, ↓reduceIte, Nat.reduceAdd, reduceCtorEq, Int.reduceLT, Int.reduceLE, Int.reduceSub, Nat.reduceEqDiff, Nat.reduceLT] at h); try exact nz h))
              all_goals (try exact cz)
              refine ⟨[0, 2], [.ptr 0 0 0, .int .i64 v1, .int .i64 v2, .int .i64 (depth + 1)], [(0, pB w2 (.slice 1 0 fs.length 4 none) e2), (1, sB fs)], rfl, ⟨.refl _, .refl _, .refl _, wk_int (wr_id (by omega) (by omega)), trivial⟩, ⟨⟨by decide, _, rfl, .refl _⟩, ⟨by decide, _, rfl, wkB_same (fF _)⟩, trivial⟩, ⟨w2, fs, e2⟩, v1, v2, depth + 1, rfl, .inr ⟨hne, rfl⟩, rfl, ⟨hI2, by omega, by omega, by omega⟩, fun he => ?_, fun he => ?_⟩
              · rw [if_pos he] at hm
                rw [q3] at he ⊢
                repeat' (first | (refine And.intro ?_ ?_) | (intro h; (try first | replace h := of_decide_eq_true h | replace h := of_decide_eq_false h); (try simp only [p_e, sg, hx1] at h); (try simp only [sx, ↓reduceIte, Nat.reduceAdd, reduceCtorEq, Int.reduceLT, Int.reduceLE, Int.reduceSub, Nat.reduceEqDiff, Nat.reduceLT] at h); try exact nz h))
                all_goals (try exact cz)
                refine ⟨⟨[(0, .ptr 0 0 0), (3, .int .i64 depth), (9, .int .i64 at')], [(0, eB w3 e3)], 2⟩, reb_num [0, 1] (by first | rfl | kernel_rfl) ⟨.refl _, .refl _, .refl _, trivial⟩ ⟨⟨by decide, _, rfl, .refl _⟩, trivial⟩, ?_⟩
                repeat' (first | (refine And.intro ?_ ?_) | (intro h; (try first | replace h := of_decide_eq_true h | replace h := of_decide_eq_false h); (try simp only [p_e, sg, hx1] at h); (try simp only [sx, ↓reduceIte, Nat.reduceAdd, reduceCtorEq, Int.reduceLT, Int.reduceLE, Int.reduceSub, Nat.reduceEqDiff, Nat.reduceLT] at h); try exact nz h))
                all_goals (try exact cz)
                refine ⟨⟨[], [(0, eB w3 e3)], 2⟩, reb_num [0, 1] (by first | rfl | kernel_rfl) trivial ⟨⟨by decide, _, rfl, .refl _⟩, trivial⟩, _, rfl, ?_⟩
                rw [← hm, q3] at hE
                exact hE he
              · rw [if_neg (fun h => h he)] at hm
                have hone := one_inv (σ := ⟨ws, fs, e⟩) (g := fun r k => fieldP n r k (depth + 1)) (fun r k σ => fieldP_le n r k (depth + 1) σ) ha (by rw [q1, r1, q2, r2]; exact he)
                rw [q1, r1, q2, r2] at hone
                rw [q3] at he hm hone ⊢
                have he3 : e3 = 0 := he
                subst he3
                obtain ⟨hdec, hinv⟩ := hone
                have hdec : w3.length < ws.length := hdec
                have hI4 : PInv ⟨w3, incK fs3 at', 0⟩ := hinv hI
                have ha3 : at' < fs3.length := Nat.lt_of_lt_of_le ha hfl3
                have hl4 : (incK fs3 at').length = fs3.length := incK_length fs3 at'
                have hI3 : PInv ⟨w3, fs3, 0⟩ := hI3'
                have hk3 := hI3.kids (fs3.getD at' default) (by rw [List.getD_eq_getElem?_getD, List.getElem?_eq_getElem ha3]; exact List.getElem_mem ha3)
                have hk3a : 0 ≤ (fs3.getD at' default).kids := hk3.1
                have hk3b : (fs3.getD at' default).kids + (w3.length : Int) ≤ 5000 := hk3.2
                have hrow : (fs3.map encF).getD (0 + ((at' : Nat) : Int).toNat) [] = encF (fs3.getD at' default) := by rw [Nat.zero_add, Int.toNat_natCast]; exact row_at encF default ha3
                repeat' (first | (refine And.intro ?_ ?_) | (intro h; (try first | replace h := of_decide_eq_true h | replace h := of_decide_eq_false h); (try simp only [p_e, sg, hx1] at h); (try simp only [sx, ↓reduceIte, Nat.reduceAdd, reduceCtorEq, Int.reduceLT, Int.reduceLE, Int.reduceSub, Nat.reduceEqDiff, Nat.reduceLT] at h); try exact nz h))
                all_goals (try exact cz)
                refine ⟨⟨[(0, .ptr 0 0 0), (3, .int .i64 depth), (9, .int .i64 at')], [(0, pB w3 (.slice 2 0 fs3.length 4 none) 0), (2, sB fs3)], 3⟩, reb_num [0, 1, 5] (by first | rfl | kernel_rfl) ⟨.refl _, .refl _, .refl _, trivial⟩ ⟨⟨by decide, _, rfl, .refl _⟩, ⟨by decide, _, rfl, wkB_eq (ren_mapF _ _) (fF _)⟩, trivial⟩, ?_⟩
                repeat' (first | (refine And.intro ?_ ?_) | (intro h; (try first | replace h := of_decide_eq_true h | replace h := of_decide_eq_false h); (try simp only [p_e, sg, hx1] at h); (try simp only [sx, ↓reduceIte, Nat.reduceAdd, reduceCtorEq, Int.reduceLT, Int.reduceLE, Int.reduceSub, Nat.reduceEqDiff, Nat.reduceLT] at h); try exact nz h))
                all_goals (try exact cz)
                all_goals (try (rw [hrow]; first | exact rfl | exact Nat.le_of_ble_eq_true rfl))
                refine ⟨⟨[(0, .ptr 0 0 0), (3, .int .i64 depth), (9, .int .i64 at')], [(0, pB w3 (.slice 2 0 fs3.length 4 none) 0), (2, sB (incK fs3 at'))], 3⟩, reb_num [0, 1, 2] (by first | rfl | kernel_rfl) ⟨.refl _, .refl _, .refl _, trivial⟩ ⟨⟨by decide, _, rfl, .refl _⟩, ⟨by decide, _, rfl, wkB_eq ?_ (fF _)⟩, trivial⟩, ?_⟩
                · rw [hrow]
                  show (fs3.map encF).set (0 + ((at' : Nat) : Int).toNat) [.str (fs3.getD at' default).name, .int .i64 (fs3.getD at' default).rep, .int .i64 (fs3.getD at' default).kind, .int .i64 (wr .i64 ((fs3.getD at' default).kids + 1))] = _
                  rw [wr_id (by omega) (by omega), Nat.zero_add, Int.toNat_natCast, incK_map ha3]
                rw [← hl4]
                have hm4 : (if w3 ≠ [] ∧ w3.headD [] ≠ [125] then moreP (fun r k => fieldP n r k (depth + 1)) at' f ⟨w3, incK fs3 at', 0⟩ else mustP [125] ⟨w3, incK fs3 at', 0⟩) = τ := hm
                have ha4 : at' < (incK fs3 at').length := by rw [hl4]; exact ha3
                generalize incK fs3 at' = fs4 at *
                cases w3 with
                | nil =>
                  rw [if_neg (fun h => h.1 rfl)] at hm4
                  repeat' (first | (refine And.intro ?_ ?_) | (intro h; (try first | replace h := of_decide_eq_true h | replace h := of_decide_eq_false h); (try simp only [p_e, sg, hx1] at h); (try simp only [sx, ↓reduceIte, Nat.reduceAdd, reduceCtorEq, Int.reduceLT, Int.reduceLE, Int.reduceSub, Nat.reduceEqDiff, Nat.reduceLT] at h); try exact nz h))
                  all_goals (try exact cz)
                  all_goals (try exact absurd (show eqb w [125] = false from ‹_›) (by rw [hx1]; decide))
                  refine ⟨[0, 2], [.ptr 0 0 0, .str [125]], [(0, pB [] (.slice 1 0 fs4.length 4 none) 0)], rfl, ⟨.refl _, .refl _, trivial⟩, ⟨⟨by decide, _, rfl, .refl _⟩, trivial⟩, ⟨[], fs4, 0⟩, .slice 1 0 fs4.length 4 none, [125], rfl, rfl, rfl, ⟨svOk_slice _ _ _ _, hI4.len⟩, ?_⟩
                  rw [hm4]
                  have hfs : τ.fs = fs4 := by rw [← hm4, mustP_fs]
                  repeat' (first | (refine And.intro ?_ ?_) | (intro h; (try first | replace h := of_decide_eq_true h | replace h := of_decide_eq_false h); (try simp only [p_e, sg, hx1] at h); (try simp only [sx, ↓reduceIte, Nat.reduceAdd, reduceCtorEq, Int.reduceLT, Int.reduceLE, Int.reduceSub, Nat.reduceEqDiff, Nat.reduceLT] at h); try exact nz h))
                  all_goals (try exact cz)
                  exact fin_field hE hO hfs rfl rfl
                | cons w t =>
                  have hlc : (w :: t).length = t.length + 1 := rfl
                  have hl5 := hI4.len
                  have hl5 : (w :: t).length ≤ 5000 := hl5
                  have hx1 := eqb_eq w [125]
                  by_cases hw : w = [125]
                  · rw [if_neg (fun h => h.2 hw)] at hm4
                    rw [decide_eq_true hw] at hx1
                    repeat' (first | (refine And.intro ?_ ?_) | (intro h; (try first | replace h := of_decide_eq_true h | replace h := of_decide_eq_false h); (try simp only [p_e, sg, hx1] at h); (try simp only [sx, ↓reduceIte, Nat.reduceAdd, reduceCtorEq, Int.reduceLT, Int.reduceLE, Int.reduceSub, Nat.reduceEqDiff, Nat.reduceLT] at h); try exact nz h))
                    all_goals (try exact cz)
                    all_goals (try exact absurd (show eqb w [125] = false from ‹_›) (by rw [hx1]; decide))
                    refine ⟨[0, 2], [.ptr 0 0 0, .str [125]], [(0, pB (w :: t) (.slice 1 0 fs4.length 4 none) 0)], rfl, ⟨.refl _, .refl _, trivial⟩, ⟨⟨by decide, _, rfl, .refl _⟩, trivial⟩, ⟨(w :: t), fs4, 0⟩, .slice 1 0 fs4.length 4 none, [125], rfl, rfl, rfl, ⟨svOk_slice _ _ _ _, hI4.len⟩, ?_⟩
                    rw [hm4]
                    have hfs : τ.fs = fs4 := by rw [← hm4, mustP_fs]
                    repeat' (first | (refine And.intro ?_ ?_) | (intro h; (try first | replace h := of_decide_eq_true h | replace h := of_decide_eq_false h); (try simp only [p_e, sg, hx1] at h); (try simp only [sx, ↓reduceIte, Nat.reduceAdd, reduceCtorEq, Int.reduceLT, Int.reduceLE, Int.reduceSub, Nat.reduceEqDiff, Nat.reduceLT] at h); try exact nz h))
                    all_goals (try exact cz)
                    exact fin_field hE hO hfs rfl rfl
                  · rw [if_pos ⟨by simp, hw⟩] at hm4
                    rw [decide_eq_false hw] at hx1
                    repeat' (first | (refine And.intro ?_ ?_) | (intro h; (try first | replace h := of_decide_eq_true h | replace h := of_decide_eq_false h); (try simp only [p_e, sg, hx1] at h); (try simp only [sx, ↓reduceIte, Nat.reduceAdd, reduceCtorEq, Int.reduceLT, Int.reduceLE, Int.reduceSub, Nat.reduceEqDiff, Nat.reduceLT] at h); try exact nz h))
                    all_goals (try exact cz)
                    all_goals (try exact absurd (show eqb w [125] = true from ‹_›) (by rw [hx1]; decide))
                    exact ⟨_, tfL depth (w :: t) fs4 0 at', reb_num [0, 1, 2] (by first | rfl | kernel_rfl) ⟨.refl _, .refl _, .refl _, trivial⟩ ⟨⟨by decide, _, rfl, .refl _⟩, ⟨by decide, _, rfl, wkB_same (fF _)⟩, trivial⟩, rfl, _, _, _, f, ⟨hI4, ha4, by rw [hlc] at hdec ⊢; omega, rfl, by omega, hm4⟩, rfl⟩
            · rw [if_pos hk] at hτ
              repeat' (first | (refine And.intro ?_ ?_) | (intro h; (try first | replace h := of_decide_eq_true h | replace h := of_decide_eq_false h); (try simp only [p_e, sg, hx1] at h); (try simp only [sx, ↓reduceIte, Nat.reduceAdd, reduceCtorEq, Int.reduceLT, Int.reduceLE, Int.reduceSub, Nat.reduceEqDiff, Nat.reduceLT] at h); try exact nz h))
              all_goals (try exact cz)
              refine ⟨[0, 2], [.ptr 0 0 0, .str [59]], [(0, pB w0 (.slice 1 0 fs.length 4 none) 0)], rfl, ⟨.refl _, .refl _, trivial⟩, ⟨⟨by decide, _, rfl, .refl _⟩, trivial⟩, ⟨w0, fs, 0⟩, .slice 1 0 fs.length 4 none, [59], rfl, rfl, rfl, ⟨svOk_slice _ _ _ _, hIa.len⟩, ?_⟩
              rw [hτ]
              have hfs : τ.fs = fs := by rw [← hτ, mustP_fs]
              repeat' (first | (refine And.intro ?_ ?_) | (intro h; (try first | replace h := of_decide_eq_true h | replace h := of_decide_eq_false h); (try simp only [p_e, sg, hx1] at h); (try simp only [sx, ↓reduceIte, Nat.reduceAdd, reduceCtorEq, Int.reduceLT, Int.reduceLE, Int.reduceSub, Nat.reduceEqDiff, Nat.reduceLT] at h); try exact nz h))
              all_goals (try exact cz)
              exact fin_field hE hO hfs rfl rfl
    · rintro lb rest m s hfl ⟨rfl, ws, fs, at', f0, ⟨hI, ha, hf, rfl, hd8, hm0⟩, rfl⟩
      cases hfl
      have hne : fs ≠ [] := fun h => by rw [h] at ha; exact absurd ha (by simp)
      obtain ⟨w1, e1, q1⟩ : ∃ w1 e1, pickP kwReps (⟨ws, fs, 0⟩ : PS) = ⟨w1, fs, e1⟩ := ⟨_, _, ps_ext rfl (pickP_fs _ _) rfl⟩
      obtain ⟨w2, e2, q2⟩ : ∃ w2 e2, pickP kwKinds (⟨w1, fs, e1⟩ : PS) = ⟨w2, fs, e2⟩ := ⟨_, _, ps_ext rfl (pickP_fs _ _) rfl⟩
      obtain ⟨v1, r1⟩ : ∃ v1, pickV kwReps (⟨ws, fs, 0⟩ : PS) = v1 := ⟨_, rfl⟩
      obtain ⟨v2, r2⟩ : ∃ v2, pickV kwKinds (⟨w1, fs, e1⟩ : PS) = v2 := ⟨_, rfl⟩
      obtain ⟨w3, fs3, e3, q3⟩ : ∃ w3 fs3 e3, fieldP n v1 v2 (depth + 1) (⟨w2, fs, e2⟩ : PS) = ⟨w3, fs3, e3⟩ := ⟨_, _, _, rfl⟩
      have hI1 : PInv ⟨w1, fs, e1⟩ := by rw [← q1]; exact (pickP_le _ _).inv hI
      have hI2 : PInv ⟨w2, fs, e2⟩ := by rw [← q2]; exact (pickP_le _ _).inv hI1
      have hI3' : PInv ⟨w3, fs3, e3⟩ := by rw [← q3]; exact (fieldP_le _ _ _ _ _).inv hI2
      have hfl3 : fs.length ≤ fs3.length := by have := (fieldP_le n v1 v2 (depth + 1) ⟨w2, fs, e2⟩).fl; rw [q3] at this; exact this
      obtain ⟨f, rfl⟩ : ∃ f, f0 = f + 1 := ⟨f0 - 1, by omega⟩
      rw [moreP] at hm0
      simp only at hm0
      rw [q1, r1, q2, r2] at hm0
      have hm := hm0
      repeat' (first | (refine And.intro ?_ ?_) | (intro h; (try first | replace h := of_decide_eq_true h | replace h := of_decide_eq_false h); (try simp only [p_e, sg, hx1] at h); (try simp only [sx, ↓reduceIte, Nat.reduceAdd, reduceCtorEq, Int.reduceLT, Int.reduceLE, Int.reduceSub, Nat.reduceEqDiff, Nat.reduceLT] at h); try exact nz h))
      all_goals (try exact cz)
      refine ⟨[0, 2], [.ptr 0 0 0, vW kwReps], [(0, pB ((⟨ws, fs, 0⟩ : PS)).ws (.slice 1 0 fs.length 4 none) ((⟨ws, fs, 0⟩ : PS)).e)], rfl, ⟨.refl _, .refl _, trivial⟩, ⟨⟨by decide, _, rfl, .refl _⟩, trivial⟩, (⟨ws, fs, 0⟩ : PS), (.slice 1 0 fs.length 4 none), kwReps, rfl, rfl, rfl, ⟨svOk_slice _ _ _ _, hI.len, by decide⟩, ?_⟩
      rw [q1, r1]
      repeat' (first | (refine And.intro ?_ ?_) | (intro h; (try first | replace h := of_decide_eq_true h | replace h := of_decide_eq_false h); (try simp only [p_e, sg, hx1] at h); (try simp only [sx, ↓reduceIte, Nat.reduceAdd, reduceCtorEq, Int.reduceLT, Int.reduceLE, Int.reduceSub, Nat.reduceEqDiff, Nat.reduceLT] at h); try exact nz h))
      all_goals (try exact cz)
      refine ⟨⟨[(0, .ptr 0 0 0), (1, .int .i64 v1), (3, .int .i64 depth), (9, .int .i64 at')], [(0, pB w1 (.slice 2 0 fs.length 4 none) e1), (2, sB fs)], 3⟩, reb_num [0, 1, 2] (by first | rfl | kernel_rfl) ⟨.refl _, .refl _, .refl _, .refl _, trivial⟩ ⟨⟨by decide, _, rfl, .refl _⟩, ⟨by decide, _, rfl, wkB_same (fF _)⟩, trivial⟩, ?_⟩
      repeat' (first | (refine And.intro ?_ ?_) | (intro h; (try first | replace h := of_decide_eq_true h | replace h := of_decide_eq_false h); (try simp only [p_e, sg, hx1] at h); (try simp only [sx, ↓reduceIte, Nat.reduceAdd, reduceCtorEq, Int.reduceLT, Int.reduceLE, Int.reduceSub, Nat.reduceEqDiff, Nat.reduceLT] at h); try exact nz h))
      all_goals (try exact cz)
      refine ⟨[0, 2], [.ptr 0 0 0, vW kwKinds], [(0, pB ((⟨w1, fs, e1⟩ : PS)).ws (.slice 1 0 fs.length 4 none) ((⟨w1, fs, e1⟩ : PS)).e)], rfl, ⟨.refl _, .refl _, trivial⟩, ⟨⟨by decide, _, rfl, .refl _⟩, trivial⟩, (⟨w1, fs, e1⟩ : PS), (.slice 1 0 fs.length 4 none), kwKinds, rfl, rfl, rfl, ⟨svOk_slice _ _ _ _, hI1.len, by decide⟩, ?_⟩
      rw [q2, r2]
      repeat' (first | (refine And.intro ?_ ?_) | (intro h; (try first | replace h := of_decide_eq_true h | replace h := of_decide_eq_false h); (try simp only [p_e, sg, hx1] at h); (try simp only [sx, ↓reduceIte, Nat.reduceAdd, reduceCtorEq, Int.reduceLT, Int.reduceLE, Int.reduceSub, Nat.reduceEqDiff, Nat.reduceLT] at h); try exact nz h))
      all_goals (try exact cz)
      refine ⟨⟨[(0, .ptr 0 0 0), (1, .int .i64 v1), (2, .int .i64 v2), (3, .int .i64 depth), (9, .int .i64 at')], [(0, pB w2 (.slice 2 0 fs.length 4 none) e2), (2, sB fs)], 3⟩, reb_num [0, 1, 2] (by first | rfl | kernel_rfl) ⟨.refl _, .refl _, .refl _, .refl _, .refl _, trivial⟩ ⟨⟨by decide, _, rfl, .refl _⟩, ⟨by decide, _, rfl, wkB_same (fF _)⟩, trivial⟩, ?_⟩
      repeat' (first | (refine And.intro ?_ ?_) | (intro h; (try first | replace h := of_decide_eq_true h | replace h := of_decide_eq_false h); (try simp only [p_e, sg, hx1] at h); (try simp only [sx, ↓reduceIte, Nat.reduceAdd, reduceCtorEq, Int.reduceLT, Int.reduceLE, Int.reduceSub, Nat.reduceEqDiff, Nat.reduceLT] at h); try exact nz h))
      all_goals (try exact cz)
      refine ⟨[0, 2], [.ptr 0 0 0, .int .i64 v1, .int .i64 v2, .int .i64 (depth + 1)], [(0, pB w2 (.slice 1 0 fs.length 4 none) e2), (1, sB fs)], rfl, ⟨.refl _, .refl _, .refl _, wk_int (wr_id (by omega) (by omega)), trivial⟩, ⟨⟨by decide, _, rfl, .refl _⟩, ⟨by decide, _, rfl, wkB_same (fF _)⟩, trivial⟩, ⟨w2, fs, e2⟩, v1, v2, depth + 1, rfl, .inr ⟨hne, rfl⟩, rfl, ⟨hI2, by omega, by omega, by omega⟩, fun he => ?_, fun he => ?_⟩
      · rw [if_pos he] at hm
        rw [q3] at he ⊢
        repeat' (first | (refine And.intro ?_ ?_) | (intro h; (try first | replace h := of_decide_eq_true h | replace h := of_decide_eq_false h); (try simp only [p_e, sg, hx1] at h); (try simp only [sx, ↓reduceIte, Nat.reduceAdd, reduceCtorEq, Int.reduceLT, Int.reduceLE, Int.reduceSub, Nat.reduceEqDiff, Nat.reduceLT] at h); try exact nz h))
        all_goals (try exact cz)
        refine ⟨⟨[(0, .ptr 0 0 0), (3, .int .i64 depth), (9, .int .i64 at')], [(0, eB w3 e3)], 2⟩, reb_num [0, 1] (by first | rfl | kernel_rfl) ⟨.refl _, .refl _, .refl _, trivial⟩ ⟨⟨by decide, _, rfl, .refl _⟩, trivial⟩, ?_⟩
        repeat' (first | (refine And.intro ?_ ?_) | (intro h; (try first | replace h := of_decide_eq_true h | replace h := of_decide_eq_false h); (try simp only [p_e, sg, hx1] at h); (try simp only [sx, ↓reduceIte, Nat.reduceAdd, reduceCtorEq, Int.reduceLT, Int.reduceLE, Int.reduceSub, Nat.reduceEqDiff, Nat.reduceLT] at h); try exact nz h))
        all_goals (try exact cz)
        refine ⟨⟨[], [(0, eB w3 e3)], 2⟩, reb_num [0, 1] (by first | rfl | kernel_rfl) trivial ⟨⟨by decide, _, rfl, .refl _⟩, trivial⟩, _, rfl, ?_⟩
        rw [← hm, q3] at hE
        exact hE he
      · rw [if_neg (fun h => h he)] at hm
        have hone := one_inv (σ := ⟨ws, fs, 0⟩) (g := fun r k => fieldP n r k (depth + 1)) (fun r k σ => fieldP_le n r k (depth + 1) σ) ha (by rw [q1, r1, q2, r2]; exact he)
        rw [q1, r1, q2, r2] at hone
        rw [q3] at he hm hone ⊢
        have he3 : e3 = 0 := he
        subst he3
        obtain ⟨hdec, hinv⟩ := hone
        have hdec : w3.length < ws.length := hdec
        have hI4 : PInv ⟨w3, incK fs3 at', 0⟩ := hinv hI
        have ha3 : at' < fs3.length := Nat.lt_of_lt_of_le ha hfl3
        have hl4 : (incK fs3 at').length = fs3.length := incK_length fs3 at'
        have hI3 : PInv ⟨w3, fs3, 0⟩ := hI3'
        have hk3 := hI3.kids (fs3.getD at' default) (by rw [List.getD_eq_getElem?_getD, List.getElem?_eq_getElem ha3]; exact List.getElem_mem ha3)
        have hk3a : 0 ≤ (fs3.getD at' default).kids := hk3.1
        have hk3b : (fs3.getD at' default).kids + (w3.length : Int) ≤ 5000 := hk3.2
        have hrow : (fs3.map encF).getD (0 + ((at' : Nat) : Int).toNat) [] = encF (fs3.getD at' default) := by rw [Nat.zero_add, Int.toNat_natCast]; exact row_at encF default ha3
        repeat' (first | (refine And.intro ?_ ?_) | (intro h; (try first | replace h := of_decide_eq_true h | replace h := of_decide_eq_false h); (try simp only [p_e, sg, hx1] at h); (try simp only [sx, ↓reduceIte, Nat.reduceAdd, reduceCtorEq, Int.reduceLT, Int.reduceLE, Int.reduceSub, Nat.reduceEqDiff, Nat.reduceLT] at h); try exact nz h))
        all_goals (try exact cz)
        refine ⟨⟨[(0, .ptr 0 0 0), (3, .int .i64 depth), (9, .int .i64 at')], [(0, pB w3 (.slice 2 0 fs3.length 4 none) 0), (2, sB fs3)], 3⟩, reb_num [0, 1, 5] (by first | rfl | kernel_rfl) ⟨.refl _, .refl _, .refl _, trivial⟩ ⟨⟨by decide, _, rfl, .refl _⟩, ⟨by decide, _, rfl, wkB_eq (ren_mapF _ _) (fF _)⟩, trivial⟩, ?_⟩
        repeat' (first | (refine And.intro ?_ ?_) | (intro h; (try first | replace h := of_decide_eq_true h | replace h := of_decide_eq_false h); (try simp only [p_e, sg, hx1] at h); (try simp only [sx, ↓reduceIte, Nat.reduceAdd, reduceCtorEq, Int.reduceLT, Int.reduceLE, Int.reduceSub, Nat.reduceEqDiff, Nat.reduceLT] at h); try exact nz h))
        all_goals (try exact cz)
        all_goals (try (rw [hrow]; first | exact rfl | exact Nat.le_of_ble_eq_true rfl))
        refine ⟨⟨[(0, .ptr 0 0 0), (3, .int .i64 depth), (9, .int .i64 at')], [(0, pB w3 (.slice 2 0 fs3.length 4 none) 0), (2, sB (incK fs3 at'))], 3⟩, reb_num [0, 1, 2] (by first | rfl | kernel_rfl) ⟨.refl _, .refl _, .refl _, trivial⟩ ⟨⟨by decide, _, rfl, .refl _⟩, ⟨by decide, _, rfl, wkB_eq ?_ (fF _)⟩, trivial⟩, ?_⟩
        · rw [hrow]
          show (fs3.map encF).set (0 + ((at' : Nat) : Int).toNat) [.str (fs3.getD at' default).name, .int .i64 (fs3.getD at' default).rep, .int .i64 (fs3.getD at' default).kind, .int .i64 (wr .i64 ((fs3.getD at' default).kids + 1))] = _
          rw [wr_id (by omega) (by omega), Nat.zero_add, Int.toNat_natCast, incK_map ha3]
        rw [← hl4]
        have hm4 : (if w3 ≠ [] ∧ w3.headD [] ≠ [125] then moreP (fun r k => fieldP n r k (depth + 1)) at' f ⟨w3, incK fs3 at', 0⟩ else mustP [125] ⟨w3, incK fs3 at', 0⟩) = τ := hm
        have ha4 : at' < (incK fs3 at').length := by rw [hl4]; exact ha3
        generalize incK fs3 at' = fs4 at *
        cases w3 with
        | nil =>
          rw [if_neg (fun h => h.1 rfl)] at hm4
          repeat' (first | (refine And.intro ?_ ?_) | (intro h; (try first | replace h := of_decide_eq_true h | replace h := of_decide_eq_false h); (try simp only [p_e, sg, hx1] at h); (try simp only [sx, ↓reduceIte, Nat.reduceAdd, reduceCtorEq, Int.reduceLT, Int.reduceLE, Int.reduceSub, Nat.reduceEqDiff, Nat.reduceLT] at h); try exact nz h))
          all_goals (try exact cz)
          all_goals (try exact absurd (show eqb w [125] = false from ‹_›) (by rw [hx1]; decide))
          refine ⟨[0, 2], [.ptr 0 0 0, .str [125]], [(0, pB [] (.slice 1 0 fs4.length 4 none) 0)], rfl, ⟨.refl _, .refl _, trivial⟩, ⟨⟨by decide, _, rfl, .refl _⟩, trivial⟩, ⟨[], fs4, 0⟩, .slice 1 0 fs4.length 4 none, [125], rfl, rfl, rfl, ⟨svOk_slice _ _ _ _, hI4.len⟩, ?_⟩
          rw [hm4]
          have hfs : τ.fs = fs4 := by rw [← hm4, mustP_fs]
          repeat' (first | (refine And.intro ?_ ?_) | (intro h; (try first | replace h := of_decide_eq_true h | replace h := of_decide_eq_false h); (try simp only [p_e, sg, hx1] at h); (try simp only [sx, ↓reduceIte, Nat.reduceAdd, reduceCtorEq, Int.reduceLT, Int.reduceLE, Int.reduceSub, Nat.reduceEqDiff, Nat.reduceLT] at h); try exact nz h))
          all_goals (try exact cz)
          exact fin_field hE hO hfs rfl rfl
        | cons w t =>
          have hlc : (w :: t).length = t.length + 1 := rfl
          have hl5 := hI4.len
          have hl5 : (w :: t).length ≤ 5000 := hl5
          have hx1 := eqb_eq w [125]
          by_cases hw : w = [125]
          · rw [if_neg (fun h => h.2 hw)] at hm4
            rw [decide_eq_true hw] at hx1
            repeat' (first | (refine And.intro ?_ ?_) | (intro h; (try first | replace h := of_decide_eq_true h | replace h := of_decide_eq_false h); (try simp only [p_e, sg, hx1] at h); (try simp only [sx, ↓reduceIte, Nat.reduceAdd, reduceCtorEq, Int.reduceLT, Int.reduceLE, Int.reduceSub, Nat.reduceEqDiff, Nat.reduceLT] at h); try exact nz h))
            all_goals (try exact cz)
            all_goals (try exact absurd (show eqb w [125] = false from ‹_›) (by rw [hx1]; decide))
            refine ⟨[0, 2], [.ptr 0 0 0, .str [125]], [(0, pB (w :: t) (.slice 1 0 fs4.length 4 none) 0)], rfl, ⟨.refl _, .refl _, trivial⟩, ⟨⟨by decide, _, rfl, .refl _⟩, trivial⟩, ⟨(w :: t), fs4, 0⟩, .slice 1 0 fs4.length 4 none, [125], rfl, rfl, rfl, ⟨svOk_slice _ _ _ _, hI4.len⟩, ?_⟩
            rw [hm4]
            have hfs : τ.fs = fs4 := by rw [← hm4, mustP_fs]
            repeat' (first | (refine And.intro ?_ ?_) | (intro h; (try first | replace h := of_decide_eq_true h | replace h := of_decide_eq_false h); (try simp only [p_e, sg, hx1] at h); (try simp only [sx, ↓reduceIte, Nat.reduceAdd, reduceCtorEq, Int.reduceLT, Int.reduceLE, Int.reduceSub, Nat.reduceEqDiff, Nat.reduceLT] at h); try exact nz h))
            all_goals (try exact cz)
            exact fin_field hE hO hfs rfl rfl
          · rw [if_pos ⟨by simp, hw⟩] at hm4
            rw [decide_eq_false hw] at hx1
            repeat' (first | (refine And.intro ?_ ?_) | (intro h; (try first | replace h := of_decide_eq_true h | replace h := of_decide_eq_false h); (try simp only [p_e, sg, hx1] at h); (try simp only [sx, ↓reduceIte, Nat.reduceAdd, reduceCtorEq, Int.reduceLT, Int.reduceLE, Int.reduceSub, Nat.reduceEqDiff, Nat.reduceLT] at h); try exact nz h))
            all_goals (try exact cz)
            all_goals (try exact absurd (show eqb w [125] = true from ‹_›) (by rw [hx1]; decide))
            exact ⟨_, tfL depth (w :: t) fs4 0 at', reb_num [0, 1, 2] (by first | rfl | kernel_rfl) ⟨.refl _, .refl _, .refl _, trivial⟩ ⟨⟨by decide, _, rfl, .refl _⟩, ⟨by decide, _, rfl, wkB_same (fF _)⟩, trivial⟩, ⟨rfl, _, _, _, f, ⟨hI4, ha4, by rw [hlc] at hdec ⊢; omega, rfl, by omega, hm4⟩, rfl⟩, hdec⟩
theorem field_ok [Syms] : ∀ n, (S_field n).ok Try.prog 24
  | 0 => by
    rintro args H nx Post ⟨σ, rep, kind, depth, _, _, _, ⟨_, h1, h2, h3⟩, _⟩
    omega
  | n + 1 => by
    rintro args H nx Post ⟨σ, rep, kind, depth, rfl, hH, rfl, ⟨h0, h1, h2, h3⟩, h4, h5⟩
    exact fnT_sound tys_ok fns_ok noneT_det (cFd_ok (field_ok n)) mixed (field_t n σ _ rep kind depth H hH h0 h1 h2 h3 rfl h4 h5)
end Go.Proofs.Ytjffmehcbaechaa
