/-
  The document's 'group': a group's fields, how many.
-/
import Derived.Test.YtjffmehcbaechaaTxtRInv
set_option linter.unusedVariables false
set_option linter.unusedSimpArgs false
namespace Go.Proofs.Ytjffmehcbaechaa
open Go Go.Av
set_option maxRecDepth 100000
set_option maxHeartbeats 400000
/-- The parser with its fields in a block of their own, by number. -/
def rH (k : Nat) (W : List Wd) (σ : PS) : Heap := [(0, rP W σ (.slice k 0 σ.fs.length 4 none)), (k, sB σ.fs)]
def S_one (n : Nat) : SpecT := fun args H nx Post => ∃ (W : List Wd) (σ : PS) (d : Int), args = [.ptr 0 0 0, .int .i64 d] ∧ H = rH 1 W σ ∧ nx = 2 ∧ (Suf W σ ∧ WOk W ∧ σ.fs.length ≤ 40 ∧ 0 < σ.fs.length ∧ 0 ≤ d ∧ d ≤ 9 ∧ 10 ≤ n + d) ∧
  Post (.tup []) (rH 1 W (roneP n d σ)) 2 ∧ Post (.tup []) (rH 2 W (roneP n d σ)) 3
def S_group (n : Nat) : SpecT := fun args H nx Post => ∃ (W : List Wd) (σ : PS) (d : Int), args = [.ptr 0 0 0, .int .i64 d] ∧ H = rH 1 W σ ∧ nx = 2 ∧ (Suf W σ ∧ WOk W ∧ σ.fs.length ≤ 40 ∧ 0 < σ.fs.length ∧ 0 ≤ d ∧ d ≤ 9 ∧ 10 ≤ n + d) ∧
  Post (.int .i64 ((rgroupP (roneP n d) σ).2 : Nat)) (rH 1 W (rgroupP (roneP n d) σ).1) 2 ∧ Post (.int .i64 ((rgroupP (roneP n d) σ).2 : Nat)) (rH 2 W (rgroupP (roneP n d) σ).1) 3
abbrev cRGr (n : Nat) : CallT := pickT 29 (specT S_rmust) (pickT 50 (specT (S_one n)) noneT)
theorem cRGr_ok [Syms] {n : Nat} (h : (S_one n).ok Try.prog 50) : (cRGr n).ok Try.prog := pickT_spec rmust_ok (pickT_spec h noneT_ok)
def gL (k : Nat) (W : List Wd) (τ : PS) (d : Int) (c : Nat) : St := ⟨[(0, .ptr 0 0 0), (1, .int .i64 d), (5, .int .i64 c)], rH k W τ, k + 1⟩
theorem at_word {W : List Wd} {τ : PS} (h : Suf W τ) : τ.ws.headD [] = W.getD (W.length - τ.ws.length) [] := by
  rw [List.getD_eq_getElem?_getD, ← List.head?_drop, ← h.s, List.headD_eq_head?_getD]
theorem ps_fs {σ : PS} {fs : List Fd} (h : σ.fs = fs) : ∃ ws e, σ = ⟨ws, fs, e⟩ := ⟨σ.ws, σ.e, by rw [← h]⟩
theorem nums_k {nx k : Nat} (h2 : 2 ≤ k) (hk : k < nx) : NumsOk 2 nx [0, 1, k] = true := by
  have a0 : Nat.blt 0 nx = true := by rw [Nat.blt_eq]; omega
  have a1 : Nat.blt 1 nx = true := by rw [Nat.blt_eq]; omega
  have a2 : Nat.blt k nx = true := by rw [Nat.blt_eq]; exact hk
  have a3 : decide ([0, 1, k] : List Nat).Nodup = true := decide_eq_true (by simp; omega)
  show (Nat.blt 0 nx && (Nat.blt 1 nx && (Nat.blt k nx && true)) && decide ([0, 1, k] : List Nat).Nodup && _ && _) = true
  rw [a0, a1, a2, a3]; rfl
theorem group_t [Syms] {Post : AVal → Heap → Nat → Prop} (n : Nat) (W : List Wd) (σ : PS) (d : Int) (hS : Suf W σ) (hW : WOk W) (hl : σ.fs.length ≤ 40) (h0 : 0 < σ.fs.length) (hd0 : 0 ≤ d) (hd9 : d ≤ 9) (hnd : 10 ≤ n + d)
    (hP1 : Post (.int .i64 ((rgroupP (roneP n d) σ).2 : Nat)) (rH 1 W (rgroupP (roneP n d) σ).1) 2) (hP2 : Post (.int .i64 ((rgroupP (roneP n d) σ).2 : Nat)) (rH 2 W (rgroupP (roneP n d) σ).1) 3) :
    fnT noneT (cRGr n) (fnTab fns) (tyTab tys) (plTab plt) 100 31 [.ptr 0 0 0, .int .i64 d] (rH 1 W σ) 2 Post := by
  have hx1 : True = True := rfl
  rw [rgroupP] at hP1 hP2
  have hS1 : Suf W (mustP [123] σ) := hS.must
  obtain ⟨ws, e, hmu⟩ := ps_fs (mustP_fs [123] σ)
  have hwl : (mustP [123] σ).ws.length ≤ 5000 := Nat.le_trans hS1.l hS1.n
  repeat' (first | (refine And.intro ?_ ?_) | (intro h; (try first | replace h := of_decide_eq_true h | replace h := of_decide_eq_false h); (try simp only [p_e, sg, hx1] at h); (try simp only [sx, ↓reduceIte, Nat.reduceAdd, reduceCtorEq, Int.reduceLT, Int.reduceLE, Int.reduceSub, Nat.reduceEqDiff, Nat.reduceLT] at h); try exact nz h))
  all_goals (try exact cz)
  refine ⟨[0, 1], [.ptr 0 0 0, .str [123]], [(0, rP W σ (.slice 1 0 σ.fs.length 4 none))], rfl, ⟨.refl _, .refl _, trivial⟩, ⟨⟨by decide, _, rfl, wkR rfl (svOk_slice _ _ _ _ _)⟩, trivial⟩, W, σ, .slice 1 0 σ.fs.length 4 none, [123], rfl, rfl, rfl, ⟨svOk_slice _ _ _ _, hS⟩, ?_⟩
  have hR : rloopP (roneP n d) ((mustP [123] σ).ws.length + 2) 0 (mustP [123] σ) = rloopP (roneP n d) ((mustP [123] σ).ws.length + 2) 0 (mustP [123] σ) := rfl
  generalize hRv : rloopP (roneP n d) ((mustP [123] σ).ws.length + 2) 0 (mustP [123] σ) = R at hP1 hP2
  have hl1 : (mustP [123] σ).fs.length ≤ 40 := by rw [mustP_fs]; exact hl
  have h01 : 0 < (mustP [123] σ).fs.length := by rw [mustP_fs]; exact h0
  have hsl : σ.fs.length = (mustP [123] σ).fs.length := by rw [mustP_fs]
  have hsb : sB σ.fs = sB (mustP [123] σ).fs := by rw [mustP_fs]
  repeat' (first | (refine And.intro ?_ ?_) | (intro h; (try first | replace h := of_decide_eq_true h | replace h := of_decide_eq_false h); (try simp only [p_e, sg, hx1] at h); (try simp only [sx, ↓reduceIte, Nat.reduceAdd, reduceCtorEq, Int.reduceLT, Int.reduceLE, Int.reduceSub, Nat.reduceEqDiff, Nat.reduceLT] at h); try exact nz h))
  all_goals (try exact cz)
  refine ⟨fun m st => ∃ (f c : Nat) (τ : PS), (rloopP (roneP n d) f c τ = R ∧ (τ.e = 0 → τ.ws.length + 1 < f) ∧ c + f ≤ 5002 ∧ f = m ∧ Suf W τ ∧ τ.fs.length ≤ 40 ∧ 0 < τ.fs.length) ∧ (st = gL 1 W τ d c ∨ st = gL 2 W τ d c), ⟨_, gL 1 W (mustP [123] σ) d 0, reb_num [0, 1] (by first | rfl | kernel_rfl) ⟨.refl _, .refl _, .refl _, trivial⟩ ⟨⟨by decide, _, rfl, ?_⟩, ⟨by decide, _, rfl, ?_⟩, trivial⟩, (mustP [123] σ).ws.length + 2, 0, mustP [123] σ, ⟨hRv, fun _ => by omega, by omega, rfl, hS1, hl1, h01⟩, .inl rfl⟩, ?_⟩
  · rw [hmu]; exact .refl _
  · rw [hmu]; exact wkB_same (fF _)
  rintro m st ⟨f, c, τ, ⟨hr, hf, hcf, rfl, hSt, hlt, h0t⟩, hst⟩
  have haw := at_word hSt
  have hal := hSt.l
  have hWn := hSt.n
  have hx2 : eqb (asS ((encS (W.getD (W.length - τ.ws.length) [])).getD 0 AVal.any)) [125] = decide (τ.ws.headD [] = [125]) := by
    rw [haw]; exact eqb_eq _ _
  have hax : W.length - τ.ws.length < W.length ↔ 0 < τ.ws.length := by omega
  have hkp := mustP_fs [125] τ
  have hSm : Suf W (mustP [125] τ) := hSt.must
  rcases hst with rfl | rfl
  · -- form 1
    by_cases he : τ.e = 0
    · by_cases hc : c = 0
      · skip
        have hgo : c = 0 ∨ (τ.ws ≠ [] ∧ τ.ws.headD [] ≠ [125]) := .inl hc
        repeat' (first | (refine And.intro ?_ ?_) | (intro h; (try first | replace h := of_decide_eq_true h | replace h := of_decide_eq_false h); (try simp only [p_e, sg, hx1] at h); (try simp only [sx, ↓reduceIte, Nat.reduceAdd, reduceCtorEq, Int.reduceLT, Int.reduceLE, Int.reduceSub, Nat.reduceEqDiff, Nat.reduceLT] at h); try exact nz h))
        all_goals (try exact cz)
        rw [show 1 + 1 + 28 * RR = 120259084290 from rfl]
        have hyes : τ.e = 0 ∧ (c = 0 ∨ (τ.ws ≠ [] ∧ τ.ws.headD [] ≠ [125])) := ⟨he, hgo⟩
        obtain ⟨f, rfl⟩ : ∃ f', f = f' + 1 := ⟨f - 1, by have := hf he; omega⟩
        rw [rloopP, if_pos hyes] at hr
        have hok := rone_ok n d τ hlt hSt
        have hdec := fun h => rone_dec (n := n) (d := d) (σ := τ) hnd hd9 h
        have hff := hf he
        refine ⟨[0, 1], [.ptr 0 0 0, .int .i64 d], rH 1 W τ, rfl, ⟨.refl _, .refl _, trivial⟩, ⟨⟨by decide, _, rfl, .refl _⟩, ⟨by decide, _, rfl, wkB_same (fF _)⟩, trivial⟩, W, τ, d, rfl, rfl, rfl, ⟨hSt, hW, hlt, h0t, hd0, hd9, hnd⟩, ?_⟩
        have h0u := Nat.lt_of_lt_of_le h0t hok.up
        generalize roneP n d τ = υ at *
        refine ⟨?_, ?_⟩
        · repeat' (first | (refine And.intro ?_ ?_) | (intro h; (try first | replace h := of_decide_eq_true h | replace h := of_decide_eq_false h); (try simp only [p_e, sg, hx1] at h); (try simp only [sx, ↓reduceIte, Nat.reduceAdd, reduceCtorEq, Int.reduceLT, Int.reduceLE, Int.reduceSub, Nat.reduceEqDiff, Nat.reduceLT] at h); try exact nz h))
          all_goals (try exact cz)
          exact ⟨_, gL 1 W υ d (c + 1), reb_num [0, 1] (by first | rfl | kernel_rfl) ⟨.refl _, .refl _, wk_int (by omega), trivial⟩ ⟨⟨by decide, _, rfl, .refl _⟩, ⟨by decide, _, rfl, wkB_eq (ren_mapF _ _) (fF _)⟩, trivial⟩, ⟨f, c + 1, υ, ⟨hr, fun h => by have := hdec h; omega, by omega, rfl, hok.suf, hok.top, h0u⟩, .inl rfl⟩, by omega⟩
        · repeat' (first | (refine And.intro ?_ ?_) | (intro h; (try first | replace h := of_decide_eq_true h | replace h := of_decide_eq_false h); (try simp only [p_e, sg, hx1] at h); (try simp only [sx, ↓reduceIte, Nat.reduceAdd, reduceCtorEq, Int.reduceLT, Int.reduceLE, Int.reduceSub, Nat.reduceEqDiff, Nat.reduceLT] at h); try exact nz h))
          all_goals (try exact cz)
          exact ⟨_, gL 2 W υ d (c + 1), reb_num [0, 1, 120259084292] (by first | rfl | kernel_rfl) ⟨.refl _, .refl _, wk_int (by omega), trivial⟩ ⟨⟨by decide, _, rfl, .refl _⟩, ⟨by decide, _, rfl, wkB_eq (ren_mapF _ _) (fF _)⟩, trivial⟩, ⟨f, c + 1, υ, ⟨hr, fun h => by have := hdec h; omega, by omega, rfl, hok.suf, hok.top, h0u⟩, .inr rfl⟩, by omega⟩
      · by_cases hw : τ.ws.length = 0
        · have hno : ¬ (τ.e = 0 ∧ (c = 0 ∨ (τ.ws ≠ [] ∧ τ.ws.headD [] ≠ [125]))) := fun h => h.2.elim hc fun h => h.1 (List.eq_nil_of_length_eq_zero hw)
          repeat' (first | (refine And.intro ?_ ?_) | (intro h; (try first | replace h := of_decide_eq_true h | replace h := of_decide_eq_false h); (try simp only [p_e, sg, hx1] at h); (try simp only [sx, ↓reduceIte, Nat.reduceAdd, reduceCtorEq, Int.reduceLT, Int.reduceLE, Int.reduceSub, Nat.reduceEqDiff, Nat.reduceLT] at h); try exact nz h))
          all_goals (try exact cz)
          rw [show 1 + 1 + 28 * RR = 120259084290 from rfl]
          refine ⟨[0, 1], [.ptr 0 0 0, .str [125]], [(0, rP W τ (.slice 1 0 τ.fs.length 4 none))], rfl, ⟨.refl _, .refl _, trivial⟩, ⟨⟨by decide, _, rfl, .refl _⟩, trivial⟩, W, τ, .slice 1 0 τ.fs.length 4 none, [125], rfl, rfl, rfl, ⟨svOk_slice _ _ _ _, hSt⟩, ?_⟩
          skip
          obtain ⟨kw, ke, hk⟩ := ps_fs hkp
          rw [← hr, rloop_end (show ¬ (τ.e = 0 ∧ (c = 0 ∨ (τ.ws ≠ [] ∧ τ.ws.headD [] ≠ [125]))) from hno)] at hP1 hP2
          simp only at hP1 hP2
          rw [hk] at hP1 hP2 ⊢
          repeat' (first | (refine And.intro ?_ ?_) | (intro h; (try first | replace h := of_decide_eq_true h | replace h := of_decide_eq_false h); (try simp only [p_e, sg, hx1] at h); (try simp only [sx, ↓reduceIte, Nat.reduceAdd, reduceCtorEq, Int.reduceLT, Int.reduceLE, Int.reduceSub, Nat.reduceEqDiff, Nat.reduceLT] at h); try exact nz h))
          all_goals (try exact cz)
          exact ⟨⟨[(4, .int .i64 (c : Nat))], rH 1 W ⟨kw, τ.fs, ke⟩, 2⟩, reb_num [0, 1] (by first | rfl | kernel_rfl) ⟨.refl _, trivial⟩ ⟨⟨by decide, _, rfl, .refl _⟩, ⟨by decide, _, rfl, wkB_same (fF _)⟩, trivial⟩, _, rfl, hP1⟩
        · by_cases hq : τ.ws.headD [] = [125]
          · have hno : ¬ (τ.e = 0 ∧ (c = 0 ∨ (τ.ws ≠ [] ∧ τ.ws.headD [] ≠ [125]))) := fun h => h.2.elim hc fun h => h.2 hq
            have hx1 := hx2.trans (decide_eq_true hq)
            repeat' (first | (refine And.intro ?_ ?_) | (intro h; (try first | replace h := of_decide_eq_true h | replace h := of_decide_eq_false h); (try simp only [p_e, sg, hx1] at h); (try simp only [sx, ↓reduceIte, Nat.reduceAdd, reduceCtorEq, Int.reduceLT, Int.reduceLE, Int.reduceSub, Nat.reduceEqDiff, Nat.reduceLT] at h); try exact nz h))
            all_goals (try exact cz)
            rw [show 1 + 1 + 28 * RR = 120259084290 from rfl]
            refine ⟨[0, 1], [.ptr 0 0 0, .str [125]], [(0, rP W τ (.slice 1 0 τ.fs.length 4 none))], rfl, ⟨.refl _, .refl _, trivial⟩, ⟨⟨by decide, _, rfl, .refl _⟩, trivial⟩, W, τ, .slice 1 0 τ.fs.length 4 none, [125], rfl, rfl, rfl, ⟨svOk_slice _ _ _ _, hSt⟩, ?_⟩
            skip
            obtain ⟨kw, ke, hk⟩ := ps_fs hkp
            rw [← hr, rloop_end (show ¬ (τ.e = 0 ∧ (c = 0 ∨ (τ.ws ≠ [] ∧ τ.ws.headD [] ≠ [125]))) from hno)] at hP1 hP2
            simp only at hP1 hP2
            rw [hk] at hP1 hP2 ⊢
            repeat' (first | (refine And.intro ?_ ?_) | (intro h; (try first | replace h := of_decide_eq_true h | replace h := of_decide_eq_false h); (try simp only [p_e, sg, hx1] at h); (try simp only [sx, ↓reduceIte, Nat.reduceAdd, reduceCtorEq, Int.reduceLT, Int.reduceLE, Int.reduceSub, Nat.reduceEqDiff, Nat.reduceLT] at h); try exact nz h))
            all_goals (try exact cz)
            exact ⟨⟨[(4, .int .i64 (c : Nat))], rH 1 W ⟨kw, τ.fs, ke⟩, 2⟩, reb_num [0, 1] (by first | rfl | kernel_rfl) ⟨.refl _, trivial⟩ ⟨⟨by decide, _, rfl, .refl _⟩, ⟨by decide, _, rfl, wkB_same (fF _)⟩, trivial⟩, _, rfl, hP1⟩
          · have hgo : c = 0 ∨ (τ.ws ≠ [] ∧ τ.ws.headD [] ≠ [125]) := .inr ⟨fun h => hw (by rw [h]; rfl), hq⟩
            have hx1 := hx2.trans (decide_eq_false hq)
            repeat' (first | (refine And.intro ?_ ?_) | (intro h; (try first | replace h := of_decide_eq_true h | replace h := of_decide_eq_false h); (try simp only [p_e, sg, hx1] at h); (try simp only [sx, ↓reduceIte, Nat.reduceAdd, reduceCtorEq, Int.reduceLT, Int.reduceLE, Int.reduceSub, Nat.reduceEqDiff, Nat.reduceLT] at h); try exact nz h))
            all_goals (try exact cz)
            rw [show 1 + 1 + 28 * RR = 120259084290 from rfl]
            have hyes : τ.e = 0 ∧ (c = 0 ∨ (τ.ws ≠ [] ∧ τ.ws.headD [] ≠ [125])) := ⟨he, hgo⟩
            obtain ⟨f, rfl⟩ : ∃ f', f = f' + 1 := ⟨f - 1, by have := hf he; omega⟩
            rw [rloopP, if_pos hyes] at hr
            have hok := rone_ok n d τ hlt hSt
            have hdec := fun h => rone_dec (n := n) (d := d) (σ := τ) hnd hd9 h
            have hff := hf he
            refine ⟨[0, 1], [.ptr 0 0 0, .int .i64 d], rH 1 W τ, rfl, ⟨.refl _, .refl _, trivial⟩, ⟨⟨by decide, _, rfl, .refl _⟩, ⟨by decide, _, rfl, wkB_same (fF _)⟩, trivial⟩, W, τ, d, rfl, rfl, rfl, ⟨hSt, hW, hlt, h0t, hd0, hd9, hnd⟩, ?_⟩
            have h0u := Nat.lt_of_lt_of_le h0t hok.up
            generalize roneP n d τ = υ at *
            refine ⟨?_, ?_⟩
            · repeat' (first | (refine And.intro ?_ ?_) | (intro h; (try first | replace h := of_decide_eq_true h | replace h := of_decide_eq_false h); (try simp only [p_e, sg, hx1] at h); (try simp only [sx, ↓reduceIte, Nat.reduceAdd, reduceCtorEq, Int.reduceLT, Int.reduceLE, Int.reduceSub, Nat.reduceEqDiff, Nat.reduceLT] at h); try exact nz h))
              all_goals (try exact cz)
              exact ⟨_, gL 1 W υ d (c + 1), reb_num [0, 1] (by first | rfl | kernel_rfl) ⟨.refl _, .refl _, wk_int (by omega), trivial⟩ ⟨⟨by decide, _, rfl, .refl _⟩, ⟨by decide, _, rfl, wkB_eq (ren_mapF _ _) (fF _)⟩, trivial⟩, ⟨f, c + 1, υ, ⟨hr, fun h => by have := hdec h; omega, by omega, rfl, hok.suf, hok.top, h0u⟩, .inl rfl⟩, by omega⟩
            · repeat' (first | (refine And.intro ?_ ?_) | (intro h; (try first | replace h := of_decide_eq_true h | replace h := of_decide_eq_false h); (try simp only [p_e, sg, hx1] at h); (try simp only [sx, ↓reduceIte, Nat.reduceAdd, reduceCtorEq, Int.reduceLT, Int.reduceLE, Int.reduceSub, Nat.reduceEqDiff, Nat.reduceLT] at h); try exact nz h))
              all_goals (try exact cz)
              exact ⟨_, gL 2 W υ d (c + 1), reb_num [0, 1, 120259084292] (by first | rfl | kernel_rfl) ⟨.refl _, .refl _, wk_int (by omega), trivial⟩ ⟨⟨by decide, _, rfl, .refl _⟩, ⟨by decide, _, rfl, wkB_eq (ren_mapF _ _) (fF _)⟩, trivial⟩, ⟨f, c + 1, υ, ⟨hr, fun h => by have := hdec h; omega, by omega, rfl, hok.suf, hok.top, h0u⟩, .inr rfl⟩, by omega⟩
    · have hno : ¬ (τ.e = 0 ∧ (c = 0 ∨ (τ.ws ≠ [] ∧ τ.ws.headD [] ≠ [125]))) := fun h => he h.1
      repeat' (first | (refine And.intro ?_ ?_) | (intro h; (try first | replace h := of_decide_eq_true h | replace h := of_decide_eq_false h); (try simp only [p_e, sg, hx1] at h); (try simp only [sx, ↓reduceIte, Nat.reduceAdd, reduceCtorEq, Int.reduceLT, Int.reduceLE, Int.reduceSub, Nat.reduceEqDiff, Nat.reduceLT] at h); try exact nz h))
      all_goals (try exact cz)
      rw [show 1 + 1 + 28 * RR = 120259084290 from rfl]
      refine ⟨[0, 1], [.ptr 0 0 0, .str [125]], [(0, rP W τ (.slice 1 0 τ.fs.length 4 none))], rfl, ⟨.refl _, .refl _, trivial⟩, ⟨⟨by decide, _, rfl, .refl _⟩, trivial⟩, W, τ, .slice 1 0 τ.fs.length 4 none, [125], rfl, rfl, rfl, ⟨svOk_slice _ _ _ _, hSt⟩, ?_⟩
      skip
      obtain ⟨kw, ke, hk⟩ := ps_fs hkp
      rw [← hr, rloop_end (show ¬ (τ.e = 0 ∧ (c = 0 ∨ (τ.ws ≠ [] ∧ τ.ws.headD [] ≠ [125]))) from hno)] at hP1 hP2
      simp only at hP1 hP2
      rw [hk] at hP1 hP2 ⊢
      repeat' (first | (refine And.intro ?_ ?_) | (intro h; (try first | replace h := of_decide_eq_true h | replace h := of_decide_eq_false h); (try simp only [p_e, sg, hx1] at h); (try simp only [sx, ↓reduceIte, Nat.reduceAdd, reduceCtorEq, Int.reduceLT, Int.reduceLE, Int.reduceSub, Nat.reduceEqDiff, Nat.reduceLT] at h); try exact nz h))
      all_goals (try exact cz)
      exact ⟨⟨[(4, .int .i64 (c : Nat))], rH 1 W ⟨kw, τ.fs, ke⟩, 2⟩, reb_num [0, 1] (by first | rfl | kernel_rfl) ⟨.refl _, trivial⟩ ⟨⟨by decide, _, rfl, .refl _⟩, ⟨by decide, _, rfl, wkB_same (fF _)⟩, trivial⟩, _, rfl, hP1⟩
  · -- form 2
    by_cases he : τ.e = 0
    · by_cases hc : c = 0
      · skip
        have hgo : c = 0 ∨ (τ.ws ≠ [] ∧ τ.ws.headD [] ≠ [125]) := .inl hc
        repeat' (first | (refine And.intro ?_ ?_) | (intro h; (try first | replace h := of_decide_eq_true h | replace h := of_decide_eq_false h); (try simp only [p_e, sg, hx1] at h); (try simp only [sx, ↓reduceIte, Nat.reduceAdd, reduceCtorEq, Int.reduceLT, Int.reduceLE, Int.reduceSub, Nat.reduceEqDiff, Nat.reduceLT] at h); try exact nz h))
        all_goals (try exact cz)
        rw [show 2 + 1 + 28 * RR = 120259084291 from rfl]
        have hyes : τ.e = 0 ∧ (c = 0 ∨ (τ.ws ≠ [] ∧ τ.ws.headD [] ≠ [125])) := ⟨he, hgo⟩
        obtain ⟨f, rfl⟩ : ∃ f', f = f' + 1 := ⟨f - 1, by have := hf he; omega⟩
        rw [rloopP, if_pos hyes] at hr
        have hok := rone_ok n d τ hlt hSt
        have hdec := fun h => rone_dec (n := n) (d := d) (σ := τ) hnd hd9 h
        have hff := hf he
        refine ⟨[0, 2], [.ptr 0 0 0, .int .i64 d], rH 1 W τ, rfl, ⟨.refl _, .refl _, trivial⟩, ⟨⟨by decide, _, rfl, .refl _⟩, ⟨by decide, _, rfl, wkB_same (fF _)⟩, trivial⟩, W, τ, d, rfl, rfl, rfl, ⟨hSt, hW, hlt, h0t, hd0, hd9, hnd⟩, ?_⟩
        have h0u := Nat.lt_of_lt_of_le h0t hok.up
        generalize roneP n d τ = υ at *
        refine ⟨?_, ?_⟩
        · repeat' (first | (refine And.intro ?_ ?_) | (intro h; (try first | replace h := of_decide_eq_true h | replace h := of_decide_eq_false h); (try simp only [p_e, sg, hx1] at h); (try simp only [sx, ↓reduceIte, Nat.reduceAdd, reduceCtorEq, Int.reduceLT, Int.reduceLE, Int.reduceSub, Nat.reduceEqDiff, Nat.reduceLT] at h); try exact nz h))
          all_goals (try exact cz)
          exact ⟨_, gL 2 W υ d (c + 1), reb_num [0, 1, 2] (by first | rfl | kernel_rfl) ⟨.refl _, .refl _, wk_int (by omega), trivial⟩ ⟨⟨by decide, _, rfl, .refl _⟩, ⟨by decide, _, rfl, wkB_eq (ren_mapF _ _) (fF _)⟩, trivial⟩, ⟨f, c + 1, υ, ⟨hr, fun h => by have := hdec h; omega, by omega, rfl, hok.suf, hok.top, h0u⟩, .inr rfl⟩, by omega⟩
        · repeat' (first | (refine And.intro ?_ ?_) | (intro h; (try first | replace h := of_decide_eq_true h | replace h := of_decide_eq_false h); (try simp only [p_e, sg, hx1] at h); (try simp only [sx, ↓reduceIte, Nat.reduceAdd, reduceCtorEq, Int.reduceLT, Int.reduceLE, Int.reduceSub, Nat.reduceEqDiff, Nat.reduceLT] at h); try exact nz h))
          all_goals (try exact cz)
          exact ⟨_, gL 2 W υ d (c + 1), reb_num [0, 1, 120259084293] (by first | rfl | kernel_rfl) ⟨.refl _, .refl _, wk_int (by omega), trivial⟩ ⟨⟨by decide, _, rfl, .refl _⟩, ⟨by decide, _, rfl, wkB_eq (ren_mapF _ _) (fF _)⟩, trivial⟩, ⟨f, c + 1, υ, ⟨hr, fun h => by have := hdec h; omega, by omega, rfl, hok.suf, hok.top, h0u⟩, .inr rfl⟩, by omega⟩
      · by_cases hw : τ.ws.length = 0
        · have hno : ¬ (τ.e = 0 ∧ (c = 0 ∨ (τ.ws ≠ [] ∧ τ.ws.headD [] ≠ [125]))) := fun h => h.2.elim hc fun h => h.1 (List.eq_nil_of_length_eq_zero hw)
          repeat' (first | (refine And.intro ?_ ?_) | (intro h; (try first | replace h := of_decide_eq_true h | replace h := of_decide_eq_false h); (try simp only [p_e, sg, hx1] at h); (try simp only [sx, ↓reduceIte, Nat.reduceAdd, reduceCtorEq, Int.reduceLT, Int.reduceLE, Int.reduceSub, Nat.reduceEqDiff, Nat.reduceLT] at h); try exact nz h))
          all_goals (try exact cz)
          rw [show 2 + 1 + 28 * RR = 120259084291 from rfl]
          refine ⟨[0, 2], [.ptr 0 0 0, .str [125]], [(0, rP W τ (.slice 1 0 τ.fs.length 4 none))], rfl, ⟨.refl _, .refl _, trivial⟩, ⟨⟨by decide, _, rfl, .refl _⟩, trivial⟩, W, τ, .slice 1 0 τ.fs.length 4 none, [125], rfl, rfl, rfl, ⟨svOk_slice _ _ _ _, hSt⟩, ?_⟩
          skip
          obtain ⟨kw, ke, hk⟩ := ps_fs hkp
          rw [← hr, rloop_end (show ¬ (τ.e = 0 ∧ (c = 0 ∨ (τ.ws ≠ [] ∧ τ.ws.headD [] ≠ [125]))) from hno)] at hP1 hP2
          simp only at hP1 hP2
          rw [hk] at hP1 hP2 ⊢
          repeat' (first | (refine And.intro ?_ ?_) | (intro h; (try first | replace h := of_decide_eq_true h | replace h := of_decide_eq_false h); (try simp only [p_e, sg, hx1] at h); (try simp only [sx, ↓reduceIte, Nat.reduceAdd, reduceCtorEq, Int.reduceLT, Int.reduceLE, Int.reduceSub, Nat.reduceEqDiff, Nat.reduceLT] at h); try exact nz h))
          all_goals (try exact cz)
          exact ⟨⟨[(4, .int .i64 (c : Nat))], rH 2 W ⟨kw, τ.fs, ke⟩, 3⟩, reb_num [0, 1, 2] (by first | rfl | kernel_rfl) ⟨.refl _, trivial⟩ ⟨⟨by decide, _, rfl, .refl _⟩, ⟨by decide, _, rfl, wkB_same (fF _)⟩, trivial⟩, _, rfl, hP2⟩
        · by_cases hq : τ.ws.headD [] = [125]
          · have hno : ¬ (τ.e = 0 ∧ (c = 0 ∨ (τ.ws ≠ [] ∧ τ.ws.headD [] ≠ [125]))) := fun h => h.2.elim hc fun h => h.2 hq
            have hx1 := hx2.trans (decide_eq_true hq)
            repeat' (first | (refine And.intro ?_ ?_) | (intro h; (try first | replace h := of_decide_eq_true h | replace h := of_decide_eq_false h); (try simp only [p_e, sg, hx1] at h); (try simp only [sx, ↓reduceIte, Nat.reduceAdd, reduceCtorEq, Int.reduceLT, Int.reduceLE, Int.reduceSub, Nat.reduceEqDiff, Nat.reduceLT] at h); try exact nz h))
            all_goals (try exact cz)
            rw [show 2 + 1 + 28 * RR = 120259084291 from rfl]
            refine ⟨[0, 2], [.ptr 0 0 0, .str [125]], [(0, rP W τ (.slice 1 0 τ.fs.length 4 none))], rfl, ⟨.refl _, .refl _, trivial⟩, ⟨⟨by decide, _, rfl, .refl _⟩, trivial⟩, W, τ, .slice 1 0 τ.fs.length 4 none, [125], rfl, rfl, rfl, ⟨svOk_slice _ _ _ _, hSt⟩, ?_⟩
            skip
            obtain ⟨kw, ke, hk⟩ := ps_fs hkp
            rw [← hr, rloop_end (show ¬ (τ.e = 0 ∧ (c = 0 ∨ (τ.ws ≠ [] ∧ τ.ws.headD [] ≠ [125]))) from hno)] at hP1 hP2
            simp only at hP1 hP2
            rw [hk] at hP1 hP2 ⊢
            repeat' (first | (refine And.intro ?_ ?_) | (intro h; (try first | replace h := of_decide_eq_true h | replace h := of_decide_eq_false h); (try simp only [p_e, sg, hx1] at h); (try simp only [sx, ↓reduceIte, Nat.reduceAdd, reduceCtorEq, Int.reduceLT, Int.reduceLE, Int.reduceSub, Nat.reduceEqDiff, Nat.reduceLT] at h); try exact nz h))
            all_goals (try exact cz)
            exact ⟨⟨[(4, .int .i64 (c : Nat))], rH 2 W ⟨kw, τ.fs, ke⟩, 3⟩, reb_num [0, 1, 2] (by first | rfl | kernel_rfl) ⟨.refl _, trivial⟩ ⟨⟨by decide, _, rfl, .refl _⟩, ⟨by decide, _, rfl, wkB_same (fF _)⟩, trivial⟩, _, rfl, hP2⟩
          · have hgo : c = 0 ∨ (τ.ws ≠ [] ∧ τ.ws.headD [] ≠ [125]) := .inr ⟨fun h => hw (by rw [h]; rfl), hq⟩
            have hx1 := hx2.trans (decide_eq_false hq)
            repeat' (first | (refine And.intro ?_ ?_) | (intro h; (try first | replace h := of_decide_eq_true h | replace h := of_decide_eq_false h); (try simp only [p_e, sg, hx1] at h); (try simp only [sx, ↓reduceIte, Nat.reduceAdd, reduceCtorEq, Int.reduceLT, Int.reduceLE, Int.reduceSub, Nat.reduceEqDiff, Nat.reduceLT] at h); try exact nz h))
            all_goals (try exact cz)
            rw [show 2 + 1 + 28 * RR = 120259084291 from rfl]
            have hyes : τ.e = 0 ∧ (c = 0 ∨ (τ.ws ≠ [] ∧ τ.ws.headD [] ≠ [125])) := ⟨he, hgo⟩
            obtain ⟨f, rfl⟩ : ∃ f', f = f' + 1 := ⟨f - 1, by have := hf he; omega⟩
            rw [rloopP, if_pos hyes] at hr
            have hok := rone_ok n d τ hlt hSt
            have hdec := fun h => rone_dec (n := n) (d := d) (σ := τ) hnd hd9 h
            have hff := hf he
            refine ⟨[0, 2], [.ptr 0 0 0, .int .i64 d], rH 1 W τ, rfl, ⟨.refl _, .refl _, trivial⟩, ⟨⟨by decide, _, rfl, .refl _⟩, ⟨by decide, _, rfl, wkB_same (fF _)⟩, trivial⟩, W, τ, d, rfl, rfl, rfl, ⟨hSt, hW, hlt, h0t, hd0, hd9, hnd⟩, ?_⟩
            have h0u := Nat.lt_of_lt_of_le h0t hok.up
            generalize roneP n d τ = υ at *
            refine ⟨?_, ?_⟩
            · repeat' (first | (refine And.intro ?_ ?_) | (intro h; (try first | replace h := of_decide_eq_true h | replace h := of_decide_eq_false h); (try simp only [p_e, sg, hx1] at h); (try simp only [sx, ↓reduceIte, Nat.reduceAdd, reduceCtorEq, Int.reduceLT, Int.reduceLE, Int.reduceSub, Nat.reduceEqDiff, Nat.reduceLT] at h); try exact nz h))
              all_goals (try exact cz)
              exact ⟨_, gL 2 W υ d (c + 1), reb_num [0, 1, 2] (by first | rfl | kernel_rfl) ⟨.refl _, .refl _, wk_int (by omega), trivial⟩ ⟨⟨by decide, _, rfl, .refl _⟩, ⟨by decide, _, rfl, wkB_eq (ren_mapF _ _) (fF _)⟩, trivial⟩, ⟨f, c + 1, υ, ⟨hr, fun h => by have := hdec h; omega, by omega, rfl, hok.suf, hok.top, h0u⟩, .inr rfl⟩, by omega⟩
            · repeat' (first | (refine And.intro ?_ ?_) | (intro h; (try first | replace h := of_decide_eq_true h | replace h := of_decide_eq_false h); (try simp only [p_e, sg, hx1] at h); (try simp only [sx, ↓reduceIte, Nat.reduceAdd, reduceCtorEq, Int.reduceLT, Int.reduceLE, Int.reduceSub, Nat.reduceEqDiff, Nat.reduceLT] at h); try exact nz h))
              all_goals (try exact cz)
              exact ⟨_, gL 2 W υ d (c + 1), reb_num [0, 1, 120259084293] (by first | rfl | kernel_rfl) ⟨.refl _, .refl _, wk_int (by omega), trivial⟩ ⟨⟨by decide, _, rfl, .refl _⟩, ⟨by decide, _, rfl, wkB_eq (ren_mapF _ _) (fF _)⟩, trivial⟩, ⟨f, c + 1, υ, ⟨hr, fun h => by have := hdec h; omega, by omega, rfl, hok.suf, hok.top, h0u⟩, .inr rfl⟩, by omega⟩
    · have hno : ¬ (τ.e = 0 ∧ (c = 0 ∨ (τ.ws ≠ [] ∧ τ.ws.headD [] ≠ [125]))) := fun h => he h.1
      repeat' (first | (refine And.intro ?_ ?_) | (intro h; (try first | replace h := of_decide_eq_true h | replace h := of_decide_eq_false h); (try simp only [p_e, sg, hx1] at h); (try simp only [sx, ↓reduceIte, Nat.reduceAdd, reduceCtorEq, Int.reduceLT, Int.reduceLE, Int.reduceSub, Nat.reduceEqDiff, Nat.reduceLT] at h); try exact nz h))
      all_goals (try exact cz)
      rw [show 2 + 1 + 28 * RR = 120259084291 from rfl]
      refine ⟨[0, 2], [.ptr 0 0 0, .str [125]], [(0, rP W τ (.slice 1 0 τ.fs.length 4 none))], rfl, ⟨.refl _, .refl _, trivial⟩, ⟨⟨by decide, _, rfl, .refl _⟩, trivial⟩, W, τ, .slice 1 0 τ.fs.length 4 none, [125], rfl, rfl, rfl, ⟨svOk_slice _ _ _ _, hSt⟩, ?_⟩
      skip
      obtain ⟨kw, ke, hk⟩ := ps_fs hkp
      rw [← hr, rloop_end (show ¬ (τ.e = 0 ∧ (c = 0 ∨ (τ.ws ≠ [] ∧ τ.ws.headD [] ≠ [125]))) from hno)] at hP1 hP2
      simp only at hP1 hP2
      rw [hk] at hP1 hP2 ⊢
      repeat' (first | (refine And.intro ?_ ?_) | (intro h; (try first | replace h := of_decide_eq_true h | replace h := of_decide_eq_false h); (try simp only [p_e, sg, hx1] at h); (try simp only [sx, ↓reduceIte, Nat.reduceAdd, reduceCtorEq, Int.reduceLT, Int.reduceLE, Int.reduceSub, Nat.reduceEqDiff, Nat.reduceLT] at h); try exact nz h))
      all_goals (try exact cz)
      exact ⟨⟨[(4, .int .i64 (c : Nat))], rH 2 W ⟨kw, τ.fs, ke⟩, 3⟩, reb_num [0, 1, 2] (by first | rfl | kernel_rfl) ⟨.refl _, trivial⟩ ⟨⟨by decide, _, rfl, .refl _⟩, ⟨by decide, _, rfl, wkB_same (fF _)⟩, trivial⟩, _, rfl, hP2⟩
theorem group_ok [Syms] {n : Nat} (h : (S_one n).ok Try.prog 50) : (S_group n).ok Try.prog 31 := by
  rintro args H nx Post ⟨W, σ, d, rfl, rfl, rfl, ⟨h1, h2, h3, h4, h5, h6, h7⟩, h8, h9⟩
  exact fnT_sound tys_ok fns_ok noneT_det (cRGr_ok h) mixed (group_t n W σ d h1 h2 h3 h4 h5 h6 h7 h8 h9)
end Go.Proofs.Ytjffmehcbaechaa
