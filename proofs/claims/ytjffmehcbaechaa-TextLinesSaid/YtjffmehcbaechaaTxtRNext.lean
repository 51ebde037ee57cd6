/-
  The document's parser, its small steps: 'fail', 'next', 'must'; 'which'.
-/
import Derived.Test.YtjffmehcbaechaaTxtRWords
import Derived.Test.YtjffmehcbaechaaTxtParse
import Derived.Test.YtjffmehcbaechaaTxtRefP
set_option linter.unusedVariables false
set_option linter.unusedSimpArgs false
namespace Go.Proofs.Ytjffmehcbaechaa
open Go Go.Av
set_option maxRecDepth 100000
set_option maxHeartbeats 1000000
theorem rtwords_ok [Syms] : ImmOk Try.prog 28 S_words := by
  rintro args K ⟨s, rfl, h, hn, hs⟩
  cases hw : wordsF s with
  | none => exact ⟨rfl, _, rfl, hn hw, fnI tys_ok fns_ok noneT_det cSg_ok mixed (by have := rwords_t s h; rw [hw] at this; exact this)⟩
  | some l => exact ⟨rfl, _, rfl, hs l hw, fnI tys_ok fns_ok noneT_det cSg_ok mixed (by have := rwords_t s h; rw [hw] at this; exact this)⟩
/-- The document's parser: all words, at which, the fields, what is wrong. -/
def rP (W : List Wd) (σ : PS) (sv : AVal) : Option Blk := some (.cells [[vW W, .int .i64 ((W.length - σ.ws.length : Nat) : Int), sv, .int .i64 σ.e]] false)
theorem wkR {ρ : Nat → Nat} {W : List Wd} {a e : Int} {sv : AVal} {R : List (List AVal)} (h : R = [[vW W, .int .i64 a, sv, .int .i64 e]]) (hsv : sv.ren ρ = sv) : WkB (.cells R false) ((Blk.cells [[vW W, .int .i64 a, sv, .int .i64 e]] false).ren ρ) := by
  show WkB _ (.cells [[vW W, .int .i64 a, sv.ren ρ, .int .i64 e]] false)
  rw [hsv, h]
  exact .refl _
theorem rvRen {W : List Wd} {a e : Int} {sv : AVal} {nx : Nat} (h : SvOk sv) : List.map (AVal.renL (rho [0, 1] nx)) [[vW W, .int .i64 a, sv, AVal.int .i64 e]] = [[vW W, .int .i64 a, sv, .int .i64 e]] := by
  show [[vW W, .int .i64 a, sv.ren (rho [0, 1] nx), AVal.int .i64 e]] = _
  rw [h nx]
theorem rfail_t [Syms] {Post : AVal → Heap → Nat → Prop} (W : List Wd) (σ : PS) (sv : AVal) (x : Int) (hsv : SvOk sv) (hP : Post (.tup []) [(0, rP W (failP σ x) sv)] 2) :
    fnT noneT noneT (fnTab fns) (tyTab tys) (plTab plt) 100 32 [.ptr 0 0 0, .int .i64 x] [(0, rP W σ sv)] 2 Post := by
  obtain ⟨ws, fs, e⟩ := σ
  have hws : (failP (⟨ws, fs, e⟩ : PS) x).ws = ws := failP_ws _ _
  unfold rP at hP ⊢
  rw [hws] at hP
  show fnT noneT noneT (fnTab fns) (tyTab tys) (plTab plt) 100 32 [.ptr 0 0 0, .int .i64 x] [(0, some (.cells [[vW W, .int .i64 ((W.length - ws.length : Nat) : Int), sv, .int .i64 e]] false))] 2 Post
  generalize ((W.length - ws.length : Nat) : Int) = a at *
  by_cases h0 : e = 0
  · subst h0
    rw [failP, if_pos rfl] at hP
    repeat' (first | (refine And.intro ?_ ?_) | (intro h; (try first | replace h := of_decide_eq_true h | replace h := of_decide_eq_false h); (try simp only [sg] at h); (try simp only [sx, ↓reduceIte, Nat.reduceAdd, reduceCtorEq, Int.reduceLT, Int.reduceLE, Int.reduceSub, Nat.reduceEqDiff, Nat.reduceLT] at h); try exact nz h))
    all_goals (try exact cz)
    exact ⟨⟨[], [(0, some (.cells [[vW W, .int .i64 a, sv, .int .i64 x]] false))], 2⟩, reb_num [0, 1] (by first | rfl | kernel_rfl) trivial ⟨⟨by decide, _, rfl, wkR rfl (hsv _)⟩, trivial⟩, _, rfl, hP⟩
  · rw [failP, if_neg h0] at hP
    repeat' (first | (refine And.intro ?_ ?_) | (intro h; (try first | replace h := of_decide_eq_true h | replace h := of_decide_eq_false h); (try simp only [sg] at h); (try simp only [sx, ↓reduceIte, Nat.reduceAdd, reduceCtorEq, Int.reduceLT, Int.reduceLE, Int.reduceSub, Nat.reduceEqDiff, Nat.reduceLT] at h); try exact nz h))
    all_goals (try exact cz)
    exact ⟨⟨[], [(0, some (.cells [[vW W, .int .i64 a, sv, .int .i64 e]] false))], 2⟩, reb_num [0, 1] (by first | rfl | kernel_rfl) trivial ⟨⟨by decide, _, rfl, wkR rfl (hsv _)⟩, trivial⟩, _, rfl, hP⟩
def S_rfail : SpecT := fun args H nx Post => ∃ (W : List Wd) (σ : PS) (sv : AVal) (x : Int), args = [.ptr 0 0 0, .int .i64 x] ∧ H = [(0, rP W σ sv)] ∧ nx = 2 ∧ SvOk sv ∧ Post (.tup []) [(0, rP W (failP σ x) sv)] 2
theorem rfail_ok [Syms] : S_rfail.ok Try.prog 32 := by
  rintro args H nx Post ⟨W, σ, sv, x, rfl, rfl, rfl, h1, h2⟩
  exact fnT_sound tys_ok fns_ok noneT_det noneT_ok mixed (rfail_t W σ sv x h1 h2)
/-- What is left is the end of all words. -/
structure Suf (W : List Wd) (σ : PS) : Prop where
  s : σ.ws = W.drop (W.length - σ.ws.length)
  l : σ.ws.length ≤ W.length
  n : W.length ≤ 5000
theorem Suf.of {W : List Wd} {σ : PS} (h : W.length ≤ 5000) {k : Nat} (hk : k ≤ W.length) (hs : σ.ws = W.drop k) : Suf W σ := by
  have hl : σ.ws.length = W.length - k := by rw [hs, List.length_drop]
  exact ⟨by rw [hl, show W.length - (W.length - k) = k by omega]; exact hs, by omega, h⟩
theorem Suf.same {W : List Wd} {σ τ : PS} (h : Suf W σ) (hs : τ.ws = σ.ws) : Suf W τ := ⟨by rw [hs]; exact h.s, by rw [hs]; exact h.l, h.n⟩
theorem Suf.fail {W : List Wd} {σ : PS} {x : Int} (h : Suf W σ) : Suf W (failP σ x) := h.same (failP_ws σ x)
theorem Suf.next {W : List Wd} {σ : PS} (h : Suf W σ) : Suf W (nextP σ) := by
  unfold nextP
  split
  · exact h
  · have h1 : (⟨σ.ws.tail, σ.fs, σ.e⟩ : PS).ws = W.drop (W.length - σ.ws.length + 1) := by
      show σ.ws.tail = _
      rw [← List.drop_one, h.s, List.drop_drop, List.length_drop]
      congr 1
      have := h.l
      omega
    rcases Nat.lt_or_ge 0 σ.ws.length with hl | hl
    · exact Suf.of h.n (by have := h.l; omega) h1
    · have he : σ.ws = [] := List.eq_nil_of_length_eq_zero (by omega)
      exact h.same (show σ.ws.tail = σ.ws by rw [he]; rfl)
theorem Suf.must {W : List Wd} {σ : PS} {w : Wd} (h : Suf W σ) : Suf W (mustP w σ) := by
  unfold mustP
  split
  · exact h.next
  · exact h.next.fail
theorem wk_eq {a b : AVal} (h : a = b) : WkV a b := h ▸ .refl _
theorem rnext_t [Syms] {Post : AVal → Heap → Nat → Prop} (W : List Wd) (σ : PS) (sv : AVal) (hsv : SvOk sv) (hS : Suf W σ) (hP : Post (.str (nextW σ)) [(0, rP W (nextP σ) sv)] 2) :
    fnT noneT noneT (fnTab fns) (tyTab tys) (plTab plt) 100 48 [.ptr 0 0 0] [(0, rP W σ sv)] 2 Post := by
  obtain ⟨ws, fs, e⟩ := σ
  have hs := hS.s
  have hl := hS.l
  have hn := hS.n
  simp only at hs hl
  show fnT noneT noneT (fnTab fns) (tyTab tys) (plTab plt) 100 48 [.ptr 0 0 0] [(0, some (.cells [[vW W, .int .i64 ((W.length - ws.length : Nat) : Int), sv, .int .i64 e]] false))] 2 Post
  unfold rP at hP
  by_cases h0 : e = 0
  · subst h0
    have h1 : nextP (⟨ws, fs, 0⟩ : PS) = ⟨ws.tail, fs, 0⟩ := if_neg (fun h => h rfl)
    have h2 : nextW (⟨ws, fs, 0⟩ : PS) = ws.headD [] := if_neg (fun h => h rfl)
    rw [h1, h2] at hP
    obtain ⟨a, ha⟩ : ∃ a : Nat, W.length - ws.length = a := ⟨_, rfl⟩
    rw [ha] at hs ⊢
    by_cases hw : ws.length = 0
    · have he := List.eq_nil_of_length_eq_zero hw
      subst he
      simp only [List.tail_nil, List.headD_nil] at hP
      rw [ha] at hP
      have haw : a = W.length := by rw [← ha]; exact Nat.sub_zero _
      repeat' (first | (refine And.intro ?_ ?_) | (intro h; (try first | replace h := of_decide_eq_true h | replace h := of_decide_eq_false h); (try simp only [sg] at h); (try simp only [sx, ↓reduceIte, Nat.reduceAdd, reduceCtorEq, Int.reduceLT, Int.reduceLE, Int.reduceSub, Nat.reduceEqDiff, Nat.reduceLT] at h); try exact nz h))
      all_goals (try exact cz)
      all_goals exact ⟨⟨[(2, .str [])], [(0, some (.cells [[vW W, .int .i64 (a : Nat), sv, .int .i64 0]] false))], 2⟩, reb_num [0, 1] (by first | rfl | kernel_rfl) ⟨.refl _, trivial⟩ ⟨⟨by decide, _, rfl, wkR rfl (hsv _)⟩, trivial⟩, _, rfl, hP⟩
    · have hh : ws.headD [] = W.getD a [] := by
        rw [hs, List.headD_eq_head?_getD, List.head?_drop, List.getD_eq_getElem?_getD]
      have htl : W.length - ws.tail.length = a + 1 := by rw [List.length_tail]; omega
      rw [htl, hh] at hP
      have hal : a < W.length := by omega
      repeat' (first | (refine And.intro ?_ ?_) | (intro h; (try first | replace h := of_decide_eq_true h | replace h := of_decide_eq_false h); (try simp only [sg] at h); (try simp only [sx, ↓reduceIte, Nat.reduceAdd, reduceCtorEq, Int.reduceLT, Int.reduceLE, Int.reduceSub, Nat.reduceEqDiff, Nat.reduceLT] at h); try exact nz h))
      all_goals (try exact cz)
      · show (-9223372036854775808 : Int) ≤ ((a : Nat) : Int) + 1 - 1; omega
      · show ((a : Nat) : Int) + 1 - 1 ≤ 9223372036854775807; omega
      · show (0 : Int) ≤ ((a : Nat) : Int) + 1 - 1; omega
      · show ((a : Nat) : Int) + 1 - 1 < (W.length : Int); omega
      refine ⟨⟨[(2, .str (W.getD a []))], [(0, some (.cells [[vW W, .int .i64 ((a + 1 : Nat) : Int), sv, .int .i64 0]] false))], 2⟩, reb_num [0, 1] (by first | rfl | kernel_rfl) ⟨wk_eq ?_, trivial⟩ ⟨⟨by decide, _, rfl, wkR ?_ (hsv _)⟩, trivial⟩, _, rfl, hP⟩
      · show AVal.str (W.getD (((a : Nat) : Int) + 1 - 1).toNat []) = _
        rw [show (((a : Nat) : Int) + 1 - 1).toNat = a by omega]
        rfl
      · rfl
  · have h1 : nextW ⟨ws, fs, e⟩ = [] := if_pos h0
    have h2 : nextP ⟨ws, fs, e⟩ = ⟨ws, fs, e⟩ := if_pos h0
    rw [h1, h2] at hP
    simp only at hP
    generalize ((W.length - ws.length : Nat) : Int) = a at *
    repeat' (first | (refine And.intro ?_ ?_) | (intro h; (try first | replace h := of_decide_eq_true h | replace h := of_decide_eq_false h); (try simp only [sg] at h); (try simp only [sx, ↓reduceIte, Nat.reduceAdd, reduceCtorEq, Int.reduceLT, Int.reduceLE, Int.reduceSub, Nat.reduceEqDiff, Nat.reduceLT] at h); try exact nz h))
    all_goals (try exact cz)
    all_goals exact ⟨⟨[(2, .str [])], [(0, some (.cells [[vW W, .int .i64 a, sv, .int .i64 e]] false))], 2⟩, reb_num [0, 1] (by first | rfl | kernel_rfl) ⟨.refl _, trivial⟩ ⟨⟨by decide, _, rfl, wkR rfl (hsv _)⟩, trivial⟩, _, rfl, hP⟩
def S_rnext : SpecT := fun args H nx Post => ∃ (W : List Wd) (σ : PS) (sv : AVal), args = [.ptr 0 0 0] ∧ H = [(0, rP W σ sv)] ∧ nx = 2 ∧ (SvOk sv ∧ Suf W σ) ∧ Post (.str (nextW σ)) [(0, rP W (nextP σ) sv)] 2
theorem rnext_ok [Syms] : S_rnext.ok Try.prog 48 := by
  rintro args H nx Post ⟨W, σ, sv, rfl, rfl, rfl, ⟨h1, h2⟩, h3⟩
  exact fnT_sound tys_ok fns_ok noneT_det noneT_ok mixed (rnext_t W σ sv h1 h2 h3)
abbrev cRMu : CallT := pickT 48 (specT S_rnext) (pickT 32 (specT S_rfail) noneT)
theorem cRMu_ok [Syms] : cRMu.ok Try.prog := pickT_spec rnext_ok (pickT_spec rfail_ok noneT_ok)
theorem rmust_t [Syms] {Post : AVal → Heap → Nat → Prop} (W : List Wd) (σ : PS) (sv : AVal) (w : Wd) (hsv : SvOk sv) (hS : Suf W σ) (hP : Post (.tup []) [(0, rP W (mustP w σ) sv)] 2) :
    fnT noneT cRMu (fnTab fns) (tyTab tys) (plTab plt) 100 29 [.ptr 0 0 0, .str w] [(0, rP W σ sv)] 2 Post := by
  have hx1 := eqb_eq (nextW σ) w
  refine ⟨[0, 1], [.ptr 0 0 0], [(0, rP W σ sv)], rfl, ⟨.refl _, trivial⟩, ⟨⟨by decide, _, rfl, wkR rfl (hsv _)⟩, trivial⟩, W, σ, sv, rfl, rfl, rfl, ⟨hsv, hS⟩, ?_⟩
  by_cases hw : nextW σ = w
  · rw [mustP, if_pos hw] at hP
    rw [decide_eq_true hw] at hx1
    repeat' (first | (refine And.intro ?_ ?_) | (intro h; (try first | replace h := of_decide_eq_true h | replace h := of_decide_eq_false h); (try simp only [sg, hx1] at h); (try simp only [sx, ↓reduceIte, Nat.reduceAdd, reduceCtorEq, Int.reduceLT, Int.reduceLE, Int.reduceSub, Nat.reduceEqDiff, Nat.reduceLT] at h); try exact nz h))
    all_goals (try exact cz)
    exact ⟨⟨[], [(0, rP W (nextP σ) sv)], 2⟩, reb_num [0, 1] (by first | rfl | kernel_rfl) trivial ⟨⟨by decide, _, rfl, wkR (rvRen hsv) (hsv _)⟩, trivial⟩, _, rfl, hP⟩
  · rw [mustP, if_neg hw] at hP
    rw [decide_eq_false hw] at hx1
    repeat' (first | (refine And.intro ?_ ?_) | (intro h; (try first | replace h := of_decide_eq_true h | replace h := of_decide_eq_false h); (try simp only [sg, hx1] at h); (try simp only [sx, ↓reduceIte, Nat.reduceAdd, reduceCtorEq, Int.reduceLT, Int.reduceLE, Int.reduceSub, Nat.reduceEqDiff, Nat.reduceLT] at h); try exact nz h))
    all_goals (try exact cz)
    refine ⟨[0, 1], [.ptr 0 0 0, .int .i64 6], [(0, rP W (nextP σ) sv)], rfl, ⟨.refl _, .refl _, trivial⟩, ⟨⟨by decide, _, rfl, wkR (rvRen hsv) (hsv _)⟩, trivial⟩, W, nextP σ, sv, 6, rfl, rfl, rfl, hsv, ?_⟩
    repeat' (first | (refine And.intro ?_ ?_) | (intro h; (try first | replace h := of_decide_eq_true h | replace h := of_decide_eq_false h); (try simp only [sg, hx1] at h); (try simp only [sx, ↓reduceIte, Nat.reduceAdd, reduceCtorEq, Int.reduceLT, Int.reduceLE, Int.reduceSub, Nat.reduceEqDiff, Nat.reduceLT] at h); try exact nz h))
    all_goals (try exact cz)
    exact ⟨⟨[], [(0, rP W (failP (nextP σ) 6) sv)], 2⟩, reb_num [0, 1] (by first | rfl | kernel_rfl) trivial ⟨⟨by decide, _, rfl, wkR (rvRen hsv) (hsv _)⟩, trivial⟩, _, rfl, hP⟩
def S_rmust : SpecT := fun args H nx Post => ∃ (W : List Wd) (σ : PS) (sv : AVal) (w : Wd), args = [.ptr 0 0 0, .str w] ∧ H = [(0, rP W σ sv)] ∧ nx = 2 ∧ (SvOk sv ∧ Suf W σ) ∧ Post (.tup []) [(0, rP W (mustP w σ) sv)] 2
theorem rmust_ok [Syms] : S_rmust.ok Try.prog 29 := by
  rintro args H nx Post ⟨W, σ, sv, w, rfl, rfl, rfl, ⟨h1, h2⟩, h3⟩
  exact fnT_sound tys_ok fns_ok noneT_det cRMu_ok mixed (rmust_t W σ sv w h1 h2 h3)
theorem which_t [Syms] (l : List Wd) (w : Wd) (hl : l.length < 1000) :
    fnT noneT noneT (fnTab fns) (tyTab tys) (plTab plt) 100 61 [.str w, vW l] [] 0 (fun v H _ => v = .int .i64 (idxW l w) ∧ H = []) := by
  repeat' (first | (refine And.intro ?_ ?_) | (intro h; (try first | replace h := of_decide_eq_true h | replace h := of_decide_eq_false h); (try simp only [sg] at h); (try simp only [sx, ↓reduceIte, Nat.reduceAdd, reduceCtorEq, Int.reduceLT, Int.reduceLE, Int.reduceSub, Nat.reduceEqDiff, Nat.reduceLT] at h); try exact nz h))
  all_goals (try exact cz)
  refine ⟨fun m s => ∃ k : Nat, (k ≤ l.length ∧ m = l.length - k ∧ ∀ j, j < k → l.getD j [] ≠ w) ∧ s = ⟨[(0, .str w), (1, vW l), (5, .int .i64 k)], [], 0⟩, ⟨_, ⟨[(0, .str w), (1, vW l), (5, .int .i64 (0 : Nat))], [], 0⟩, reb_flat [0, 1, 5] rfl, 0, ⟨by omega, rfl, fun j h => by omega⟩, rfl⟩, ?_⟩
  rintro m s ⟨k, ⟨hk, rfl, hj⟩, rfl⟩
  by_cases hin : k < l.length
  · have hx1 := eqb_eq (l.getD k []) w
    by_cases hw : l.getD k [] = w
    · rw [decide_eq_true hw] at hx1
      repeat' (first | (refine And.intro ?_ ?_) | (intro h; (try first | replace h := of_decide_eq_true h | replace h := of_decide_eq_false h); (try simp only [sg, hx1] at h); (try simp only [sx, ↓reduceIte, Nat.reduceAdd, reduceCtorEq, Int.reduceLT, Int.reduceLE, Int.reduceSub, Nat.reduceEqDiff, Nat.reduceLT] at h); try exact nz h))
      all_goals (try exact cz)
      all_goals (try exact absurd (show eqb (l.getD k []) w = false from ‹_›) (by rw [hx1]; decide))
      exact ⟨_, reb_flat [4] rfl, _, rfl, congrArg (AVal.int .i64) (idxW_at hin hw hj).symm, rfl⟩
    · rw [decide_eq_false hw] at hx1
      repeat' (first | (refine And.intro ?_ ?_) | (intro h; (try first | replace h := of_decide_eq_true h | replace h := of_decide_eq_false h); (try simp only [sg, hx1] at h); (try simp only [sx, ↓reduceIte, Nat.reduceAdd, reduceCtorEq, Int.reduceLT, Int.reduceLE, Int.reduceSub, Nat.reduceEqDiff, Nat.reduceLT] at h); try exact nz h))
      all_goals (try exact cz)
      all_goals (try exact absurd (show eqb (l.getD k []) w = true from ‹_›) (by rw [hx1]; decide))
      refine ⟨_, ⟨[(0, .str w), (1, vW l), (5, .int .i64 (k + 1 : Nat))], [], 0⟩, reb_flat [0, 1, 5] rfl, ⟨k + 1, ⟨by omega, rfl, fun j hlt => ?_⟩, rfl⟩, by omega⟩
      rcases Nat.lt_or_ge j k with h' | h'
      · exact hj j h'
      · obtain rfl : j = k := by omega
        exact hw
  · repeat' (first | (refine And.intro ?_ ?_) | (intro h; (try first | replace h := of_decide_eq_true h | replace h := of_decide_eq_false h); (try simp only [sg] at h); (try simp only [sx, ↓reduceIte, Nat.reduceAdd, reduceCtorEq, Int.reduceLT, Int.reduceLE, Int.reduceSub, Nat.reduceEqDiff, Nat.reduceLT] at h); try exact nz h))
    all_goals (try exact cz)
    exact ⟨_, reb_flat [4] rfl, _, rfl, congrArg (AVal.int .i64) (idxW_none fun j hjl => hj j (by omega)).symm, rfl⟩
def S_which : SpecI := fun args K => ∃ (l : List Wd) (w : Wd), args = [.str w, vW l] ∧ l.length < 1000 ∧ K (.int .i64 (idxW l w))
theorem which_ok [Syms] : ImmOk Try.prog 61 S_which := by
  rintro args K ⟨l, w, rfl, h, hk⟩
  exact ⟨rfl, _, rfl, hk, fnI tys_ok fns_ok noneT_det noneT_ok mixed (which_t l w h)⟩
end Go.Proofs.Ytjffmehcbaechaa
