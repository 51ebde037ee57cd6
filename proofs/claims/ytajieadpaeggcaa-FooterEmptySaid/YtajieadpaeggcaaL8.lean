/-
  The footer's reader: a number of so many bytes, a truth, a number, a value. The program's. The footer's reader: a page. The program's.
-/
import Derived.Test.YtajieadpaeggcaaL5
import Derived.Test.YtajieadpaeggcaaL7
set_option linter.unusedVariables false
set_option linter.unusedSimpArgs false
section
set_option linter.unusedVariables false
set_option linter.unusedSimpArgs false
namespace Go.Proofs.Ytajieadpaeggcaa
open Go Go.Av
set_option maxRecDepth 100000
set_option maxHeartbeats 4000000
/-- Blocks of the function's own, besides, may be forgotten. -/
def subP (Post : AVal → Heap → Nat → Prop) : AVal → Heap → Nat → Prop := fun v H nx => ∃ K : Heap, K.sub H ∧ Post v K nx
theorem FnSem.forget [Syms] {P : Program} {f : FuncId} {args : List AVal} {H : Heap} {nx : Nat} {Post : AVal → Heap → Nat → Prop} (h : FnSem P f args H nx (subP Post)) : FnSem P f args H nx Post := by
  refine ⟨h.1, fun ι w vs hv hH hb => (h.2 ι w vs hv hH hb).mono ?_⟩
  rintro e w' ⟨v, H', nx', r, κ, ⟨K, hs, hp⟩, h2, h3, h4, h5, h6, h7⟩
  exact ⟨v, K, nx', r, κ, hp, h2, h3, h4.sub hs, ⟨h5.keep, h5.fzle, h5.os, h5.tape, h5.output, h5.size, h5.same, fun g hg => h5.own g (hg.sub hs), h5.fzs, h5.fresh⟩, h6, h7⟩
theorem wkB_row {ρ : Nat → Nat} {row row' : List AVal} (h : WkVs row' row) (hf : ∀ x ∈ row, x.flat = true) : WkB (.cells [row'] false) ((Blk.cells [row] false).ren ρ) := by
  rw [blk_flat ρ (flat_cons hf flat_nil)]
  refine .each _ _ _ rfl fun k r r' h1 h2 => ?_
  cases k with
  | zero =>
    cases h1; cases h2
    exact ⟨h.at.1.symm, h.at.2⟩
  | succ k => simp at h1
theorem wkB_rw {ρ : Nat → Nat} {row row' : List AVal} (h : WkVs row' (AVal.renL ρ row)) : WkB (.cells [row'] false) ((Blk.cells [row] false).ren ρ) := by
  simp only [Blk.ren, List.map_cons, List.map_nil]
  refine .each _ _ _ rfl fun k r r' h1 h2 => ?_
  cases k with
  | zero =>
    cases h1; cases h2
    exact ⟨h.at.1.symm, h.at.2⟩
  | succ k => simp at h1
theorem sub_one {b : Option Blk} {l : Heap} : Heap.sub [(0, b)] ((0, b) :: l) := fun n c h => by
  rw [Heap.get_cons] at h ⊢
  by_cases hz : n = 0
  · subst hz; exact h
  · rw [beq_ff hz] at h; rw [show (bif false then b else Heap.get [] n) = none from Heap.get_nil n] at h; cases h
/-- The end of a function with one answer, that stands in a variable. -/
theorem fin_var [Syms] {N k n nx : Nat} {e : Env} {H : Heap} {row' row : List AVal} {r : BR} {rs : List ResultVar} {Post : AVal → Heap → Nat → Prop} (hk : e.get k = .ptr n 0 0) (H0 : H.get 0 = rdB r) (Hn : H.get n = some (.cells [row'] false)) (hrow : WkVs row' row) (hf : ∀ x ∈ row, x.flat = true)
    (hn : NumsOk 1 nx [0, n] = true) (hrs : resultsA (tyTab tys) ⟨[(k, .ptr 1 0 0)], [(0, rdB r), (1, some (.cells [row] false))], 2⟩ rs = some (.agg row)) (hP : Post (.agg row) [(0, rdB r)] 2) :
    ∃ s3, Reb 1 N ⟨e, H, nx⟩ s3 ∧ ∃ v, resultsA (tyTab tys) s3 rs = some v ∧ subP Post v s3.heap s3.nx :=
  ⟨⟨[(k, .ptr 1 0 0)], [(0, rdB r), (1, some (.cells [row] false))], 2⟩, reb_num [0, n] hn ⟨by rw [hk]; exact .refl _, trivial⟩ ⟨⟨Nat.succ_pos _, _, H0, .refl _⟩, ⟨Nat.lt_succ_self _, _, Hn, wkB_row hrow hf⟩, trivial⟩, _, hrs, _, sub_one, hP⟩
theorem wk_str {a b : List UInt8} (h : a = b) : WkV (.str a) (.str b) := h ▸ .refl _
theorem fV (v : Vl) : ∀ x ∈ encV v, x.flat = true := fun x hx => by simp [encV] at hx; rcases hx with rfl | rfl <;> rfl
abbrev cFx : CallT := pickT 54 (specT S_ftake) (pickT 111 (specT S_cnew) (pickT 112 (specT S_cget) noneT))
theorem cFx_ok [Syms] : cFx.ok Try.prog := pickT_spec ftake_ok (pickT_spec cnew_ok (pickT_spec cget_ok noneT_ok))
theorem takeR_two (n : Nat) (r : BR) : (takeR n r).1.length = n ∨ (takeR n r).1 = [] := by
  unfold takeR
  by_cases h : r.b.length < n
  · simp only [if_pos h]
    have : (failR r 8).e ≠ 0 := by
      unfold failR
      by_cases h0 : r.e = 0
      · rw [if_pos h0]; show (8 : Int) ≠ 0; decide
      · rw [if_neg h0]; exact h0
    rw [if_pos this]; exact .inr rfl
  · simp only [if_neg h]
    by_cases h0 : r.e ≠ 0
    · rw [if_pos h0]; exact .inr rfl
    · rw [if_neg h0]; left; simp; omega
theorem ffix_t [Syms] {Post : AVal → Heap → Nat → Prop} (r : BR) (n : Nat) (hn : 0 < n ∧ n ≤ 8) (hl : r.b.length ≤ 1000000) (hP : Post (.int .u64 ((fixR n r).1 : Nat)) [(0, rdB (fixR n r).2)] 1) :
    fnT noneT cFx (fnTab fns) (tyTab tys) (plTab plt) 100 102 [.ptr 0 0 0, .int .i64 n] [(0, rdB r)] 1 Post := by
  refine ⟨[0], [.ptr 0 0 0, .int .i64 n], [(0, rdB r)], rfl, ⟨.refl _, .refl _, trivial⟩, ⟨⟨by decide, _, rfl, .refl _⟩, trivial⟩, r, n, rfl, rfl, rfl, ⟨hl, by omega⟩, ?_⟩
  unfold fixR at hP
  have h2 := takeR_two n r
  generalize takeR n r = q at *
  obtain ⟨t, r2⟩ := q
  have hP : Post (.int .u64 (leV t : Nat)) [(0, rdB r2)] 1 := hP
  rcases h2 with h2 | h2
  · have h2 : t.length = n := h2
    refine ⟨[], [vB t], [], rfl, ⟨.refl _, trivial⟩, trivial, t, rfl, rfl, rfl, by omega, ?_⟩
    have ht : t.take n = t := List.take_of_length_le (by omega)
    refine ⟨[2], [.ptr 0 0 0, .int .i64 (n : Nat)], [(0, rdB ⟨t, 0⟩)], rfl, ⟨.refl _, .refl _, trivial⟩, ⟨⟨by decide, _, rfl, .refl _⟩, trivial⟩, t, n, rfl, rfl, rfl, ⟨by omega, by omega⟩, .inl ⟨by omega, ?_⟩⟩
    rw [ht]
    repeat' (first | (refine And.intro ?_ ?_) | (intro h; (try first | replace h := of_decide_eq_true h | replace h := of_decide_eq_false h); (try simp only [sg] at h); (try simp only [sx, ↓reduceIte, Nat.reduceAdd, reduceCtorEq, Int.reduceLT, Int.reduceLE, Int.reduceSub, Nat.reduceEqDiff, Nat.reduceLT] at h); try exact nz h))
    all_goals (try exact cz)
    exact ⟨⟨[(4, .int .u64 (leV t : Nat))], [(0, rdB r2)], 1⟩, reb_num [0] (by first | rfl | kernel_rfl) ⟨.refl _, trivial⟩ ⟨⟨by decide, _, rfl, .refl _⟩, trivial⟩, _, rfl, hP⟩
  · have h2 : t = [] := h2
    subst h2
    refine ⟨[], [vB []], [], rfl, ⟨.refl _, trivial⟩, trivial, [], rfl, rfl, rfl, by simp, ?_⟩
    refine ⟨[2], [.ptr 0 0 0, .int .i64 (n : Nat)], [(0, rdB ⟨[], 0⟩)], rfl, ⟨.refl _, .refl _, trivial⟩, ⟨⟨by decide, _, rfl, .refl _⟩, trivial⟩, [], n, rfl, rfl, rfl, ⟨by simp, by omega⟩, .inr ⟨hn.1, ?_⟩⟩
    repeat' (first | (refine And.intro ?_ ?_) | (intro h; (try first | replace h := of_decide_eq_true h | replace h := of_decide_eq_false h); (try simp only [sg] at h); (try simp only [sx, ↓reduceIte, Nat.reduceAdd, reduceCtorEq, Int.reduceLT, Int.reduceLE, Int.reduceSub, Nat.reduceEqDiff, Nat.reduceLT] at h); try exact nz h))
    all_goals (try exact cz)
    exact ⟨⟨[(4, .int .u64 (leV [] : Nat))], [(0, rdB r2)], 1⟩, reb_num [0] (by first | rfl | kernel_rfl) ⟨.refl _, trivial⟩ ⟨⟨by decide, _, rfl, .refl _⟩, trivial⟩, _, rfl, hP⟩
def S_ffix : SpecT := fun args H nx Post => ∃ (r : BR) (n : Nat), args = [.ptr 0 0 0, .int .i64 n] ∧ H = [(0, rdB r)] ∧ nx = 1 ∧ ((0 < n ∧ n ≤ 8) ∧ r.b.length ≤ 1000000) ∧ Post (.int .u64 ((fixR n r).1 : Nat)) [(0, rdB (fixR n r).2)] 1
theorem ffix_ok [Syms] : S_ffix.ok Try.prog 102 := by
  rintro args H nx Post ⟨r, n, rfl, rfl, rfl, ⟨h1, h2⟩, h⟩
  exact fnT_sound tys_ok fns_ok noneT_det cFx_ok mixed (ffix_t r n h1 h2 h)
/-! A truth -/
abbrev cFt : CallT := pickT 102 (specT S_ffix) (pickT 27 (specT S_ffail) noneT)
theorem cFt_ok [Syms] : cFt.ok Try.prog := pickT_spec ffix_ok (pickT_spec ffail_ok noneT_ok)
theorem ftruth_t [Syms] {Post : AVal → Heap → Nat → Prop} (r : BR) (hl : r.b.length ≤ 1000000) (hP : Post (.int .i64 ((truthR r).1 : Nat)) [(0, rdB (truthR r).2)] 1) :
    fnT noneT cFt (fnTab fns) (tyTab tys) (plTab plt) 100 105 [.ptr 0 0 0] [(0, rdB r)] 1 Post := by
  refine ⟨[0], [.ptr 0 0 0, .int .i64 ((1 : Nat) : Int)], [(0, rdB r)], rfl, ⟨.refl _, .refl _, trivial⟩, ⟨⟨by decide, _, rfl, .refl _⟩, trivial⟩, r, 1, rfl, rfl, rfl, ⟨⟨by omega, by omega⟩, hl⟩, ?_⟩
  unfold truthR at hP
  generalize fixR 1 r = q at *
  obtain ⟨v, r2⟩ := q
  have hP : Post (.int .i64 ((if 1 < v then (0, failR r2 10) else (v, r2)).1 : Nat)) [(0, rdB (if 1 < v then (0, failR r2 10) else (v, r2)).2)] 1 := hP
  by_cases h1 : 1 < v
  · rw [if_pos h1] at hP
    repeat' (first | (refine And.intro ?_ ?_) | (intro h; (try first | replace h := of_decide_eq_true h | replace h := of_decide_eq_false h); (try simp only [sg] at h); (try simp only [sx, ↓reduceIte, Nat.reduceAdd, reduceCtorEq, Int.reduceLT, Int.reduceLE, Int.reduceSub, Nat.reduceEqDiff, Nat.reduceLT] at h); try exact nz h))
    all_goals (try exact cz)
    refine ⟨[0], [.ptr 0 0 0, .int .i64 10], [(0, rdB r2)], rfl, ⟨.refl _, .refl _, trivial⟩, ⟨⟨by decide, _, rfl, .refl _⟩, trivial⟩, r2, 10, rfl, rfl, rfl, ?_⟩
    generalize failR r2 10 = r3 at *
    repeat' (first | (refine And.intro ?_ ?_) | (intro h; (try first | replace h := of_decide_eq_true h | replace h := of_decide_eq_false h); (try simp only [sg] at h); (try simp only [sx, ↓reduceIte, Nat.reduceAdd, reduceCtorEq, Int.reduceLT, Int.reduceLE, Int.reduceSub, Nat.reduceEqDiff, Nat.reduceLT] at h); try exact nz h))
    all_goals (try exact cz)
    exact ⟨⟨[(2, .int .i64 (0 : Nat))], [(0, rdB r3)], 1⟩, reb_num [0] (by first | rfl | kernel_rfl) ⟨.refl _, trivial⟩ ⟨⟨by decide, _, rfl, .refl _⟩, trivial⟩, _, rfl, hP⟩
  · rw [if_neg h1] at hP
    have hw := wrIN (n := v) (by omega)
    repeat' (first | (refine And.intro ?_ ?_) | (intro h; (try first | replace h := of_decide_eq_true h | replace h := of_decide_eq_false h); (try simp only [sg] at h); (try simp only [sx, ↓reduceIte, Nat.reduceAdd, reduceCtorEq, Int.reduceLT, Int.reduceLE, Int.reduceSub, Nat.reduceEqDiff, Nat.reduceLT] at h); try exact nz h))
    all_goals (try exact cz)
    exact ⟨⟨[(2, .int .i64 (v : Nat))], [(0, rdB r2)], 1⟩, reb_num [0] (by first | rfl | kernel_rfl) ⟨wk_int hw, trivial⟩ ⟨⟨by decide, _, rfl, .refl _⟩, trivial⟩, _, rfl, hP⟩
def S_ftruth : SpecT := fun args H nx Post => ∃ (r : BR), args = [.ptr 0 0 0] ∧ H = [(0, rdB r)] ∧ nx = 1 ∧ r.b.length ≤ 1000000 ∧ Post (.int .i64 ((truthR r).1 : Nat)) [(0, rdB (truthR r).2)] 1
theorem ftruth_ok [Syms] : S_ftruth.ok Try.prog 105 := by
  rintro args H nx Post ⟨r, rfl, rfl, rfl, h1, h⟩
  exact fnT_sound tys_ok fns_ok noneT_det cFt_ok mixed (ftruth_t r h1 h)
/-! A number -/
abbrev cFpl : CallT := pickT 55 (specT S_fnum) noneT
theorem cFpl_ok [Syms] : cFpl.ok Try.prog := pickT_spec fnum_ok noneT_ok
theorem fplain_t [Syms] {Post : AVal → Heap → Nat → Prop} (r : BR) (hl : r.b.length ≤ 1000000) (hP : Post (.int .i64 ((plainR r).1 : Nat)) [(0, rdB (plainR r).2)] 1) :
    fnT noneT cFpl (fnTab fns) (tyTab tys) (plTab plt) 100 57 [.ptr 0 0 0] [(0, rdB r)] 1 Post := by
  refine ⟨[0], [.ptr 0 0 0, .int .i64 ((1048576 : Nat) : Int), .int .i64 14], [(0, rdB r)], rfl, ⟨.refl _, .refl _, .refl _, trivial⟩, ⟨⟨by decide, _, rfl, .refl _⟩, trivial⟩, r, 1048576, 14, rfl, rfl, rfl, ⟨hl, by omega, by decide⟩, ?_⟩
  replace hP : Post (.int .i64 ((numR 1048576 14 r).1 : Nat)) [(0, rdB (numR 1048576 14 r).2)] 1 := hP
  generalize numR 1048576 14 r = q at *
  obtain ⟨v, r2⟩ := q
  repeat' (first | (refine And.intro ?_ ?_) | (intro h; (try first | replace h := of_decide_eq_true h | replace h := of_decide_eq_false h); (try simp only [sg] at h); (try simp only [sx, ↓reduceIte, Nat.reduceAdd, reduceCtorEq, Int.reduceLT, Int.reduceLE, Int.reduceSub, Nat.reduceEqDiff, Nat.reduceLT] at h); try exact nz h))
  all_goals (try exact cz)
  exact ⟨⟨[(2, .int .i64 (v : Nat))], [(0, rdB r2)], 1⟩, reb_num [0] (by first | rfl | kernel_rfl) ⟨.refl _, trivial⟩ ⟨⟨by decide, _, rfl, .refl _⟩, trivial⟩, _, rfl, hP⟩
def S_fplain : SpecT := fun args H nx Post => ∃ (r : BR), args = [.ptr 0 0 0] ∧ H = [(0, rdB r)] ∧ nx = 1 ∧ r.b.length ≤ 1000000 ∧ Post (.int .i64 ((plainR r).1 : Nat)) [(0, rdB (plainR r).2)] 1
theorem fplain_ok [Syms] : S_fplain.ok Try.prog 57 := by
  rintro args H nx Post ⟨r, rfl, rfl, rfl, h1, h⟩
  exact fnT_sound tys_ok fns_ok noneT_det cFpl_ok mixed (fplain_t r h1 h)
/-! A value -/
abbrev cFv [Syms] : CallT := pickT 97 (bodyT noneT noneT (fnTab fns) (tyTab tys) (plTab plt) 100) (pickT 105 (specT S_ftruth) (pickT 102 (specT S_ffix) (pickT 55 (specT S_fnum) (pickT 54 (specT S_ftake) noneT))))
theorem cFv_ok [Syms] : cFv.ok Try.prog := pickT_ok (bodyT_ok tys_ok fns_ok noneT_det noneT_ok mixed) (pickT_spec ftruth_ok (pickT_spec ffix_ok (pickT_spec fnum_ok (pickT_spec ftake_ok noneT_ok))))
theorem wr32 (x : Int) : wr .i64 (wr .i32 x) = wr .i32 x := by
  apply wrI
  unfold wr
  split
  · rename_i h
    have h1 : (-2147483648 : Int) ≤ x := h.1
    have h2 : x ≤ (2147483647 : Int) := h.2
    omega
  · show (-9223372036854775808 : Int) ≤ (if (true && decide (x % (2 ^ 32 : Int) ≥ (2 ^ 31 : Int))) = true then x % (2 ^ 32 : Int) - (2 ^ 32 : Int) else x % (2 ^ 32 : Int)) ∧ (if (true && decide (x % (2 ^ 32 : Int) ≥ (2 ^ 31 : Int))) = true then x % (2 ^ 32 : Int) - (2 ^ 32 : Int) else x % (2 ^ 32 : Int)) ≤ (9223372036854775807 : Int)
    split <;> omega
theorem valR_1 (r : BR) : valR 1 r = (⟨((truthR r).1 : Nat), []⟩, (truthR r).2) := rfl
theorem valR_2 (r : BR) : valR 2 r = (⟨wr .i32 ((fixR 4 r).1 : Nat), []⟩, (fixR 4 r).2) := rfl
theorem valR_3 (r : BR) : valR 3 r = (⟨wr .i64 ((fixR 8 r).1 : Nat), []⟩, (fixR 8 r).2) := rfl
theorem valR_4 {k : Int} (h : ¬ k = 1 ∧ ¬ k = 2 ∧ ¬ k = 3) (r : BR) : valR k r = (⟨0, (takeR (numR 100 5 r).1 (numR 100 5 r).2).1⟩, (takeR (numR 100 5 r).1 (numR 100 5 r).2).2) := by
  unfold valR
  rw [if_neg h.1, if_neg h.2.1, if_neg h.2.2]
theorem fval_t [Syms] {Post : AVal → Heap → Nat → Prop} (k : Int) (r : BR) (hl : r.b.length ≤ 1000000) (hP : Post (.agg (encV (valR k r).1)) [(0, rdB (valR k r).2)] 2) :
    fnT noneT cFv (fnTab fns) (tyTab tys) (plTab plt) 100 106 [.ptr 0 0 0, .int .i64 k] [(0, rdB r)] 1 (subP Post) := by
  by_cases h1 : k = 1
  · subst h1
    rw [valR_1] at hP
    repeat' (first | (refine And.intro ?_ ?_) | (intro h; (try first | replace h := of_decide_eq_true h | replace h := of_decide_eq_false h); (try simp only [sg] at h); (try simp only [sx, ↓reduceIte, Nat.reduceAdd, reduceCtorEq, Int.reduceLT, Int.reduceLE, Int.reduceSub, Nat.reduceEqDiff, Nat.reduceLT] at h); try exact nz h))
    all_goals (try exact cz)
    refine ⟨_, .refl _ _ _, _, rfl, ?_⟩
    repeat' (first | (refine And.intro ?_ ?_) | (intro h; (try first | replace h := of_decide_eq_true h | replace h := of_decide_eq_false h); (try simp only [sg] at h); (try simp only [sx, ↓reduceIte, Nat.reduceAdd, reduceCtorEq, Int.reduceLT, Int.reduceLE, Int.reduceSub, Nat.reduceEqDiff, Nat.reduceLT] at h); try exact nz h))
    all_goals (try exact cz)
    refine ⟨[0], [.ptr 0 0 0], [(0, rdB r)], rfl, ⟨.refl _, trivial⟩, ⟨⟨by decide, _, rfl, .refl _⟩, trivial⟩, r, rfl, rfl, rfl, hl, ?_⟩
    generalize truthR r = q at *
    obtain ⟨v, r2⟩ := q
    repeat' (first | (refine And.intro ?_ ?_) | (intro h; (try first | replace h := of_decide_eq_true h | replace h := of_decide_eq_false h); (try simp only [sg] at h); (try simp only [sx, ↓reduceIte, Nat.reduceAdd, reduceCtorEq, Int.reduceLT, Int.reduceLE, Int.reduceSub, Nat.reduceEqDiff, Nat.reduceLT] at h); try exact nz h))
    all_goals (try exact cz)
    exact fin_var (k := 4) (n := 1) (row := encV ⟨(v : Nat), []⟩) rfl rfl rfl ⟨.refl _, .refl _, trivial⟩ (fV _) (by first | rfl | kernel_rfl) rfl hP
  by_cases h2 : k = 2
  · subst h2
    rw [valR_2] at hP
    repeat' (first | (refine And.intro ?_ ?_) | (intro h; (try first | replace h := of_decide_eq_true h | replace h := of_decide_eq_false h); (try simp only [sg] at h); (try simp only [sx, ↓reduceIte, Nat.reduceAdd, reduceCtorEq, Int.reduceLT, Int.reduceLE, Int.reduceSub, Nat.reduceEqDiff, Nat.reduceLT] at h); try exact nz h))
    all_goals (try exact cz)
    refine ⟨_, .refl _ _ _, _, rfl, ?_⟩
    repeat' (first | (refine And.intro ?_ ?_) | (intro h; (try first | replace h := of_decide_eq_true h | replace h := of_decide_eq_false h); (try simp only [sg] at h); (try simp only [sx, ↓reduceIte, Nat.reduceAdd, reduceCtorEq, Int.reduceLT, Int.reduceLE, Int.reduceSub, Nat.reduceEqDiff, Nat.reduceLT] at h); try exact nz h))
    all_goals (try exact cz)
    refine ⟨[0], [.ptr 0 0 0, .int .i64 ((4 : Nat) : Int)], [(0, rdB r)], rfl, ⟨.refl _, .refl _, trivial⟩, ⟨⟨by decide, _, rfl, .refl _⟩, trivial⟩, r, 4, rfl, rfl, rfl, ⟨by decide, hl⟩, ?_⟩
    generalize fixR 4 r = q at *
    obtain ⟨v, r2⟩ := q
    have hw := wr32 (v : Nat)
    repeat' (first | (refine And.intro ?_ ?_) | (intro h; (try first | replace h := of_decide_eq_true h | replace h := of_decide_eq_false h); (try simp only [sg] at h); (try simp only [sx, ↓reduceIte, Nat.reduceAdd, reduceCtorEq, Int.reduceLT, Int.reduceLE, Int.reduceSub, Nat.reduceEqDiff, Nat.reduceLT] at h); try exact nz h))
    all_goals (try exact cz)
    exact fin_var (k := 4) (n := 1) (row := encV ⟨wr .i32 (v : Nat), []⟩) rfl rfl rfl ⟨wk_int hw, .refl _, trivial⟩ (fV _) (by first | rfl | kernel_rfl) rfl hP
  by_cases h3 : k = 3
  · subst h3
    rw [valR_3] at hP
    repeat' (first | (refine And.intro ?_ ?_) | (intro h; (try first | replace h := of_decide_eq_true h | replace h := of_decide_eq_false h); (try simp only [sg] at h); (try simp only [sx, ↓reduceIte, Nat.reduceAdd, reduceCtorEq, Int.reduceLT, Int.reduceLE, Int.reduceSub, Nat.reduceEqDiff, Nat.reduceLT] at h); try exact nz h))
    all_goals (try exact cz)
    refine ⟨_, .refl _ _ _, _, rfl, ?_⟩
    repeat' (first | (refine And.intro ?_ ?_) | (intro h; (try first | replace h := of_decide_eq_true h | replace h := of_decide_eq_false h); (try simp only [sg] at h); (try simp only [sx, ↓reduceIte, Nat.reduceAdd, reduceCtorEq, Int.reduceLT, Int.reduceLE, Int.reduceSub, Nat.reduceEqDiff, Nat.reduceLT] at h); try exact nz h))
    all_goals (try exact cz)
    refine ⟨[0], [.ptr 0 0 0, .int .i64 ((8 : Nat) : Int)], [(0, rdB r)], rfl, ⟨.refl _, .refl _, trivial⟩, ⟨⟨by decide, _, rfl, .refl _⟩, trivial⟩, r, 8, rfl, rfl, rfl, ⟨by decide, hl⟩, ?_⟩
    generalize fixR 8 r = q at *
    obtain ⟨v, r2⟩ := q
    repeat' (first | (refine And.intro ?_ ?_) | (intro h; (try first | replace h := of_decide_eq_true h | replace h := of_decide_eq_false h); (try simp only [sg] at h); (try simp only [sx, ↓reduceIte, Nat.reduceAdd, reduceCtorEq, Int.reduceLT, Int.reduceLE, Int.reduceSub, Nat.reduceEqDiff, Nat.reduceLT] at h); try exact nz h))
    all_goals (try exact cz)
    exact fin_var (k := 4) (n := 1) (row := encV ⟨wr .i64 (v : Nat), []⟩) rfl rfl rfl ⟨.refl _, .refl _, trivial⟩ (fV _) (by first | rfl | kernel_rfl) rfl hP
  rw [valR_4 ⟨h1, h2, h3⟩] at hP
  repeat' (first | (refine And.intro ?_ ?_) | (intro h; (try first | replace h := of_decide_eq_true h | replace h := of_decide_eq_false h); (try simp only [sg] at h); (try simp only [sx, ↓reduceIte, Nat.reduceAdd, reduceCtorEq, Int.reduceLT, Int.reduceLE, Int.reduceSub, Nat.reduceEqDiff, Nat.reduceLT] at h); try exact nz h))
  all_goals (try exact cz)
  refine ⟨_, .refl _ _ _, _, rfl, ?_⟩
  repeat' (first | (refine And.intro ?_ ?_) | (intro h; (try first | replace h := of_decide_eq_true h | replace h := of_decide_eq_false h); (try simp only [sg] at h); (try simp only [sx, ↓reduceIte, Nat.reduceAdd, reduceCtorEq, Int.reduceLT, Int.reduceLE, Int.reduceSub, Nat.reduceEqDiff, Nat.reduceLT] at h); try exact nz h))
  all_goals (try exact cz)
  refine ⟨[0], [.ptr 0 0 0, .int .i64 ((100 : Nat) : Int), .int .i64 5], [(0, rdB r)], rfl, ⟨.refl _, .refl _, .refl _, trivial⟩, ⟨⟨by decide, _, rfl, .refl _⟩, trivial⟩, r, 100, 5, rfl, rfl, rfl, ⟨hl, by omega, by decide⟩, ?_⟩
  have l0 := numR_len 100 5 r
  have n0 := numR_le (m := 100) (w := 5) (by decide) r
  generalize numR 100 5 r = q at *
  obtain ⟨v, r2⟩ := q
  have l0 : r2.b.length ≤ r.b.length := l0
  have n0 : v ≤ 100 := n0
  refine ⟨[0], [.ptr 0 0 0, .int .i64 (v : Nat)], [(0, rdB r2)], rfl, ⟨.refl _, .refl _, trivial⟩, ⟨⟨by decide, _, rfl, .refl _⟩, trivial⟩, r2, v, rfl, rfl, rfl, ⟨by omega, by omega⟩, ?_⟩
  replace hP : Post (.agg (encV ⟨0, (takeR v r2).1⟩)) [(0, rdB (takeR v r2).2)] 2 := hP
  generalize takeR v r2 = q at *
  obtain ⟨t, r3⟩ := q
  repeat' (first | (refine And.intro ?_ ?_) | (intro h; (try first | replace h := of_decide_eq_true h | replace h := of_decide_eq_false h); (try simp only [sg] at h); (try simp only [sx, ↓reduceIte, Nat.reduceAdd, reduceCtorEq, Int.reduceLT, Int.reduceLE, Int.reduceSub, Nat.reduceEqDiff, Nat.reduceLT] at h); try exact nz h))
  all_goals (try exact cz)
  · exact (bytesT t).1
  exact fin_var (k := 4) (n := 1) (row := encV ⟨0, t⟩) rfl rfl rfl ⟨.refl _, wk_str (bytesT t).2, trivial⟩ (fV _) (by first | rfl | kernel_rfl) rfl hP
def S_fval : SpecT := fun args H nx Post => ∃ (k : Int) (r : BR), args = [.ptr 0 0 0, .int .i64 k] ∧ H = [(0, rdB r)] ∧ nx = 1 ∧ r.b.length ≤ 1000000 ∧ Post (.agg (encV (valR k r).1)) [(0, rdB (valR k r).2)] 2
theorem fval_ok [Syms] : S_fval.ok Try.prog 106 := by
  rintro args H nx Post ⟨k, r, rfl, rfl, rfl, h1, h⟩
  exact FnSem.forget (fnT_sound tys_ok fns_ok noneT_det cFv_ok mixed (fval_t k r h1 h))
end Go.Proofs.Ytajieadpaeggcaa

end
section
set_option linter.unusedVariables false
set_option linter.unusedSimpArgs false
namespace Go.Proofs.Ytajieadpaeggcaa
open Go Go.Av
set_option maxRecDepth 100000
set_option maxHeartbeats 4000000
theorem truthR_len (r : BR) : (truthR r).2.b.length ≤ r.b.length := by
  have := fixR_len 1 r
  unfold truthR
  split
  · show (failR _ _).b.length ≤ _; rw [failR_b]; exact this
  · exact this
theorem truthR_le (r : BR) : (truthR r).1 ≤ 1 := by
  unfold truthR
  split
  · exact Nat.zero_le _
  · omega
theorem wr32u {v : Nat} (h : v < 256 ^ 4) : wr .u32 (v : Int) = (v : Nat) := if_pos ⟨show (0 : Int) ≤ _ by omega, show _ ≤ (4294967295 : Int) by omega⟩
theorem eP (p : Pg) : ∀ x ∈ encP p, x.flat = true := fP [p] _ (List.mem_singleton.2 rfl)
abbrev cFpg : CallT := pickT 57 (specT S_fplain) (pickT 102 (specT S_ffix) noneT)
theorem cFpg_ok [Syms] : cFpg.ok Try.prog := pickT_spec fplain_ok (pickT_spec ffix_ok noneT_ok)
theorem fpage_t [Syms] {Post : AVal → Heap → Nat → Prop} (r : BR) (hl : r.b.length ≤ 1000000) (hP : Post (.agg (encP (pageR r).1)) [(0, rdB (pageR r).2)] 2) :
    fnT noneT cFpg (fnTab fns) (tyTab tys) (plTab plt) 100 103 [.ptr 0 0 0] [(0, rdB r)] 1 (subP Post) := by
  unfold pageR at hP
  dsimp only at hP
  refine ⟨[0], [.ptr 0 0 0], [(0, rdB r)], rfl, ⟨.refl _, trivial⟩, ⟨⟨by decide, _, rfl, .refl _⟩, trivial⟩, r, rfl, rfl, rfl, by omega, ?_⟩
  have l_r1 : (plainR r).2.b.length ≤ r.b.length := numR_len _ _ _
  have n_v1 : (plainR r).1 ≤ 1048576 := numR_le (by decide) _
  generalize plainR r = q at *
  obtain ⟨v1, r1⟩ := q
  replace l_r1 : r1.b.length ≤ r.b.length := l_r1
  replace n_v1 : v1 ≤ 1048576 := n_v1
  dsimp only at hP
  refine ⟨[0], [.ptr 0 0 0], [(0, rdB r1)], rfl, ⟨.refl _, trivial⟩, ⟨⟨by decide, _, rfl, .refl _⟩, trivial⟩, r1, rfl, rfl, rfl, by omega, ?_⟩
  have l_r2 : (plainR r1).2.b.length ≤ r1.b.length := numR_len _ _ _
  have n_v2 : (plainR r1).1 ≤ 1048576 := numR_le (by decide) _
  generalize plainR r1 = q at *
  obtain ⟨v2, r2⟩ := q
  replace l_r2 : r2.b.length ≤ r1.b.length := l_r2
  replace n_v2 : v2 ≤ 1048576 := n_v2
  dsimp only at hP
  refine ⟨[0], [.ptr 0 0 0], [(0, rdB r2)], rfl, ⟨.refl _, trivial⟩, ⟨⟨by decide, _, rfl, .refl _⟩, trivial⟩, r2, rfl, rfl, rfl, by omega, ?_⟩
  have l_r3 : (plainR r2).2.b.length ≤ r2.b.length := numR_len _ _ _
  have n_v3 : (plainR r2).1 ≤ 1048576 := numR_le (by decide) _
  generalize plainR r2 = q at *
  obtain ⟨v3, r3⟩ := q
  replace l_r3 : r3.b.length ≤ r2.b.length := l_r3
  replace n_v3 : v3 ≤ 1048576 := n_v3
  dsimp only at hP
  refine ⟨[0], [.ptr 0 0 0], [(0, rdB r3)], rfl, ⟨.refl _, trivial⟩, ⟨⟨by decide, _, rfl, .refl _⟩, trivial⟩, r3, rfl, rfl, rfl, by omega, ?_⟩
  have l_r4 : (plainR r3).2.b.length ≤ r3.b.length := numR_len _ _ _
  have n_v4 : (plainR r3).1 ≤ 1048576 := numR_le (by decide) _
  generalize plainR r3 = q at *
  obtain ⟨v4, r4⟩ := q
  replace l_r4 : r4.b.length ≤ r3.b.length := l_r4
  replace n_v4 : v4 ≤ 1048576 := n_v4
  dsimp only at hP
  refine ⟨[0], [.ptr 0 0 0], [(0, rdB r4)], rfl, ⟨.refl _, trivial⟩, ⟨⟨by decide, _, rfl, .refl _⟩, trivial⟩, r4, rfl, rfl, rfl, by omega, ?_⟩
  have l_r5 : (plainR r4).2.b.length ≤ r4.b.length := numR_len _ _ _
  have n_v5 : (plainR r4).1 ≤ 1048576 := numR_le (by decide) _
  generalize plainR r4 = q at *
  obtain ⟨v5, r5⟩ := q
  replace l_r5 : r5.b.length ≤ r4.b.length := l_r5
  replace n_v5 : v5 ≤ 1048576 := n_v5
  dsimp only at hP
  refine ⟨[0], [.ptr 0 0 0], [(0, rdB r5)], rfl, ⟨.refl _, trivial⟩, ⟨⟨by decide, _, rfl, .refl _⟩, trivial⟩, r5, rfl, rfl, rfl, by omega, ?_⟩
  have l_r6 : (plainR r5).2.b.length ≤ r5.b.length := numR_len _ _ _
  have n_v6 : (plainR r5).1 ≤ 1048576 := numR_le (by decide) _
  generalize plainR r5 = q at *
  obtain ⟨v6, r6⟩ := q
  replace l_r6 : r6.b.length ≤ r5.b.length := l_r6
  replace n_v6 : v6 ≤ 1048576 := n_v6
  dsimp only at hP
  repeat' (first | (refine And.intro ?_ ?_) | (intro h; (try first | replace h := of_decide_eq_true h | replace h := of_decide_eq_false h); (try simp only [sg] at h); (try simp only [sx, ↓reduceIte, Nat.reduceAdd, reduceCtorEq, Int.reduceLT, Int.reduceLE, Int.reduceSub, Nat.reduceEqDiff, Nat.reduceLT] at h); try exact nz h))
  all_goals (try exact cz)
  refine ⟨[0], [.ptr 0 0 0, .int .i64 ((4 : Nat) : Int)], [(0, rdB r6)], rfl, ⟨.refl _, .refl _, trivial⟩, ⟨⟨by decide, _, rfl, .refl _⟩, trivial⟩, r6, 4, rfl, rfl, rfl, ⟨by decide, by omega⟩, ?_⟩
  have l_r7 : (fixR 4 r6).2.b.length ≤ r6.b.length := fixR_len _ _
  have n_v7 : (fixR 4 r6).1 < 256 ^ 4 := fixR_lt _ _
  generalize fixR 4 r6 = q at *
  obtain ⟨v7, r7⟩ := q
  replace l_r7 : r7.b.length ≤ r6.b.length := l_r7
  replace n_v7 : v7 < 256 ^ 4 := n_v7
  dsimp only at hP
  repeat' (first | (refine And.intro ?_ ?_) | (intro h; (try first | replace h := of_decide_eq_true h | replace h := of_decide_eq_false h); (try simp only [sg] at h); (try simp only [sx, ↓reduceIte, Nat.reduceAdd, reduceCtorEq, Int.reduceLT, Int.reduceLE, Int.reduceSub, Nat.reduceEqDiff, Nat.reduceLT] at h); try exact nz h))
  all_goals (try exact cz)
  exact fin_var (k := 2) (n := 1) (row := encP ⟨v1, v2, v3, v4, v5, v6, v7⟩) rfl rfl rfl ⟨.refl _, .refl _, .refl _, .refl _, .refl _, .refl _, wk_int (wr32u n_v7), trivial⟩ (eP _) (by first | rfl | kernel_rfl) rfl hP
def S_fpage : SpecT := fun args H nx Post => ∃ (r : BR), args = [.ptr 0 0 0] ∧ H = [(0, rdB r)] ∧ nx = 1 ∧ r.b.length ≤ 1000000 ∧ Post (.agg (encP (pageR r).1)) [(0, rdB (pageR r).2)] 2
theorem fpage_ok [Syms] : S_fpage.ok Try.prog 103 := by
  rintro args H nx Post ⟨r, rfl, rfl, rfl, h1, h⟩
  exact FnSem.forget (fnT_sound tys_ok fns_ok noneT_det cFpg_ok mixed (fpage_t r h1 h))
end Go.Proofs.Ytajieadpaeggcaa

end
