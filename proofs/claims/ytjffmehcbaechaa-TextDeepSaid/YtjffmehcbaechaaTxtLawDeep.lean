/-
  The statement TextDeep: its walk.
-/
import Derived.Test.YtjffmehcbaechaaTxtKnown
set_option linter.unusedVariables false
set_option linter.unusedSimpArgs false
namespace Go.Proofs.Ytjffmehcbaechaa
open Go Go.Av
set_option maxRecDepth 100000
set_option maxHeartbeats 4000000
def tdPre : List UInt8 := [109, 101, 115, 115, 97, 103, 101, 32, 109, 32, 123, 32]
def tdGrp : List UInt8 := [114, 101, 113, 117, 105, 114, 101, 100, 32, 103, 114, 111, 117, 112, 32, 103, 32, 123, 32]
def tdLeaf : List UInt8 := [111, 112, 116, 105, 111, 110, 97, 108, 32, 98, 111, 111, 108, 32, 98, 59, 32]
def tdReq : List UInt8 := [114, 101, 113, 117, 105, 114, 101, 100, 32, 105, 110, 116, 54, 52, 32]
def tdA : Nat → List UInt8
  | 0 => tdPre
  | i + 1 => tdA i ++ tdGrp
def tdC (n : Nat) : Nat → List UInt8
  | 0 => tdA n ++ tdLeaf
  | i + 1 => tdC n i ++ [125, 32]
def tdNm (i : Nat) : List UInt8 := bytesOf [[.int .u8 (wr .u8 (97 + (i : Int).tmod 26))], [.int .u8 (wr .u8 (97 + wr .i64 ((i : Int).tdiv 26)))]]
def tdW : Nat → List UInt8
  | 0 => tdPre
  | i + 1 => tdW i ++ tdReq ++ tdNm i ++ [59, 32]
theorem tdA_len : ∀ i, (tdA i).length = 12 + 19 * i
  | 0 => rfl
  | i + 1 => by rw [tdA, List.length_append, tdA_len i]; show _ + 19 = _; omega
theorem tdC_len (n : Nat) : ∀ i, (tdC n i).length = 29 + 19 * n + 2 * i
  | 0 => by rw [tdC, List.length_append, tdA_len]; show _ + 17 = _; omega
  | i + 1 => by rw [tdC, List.length_append, tdC_len n i]; show _ + 2 = _; omega
theorem tdW_len : ∀ i, (tdW i).length = 12 + 19 * i
  | 0 => rfl
  | i + 1 => by
    rw [tdW, List.length_append, List.length_append, List.length_append, tdW_len i]
    show _ + 15 + 2 + 2 = _; omega
theorem deep_parse : ∀ n, n < 11 → 5 ≤ n → (n ≤ 7 → (parseF (tdC n n ++ [125])).2 = 0 ∧ (parseF (tdC n n ++ [125])).1.length = n + 2) ∧ (8 ≤ n → (parseF (tdC n n ++ [125])).2 = 11) := by decide +kernel
theorem wide_parse : ∀ m, m < 43 → 36 ≤ m → (m ≤ 39 → (parseF (tdW m ++ [125])).2 = 0 ∧ (parseF (tdW m ++ [125])).1.length = m + 1) ∧ (40 ≤ m → (parseF (tdW m ++ [125])).2 = 4) := by decide +kernel
abbrev cTD : CallT := pickT 12 (immT S_known6) (pickT 15 (valT G_within6) (pickT 16 (immT S_parse) noneT))
theorem cTD_ok [Syms] : cTD.ok Try.prog := pickT_imm_ok known6_ok (pickT_val_ok within6_ok (pickT_imm_ok parse_ok noneT_ok))
theorem ldeep_t [Syms] (a b : Int) :
    fnT noneT cTD (fnTab fns) (tyTab tys) (plTab plt) 100 5 [.int .i64 a, .int .i64 b] [] 0 (fun v H _ => v = .bool true ∧ H = []) := by
  repeat' (first | (refine And.intro ?_ ?_) | (intro h; (try first | replace h := of_decide_eq_true h | replace h := of_decide_eq_false h); (try simp only [sg] at h); (try simp only [sx, ↓reduceIte, Nat.reduceAdd, reduceCtorEq, Int.reduceLT, Int.reduceLE, Int.reduceSub, Nat.reduceEqDiff, Nat.reduceLT] at h); try exact nz h))
  all_goals (try exact cz)
  refine ⟨a, 6, rfl, ⟨by omega, by omega⟩, ?_⟩
  obtain ⟨hw1, hw2⟩ := wi_range (a := a) (n := 6) (by omega)
  obtain ⟨x, hx⟩ := Int.eq_ofNat_of_zero_le hw1
  rw [hx] at hw2 ⊢
  clear hw1 hx
  have hx6 : x < 6 := by omega
  repeat' (first | (refine And.intro ?_ ?_) | (intro h; (try first | replace h := of_decide_eq_true h | replace h := of_decide_eq_false h); (try simp only [sg] at h); (try simp only [sx, ↓reduceIte, Nat.reduceAdd, reduceCtorEq, Int.reduceLT, Int.reduceLE, Int.reduceSub, Nat.reduceEqDiff, Nat.reduceLT] at h); try exact nz h))
  all_goals (try exact cz)
  refine ⟨b, 7, rfl, ⟨by omega, by omega⟩, ?_⟩
  obtain ⟨hw1, hw3⟩ := wi_range (a := b) (n := 7) (by omega)
  obtain ⟨y, hy⟩ := Int.eq_ofNat_of_zero_le hw1
  rw [hy] at hw3 ⊢
  clear hw1 hy
  have hy7 : y < 7 := by omega
  obtain ⟨n, hn⟩ : ∃ n, n = 5 + x := ⟨_, rfl⟩
  obtain ⟨m, hm⟩ : ∃ m, m = 36 + y := ⟨_, rfl⟩
  have hdp := deep_parse n (by omega) (by omega)
  have hwp := wide_parse m (by omega) (by omega)
  repeat' (first | (refine And.intro ?_ ?_) | (intro h; (try first | replace h := of_decide_eq_true h | replace h := of_decide_eq_false h); (try simp only [sg] at h); (try simp only [sx, ↓reduceIte, Nat.reduceAdd, reduceCtorEq, Int.reduceLT, Int.reduceLE, Int.reduceSub, Nat.reduceEqDiff, Nat.reduceLT] at h); try exact nz h))
  all_goals (try exact cz)
  refine ⟨fun q st => ∃ i : Nat, (i ≤ n ∧ q = n - i) ∧ st = ⟨[(0, .int .i64 n), (1, .int .i64 m), (5, .str (tdA i)), (6, .int .i64 i)], [], 0⟩, ⟨_, ⟨[(0, .int .i64 n), (1, .int .i64 m), (5, .str (tdA 0)), (6, .int .i64 (0 : Nat))], [], 0⟩, reb_num [] (by first | rfl | kernel_rfl) ⟨wk_int (by omega), wk_int (by omega), .refl _, .refl _, trivial⟩ trivial, 0, ⟨by omega, rfl⟩, rfl⟩, ?_⟩
  rintro q st ⟨i, ⟨hi, rfl⟩, rfl⟩
  have hl := tdA_len i
  by_cases hin : i < n
  · have hle : (tdA i).length + 19 ≤ 9223372036854775807 := by omega
    repeat' (first | (refine And.intro ?_ ?_) | (intro h; (try first | replace h := of_decide_eq_true h | replace h := of_decide_eq_false h); (try simp only [sg] at h); (try simp only [sx, ↓reduceIte, Nat.reduceAdd, reduceCtorEq, Int.reduceLT, Int.reduceLE, Int.reduceSub, Nat.reduceEqDiff, Nat.reduceLT] at h); try exact nz h))
    all_goals (try exact cz)
    all_goals (try ((with_reducible show (_ : Nat) ≤ (_ : Nat)); exact hle))
    exact ⟨_, ⟨[(0, .int .i64 n), (1, .int .i64 m), (5, .str (tdA (i + 1))), (6, .int .i64 (i + 1 : Nat))], [], 0⟩, reb_num [] (by first | rfl | kernel_rfl) ⟨.refl _, .refl _, .refl _, wk_int (by omega), trivial⟩ trivial, ⟨i + 1, ⟨by omega, rfl⟩, rfl⟩, by omega⟩
  obtain rfl : i = n := by omega
  have hle : (tdA i).length + 17 ≤ 9223372036854775807 := by omega
  repeat' (first | (refine And.intro ?_ ?_) | (intro h; (try first | replace h := of_decide_eq_true h | replace h := of_decide_eq_false h); (try simp only [sg] at h); (try simp only [sx, ↓reduceIte, Nat.reduceAdd, reduceCtorEq, Int.reduceLT, Int.reduceLE, Int.reduceSub, Nat.reduceEqDiff, Nat.reduceLT] at h); try exact nz h))
  all_goals (try exact cz)
  all_goals (try ((with_reducible show (_ : Nat) ≤ (_ : Nat)); exact hle))
  refine ⟨fun q st => ∃ j : Nat, (j ≤ i ∧ q = i - j) ∧ st = ⟨[(0, .int .i64 i), (1, .int .i64 m), (5, .str (tdC i j)), (7, .int .i64 j)], [], 0⟩, ⟨_, ⟨[(0, .int .i64 i), (1, .int .i64 m), (5, .str (tdC i 0)), (7, .int .i64 (0 : Nat))], [], 0⟩, reb_num [] (by first | rfl | kernel_rfl) ⟨.refl _, .refl _, .refl _, .refl _, trivial⟩ trivial, 0, ⟨by omega, rfl⟩, rfl⟩, ?_⟩
  rintro q st ⟨j, ⟨hj, rfl⟩, rfl⟩
  have hl2 := tdC_len i j
  by_cases hjn : j < i
  · have hle : (tdC i j).length + 2 ≤ 9223372036854775807 := by omega
    repeat' (first | (refine And.intro ?_ ?_) | (intro h; (try first | replace h := of_decide_eq_true h | replace h := of_decide_eq_false h); (try simp only [sg] at h); (try simp only [sx, ↓reduceIte, Nat.reduceAdd, reduceCtorEq, Int.reduceLT, Int.reduceLE, Int.reduceSub, Nat.reduceEqDiff, Nat.reduceLT] at h); try exact nz h))
    all_goals (try exact cz)
    all_goals (try ((with_reducible show (_ : Nat) ≤ (_ : Nat)); exact hle))
    exact ⟨_, ⟨[(0, .int .i64 i), (1, .int .i64 m), (5, .str (tdC i (j + 1))), (7, .int .i64 (j + 1 : Nat))], [], 0⟩, reb_num [] (by first | rfl | kernel_rfl) ⟨.refl _, .refl _, .refl _, wk_int (by omega), trivial⟩ trivial, ⟨j + 1, ⟨by omega, rfl⟩, rfl⟩, by omega⟩
  obtain rfl : j = i := by omega
  have hle : (tdC j j).length + 1 ≤ 9223372036854775807 := by omega
  repeat' (first | (refine And.intro ?_ ?_) | (intro h; (try first | replace h := of_decide_eq_true h | replace h := of_decide_eq_false h); (try simp only [sg] at h); (try simp only [sx, ↓reduceIte, Nat.reduceAdd, reduceCtorEq, Int.reduceLT, Int.reduceLE, Int.reduceSub, Nat.reduceEqDiff, Nat.reduceLT] at h); try exact nz h))
  all_goals (try exact cz)
  all_goals (try ((with_reducible show (_ : Nat) ≤ (_ : Nat)); exact hle))
  refine ⟨tdC j j ++ [125], rfl, by rw [List.length_append]; show _ + 1 ≤ _; omega, ?_⟩
  generalize parseF (tdC j j ++ [125]) = p at *
  repeat' (first | (refine And.intro ?_ ?_) | (intro h; (try first | replace h := of_decide_eq_true h | replace h := of_decide_eq_false h); (try simp only [sg] at h); (try simp only [sx, ↓reduceIte, Nat.reduceAdd, reduceCtorEq, Int.reduceLT, Int.reduceLE, Int.reduceSub, Nat.reduceEqDiff, Nat.reduceLT] at h); try exact nz h))
  all_goals (try exact cz)
  refine ⟨fun q st => ∃ k : Nat, (k ≤ m ∧ q = m - k) ∧ st = ⟨[(0, .int .i64 j), (1, .int .i64 m), (8, vF p.1), (9, .int .i64 p.2), (10, .str (tdW k)), (11, .int .i64 k)], [], 0⟩, ⟨_, ⟨[(0, .int .i64 j), (1, .int .i64 m), (8, vF p.1), (9, .int .i64 p.2), (10, .str (tdW 0)), (11, .int .i64 (0 : Nat))], [], 0⟩, reb_flat [0, 1, 8, 9, 10, 11] rfl, 0, ⟨by omega, rfl⟩, rfl⟩, ?_⟩
  rintro q st ⟨k, ⟨hk, rfl⟩, rfl⟩
  have hl3 := tdW_len k
  by_cases hkn : k < m
  · have hle : (tdW k).length + 15 ≤ 9223372036854775807 := by omega
    have hle2 : (tdW k ++ tdReq).length + 2 ≤ 9223372036854775807 := by rw [List.length_append]; show _ + 15 + 2 ≤ _; omega
    have hle3 : (tdW k ++ tdReq ++ tdNm k).length + 2 ≤ 9223372036854775807 := by rw [List.length_append, List.length_append]; show _ + 15 + 2 + 2 ≤ _; omega
    have ht0 : 0 ≤ (k : Int).tmod 26 ∧ (k : Int).tmod 26 < 26 := ⟨Int.tmod_nonneg 26 (by omega), Int.tmod_lt_of_pos _ (by decide)⟩
    have ht1 : wr .i64 ((k : Int).tdiv 26) = (k : Int) / 26 := by
      rw [Int.tdiv_eq_ediv_of_nonneg (by omega)]
      unfold wr
      exact if_pos ⟨by show (-9223372036854775808 : Int) ≤ _; omega, by show _ ≤ (9223372036854775807 : Int); omega⟩
    repeat' (first | (refine And.intro ?_ ?_) | (intro h; (try first | replace h := of_decide_eq_true h | replace h := of_decide_eq_false h); (try simp only [sg] at h); (try simp only [sx, ↓reduceIte, Nat.reduceAdd, reduceCtorEq, Int.reduceLT, Int.reduceLE, Int.reduceSub, Nat.reduceEqDiff, Nat.reduceLT] at h); try exact nz h))
    all_goals (try exact cz)
    all_goals (try ((with_reducible show (_ : Nat) ≤ (_ : Nat)); first | exact hle | exact hle2 | exact hle3))
    exact ⟨_, ⟨[(0, .int .i64 j), (1, .int .i64 m), (8, vF p.1), (9, .int .i64 p.2), (10, .str (tdW (k + 1))), (11, .int .i64 (k + 1 : Nat))], [], 0⟩, reb_num [] (by first | rfl | kernel_rfl) ⟨.refl _, .refl _, .refl _, .refl _, .refl _, wk_int (by omega), trivial⟩ trivial, ⟨k + 1, ⟨by omega, rfl⟩, rfl⟩, by omega⟩
  obtain rfl : k = m := by omega
  have hle : (tdW k).length + 1 ≤ 9223372036854775807 := by omega
  repeat' (first | (refine And.intro ?_ ?_) | (intro h; (try first | replace h := of_decide_eq_true h | replace h := of_decide_eq_false h); (try simp only [sg] at h); (try simp only [sx, ↓reduceIte, Nat.reduceAdd, reduceCtorEq, Int.reduceLT, Int.reduceLE, Int.reduceSub, Nat.reduceEqDiff, Nat.reduceLT] at h); try exact nz h))
  all_goals (try exact cz)
  all_goals (try ((with_reducible show (_ : Nat) ≤ (_ : Nat)); exact hle))
  refine ⟨tdW k ++ [125], rfl, by rw [List.length_append]; show _ + 1 ≤ _; omega, ?_⟩
  generalize parseF (tdW k ++ [125]) = w at *
  obtain ⟨p1, p2⟩ := p
  obtain ⟨w1, w2⟩ := w
  simp only at hdp hwp
  by_cases h7 : j ≤ 7
  · obtain ⟨g1, g2⟩ := hdp.1 h7
    by_cases h39 : k ≤ 39
    · obtain ⟨g3, g4⟩ := hwp.1 h39
      clear hdp hwp
      repeat' (first | (refine And.intro ?_ ?_) | (intro h; (try first | replace h := of_decide_eq_true h | replace h := of_decide_eq_false h); (try simp only [sg] at h); (try simp only [sx, ↓reduceIte, Nat.reduceAdd, reduceCtorEq, Int.reduceLT, Int.reduceLE, Int.reduceSub, Nat.reduceEqDiff, Nat.reduceLT] at h); try exact nz h))
      all_goals (try exact cz)
      all_goals exact ⟨_, reb_flat [4] rfl, _, rfl, rfl, rfl⟩
    · have g3 : w2 = 4 := hwp.2 (by omega)
      clear hdp hwp
      subst g3
      repeat' (first | (refine And.intro ?_ ?_) | (intro h; (try first | replace h := of_decide_eq_true h | replace h := of_decide_eq_false h); (try simp only [sg] at h); (try simp only [sx, ↓reduceIte, Nat.reduceAdd, reduceCtorEq, Int.reduceLT, Int.reduceLE, Int.reduceSub, Nat.reduceEqDiff, Nat.reduceLT] at h); try exact nz h))
      all_goals (try exact cz)
      all_goals exact ⟨_, reb_flat [4] rfl, _, rfl, rfl, rfl⟩
  · have g1 := hdp.2 (by omega)
    by_cases h39 : k ≤ 39
    · obtain ⟨g3, g4⟩ := hwp.1 h39
      clear hdp hwp
      repeat' (first | (refine And.intro ?_ ?_) | (intro h; (try first | replace h := of_decide_eq_true h | replace h := of_decide_eq_false h); (try simp only [sg] at h); (try simp only [sx, ↓reduceIte, Nat.reduceAdd, reduceCtorEq, Int.reduceLT, Int.reduceLE, Int.reduceSub, Nat.reduceEqDiff, Nat.reduceLT] at h); try exact nz h))
      all_goals (try exact cz)
      all_goals exact ⟨_, reb_flat [4] rfl, _, rfl, rfl, rfl⟩
    · have g3 : w2 = 4 := hwp.2 (by omega)
      clear hdp hwp
      subst g3
      repeat' (first | (refine And.intro ?_ ?_) | (intro h; (try first | replace h := of_decide_eq_true h | replace h := of_decide_eq_false h); (try simp only [sg] at h); (try simp only [sx, ↓reduceIte, Nat.reduceAdd, reduceCtorEq, Int.reduceLT, Int.reduceLE, Int.reduceSub, Nat.reduceEqDiff, Nat.reduceLT] at h); try exact nz h))
      all_goals (try exact cz)
      all_goals exact ⟨_, reb_flat [4] rfl, _, rfl, rfl, rfl⟩
theorem ldeep_sem [Syms] (a b : Int) : FnSem Try.prog 5 [.int .i64 a, .int .i64 b] [] 0 (fun v H _ => v = .bool true ∧ H = []) :=
  fnT_sound tys_ok fns_ok noneT_det cTD_ok mixed (ldeep_t a b)
end Go.Proofs.Ytjffmehcbaechaa
