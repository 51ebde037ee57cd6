/-
  The statement TextLines: its walk.
-/
import Derived.Test.YtjffmehcbaechaaTxtPPrint
import Derived.Test.YtjffmehcbaechaaTxtLinesP
import Derived.Test.YtjffmehcbaechaaTxtKnown
import Derived.Test.YtjffmehcbaechaaSchMakeS
set_option linter.unusedVariables false
set_option linter.unusedSimpArgs false
namespace Go.Proofs.Ytjffmehcbaechaa
open Go Go.Av
set_option maxRecDepth 100000
set_option maxHeartbeats 4000000
abbrev cTLn : CallT := pickT 12 (immT S_known6) (pickT 14 (immT S_make) (pickT 19 (immT S_pPrint) noneT))
theorem cTLn_ok [Syms] : cTLn.ok Try.prog := pickT_imm_ok known6_ok (pickT_imm_ok make_ok' (pickT_imm_ok pPrint_ok noneT_ok))
def tlA (s : List Fd) (t : List UInt8) (i : Nat) : St := ⟨[(3, vF s), (4, .str t), (5, .int .i64 (nlC (t.take i))), (6, .int .i64 (0 : Nat)), (7, .int .i64 i)], [], 0⟩
def tlB (s : List Fd) (t : List UInt8) (i : Nat) : St := ⟨[(3, vF s), (4, .str t), (5, .int .i64 (nlC t)), (6, .int .i64 (grC (s.take i))), (8, .int .i64 i)], [], 0⟩
theorem nlC_le (t : List UInt8) (i : Nat) : nlC (t.take i) ≤ i := Nat.le_trans List.countP_le_length (by rw [List.length_take]; omega)
theorem grC_le (s : List Fd) (i : Nat) : grC (s.take i) ≤ i := Nat.le_trans List.countP_le_length (by rw [List.length_take]; omega)
theorem llines_t [Syms] (ns : List Int) (hn : ns.length ≤ 9223372036854775807) :
    fnT noneT cTLn (fnTab fns) (tyTab tys) (plTab plt) 100 11 [vI ns] [] 0 (fun v H _ => v = .bool true ∧ H = []) := by
  repeat' (first | (refine And.intro ?_ ?_) | (intro h; (try first | replace h := of_decide_eq_true h | replace h := of_decide_eq_false h); (try simp only [sg] at h); (try simp only [sx, ↓reduceIte, Nat.reduceAdd, reduceCtorEq, Int.reduceLT, Int.reduceLE, Int.reduceSub, Nat.reduceEqDiff, Nat.reduceLT] at h); try exact nz h))
  all_goals (try exact cz)
  refine ⟨ns, rfl, hn, ?_⟩
  obtain ⟨t, hp⟩ := make_print ns
  have hml := make_len ns
  have hln := make_lines hp
  have htl := hp.len
  generalize makeF ns = s at *
  have htl : t.length ≤ 896 := by omega
  obtain ⟨u, hu⟩ := hp.pr.last
  have hul : t.length = u.length + 1 := by rw [hu, List.length_append]; rfl
  have hu10 : t.getD u.length 0 = 10 := by rw [hu]; simp
  repeat' (first | (refine And.intro ?_ ?_) | (intro h; (try first | replace h := of_decide_eq_true h | replace h := of_decide_eq_false h); (try simp only [sg] at h); (try simp only [sx, ↓reduceIte, Nat.reduceAdd, reduceCtorEq, Int.reduceLT, Int.reduceLE, Int.reduceSub, Nat.reduceEqDiff, Nat.reduceLT] at h); try exact nz h))
  all_goals (try exact cz)
  refine ⟨s, 9, s.length, t, rfl, ⟨hp.pr, by decide, hp.ok, by omega⟩, ?_⟩
  repeat' (first | (refine And.intro ?_ ?_) | (intro h; (try first | replace h := of_decide_eq_true h | replace h := of_decide_eq_false h); (try simp only [sg] at h); (try simp only [sx, ↓reduceIte, Nat.reduceAdd, reduceCtorEq, Int.reduceLT, Int.reduceLE, Int.reduceSub, Nat.reduceEqDiff, Nat.reduceLT] at h); try exact nz h))
  all_goals (try exact cz)
  refine ⟨fun m st => ∃ i : Nat, (i ≤ t.length ∧ m = t.length - i) ∧ st = tlA s t i, ⟨_, tlA s t 0, reb_flat [3, 4, 5, 6, 7] rfl, 0, ⟨by omega, rfl⟩, rfl⟩, ?_⟩
  rintro m st ⟨i, ⟨hi, rfl⟩, rfl⟩
  have hle := nlC_le t i
  by_cases hin : i < t.length
  · have hsu := nlC_succ hin
    by_cases h10 : (t.getD i 0).toNat = 10
    · rw [if_pos h10] at hsu
      repeat' (first | (refine And.intro ?_ ?_) | (intro h; (try first | replace h := of_decide_eq_true h | replace h := of_decide_eq_false h); (try simp only [sg] at h); (try simp only [sx, ↓reduceIte, Nat.reduceAdd, reduceCtorEq, Int.reduceLT, Int.reduceLE, Int.reduceSub, Nat.reduceEqDiff, Nat.reduceLT] at h); try exact nz h))
      all_goals (try exact cz)
      refine ⟨_, tlA s t (i + 1), reb_num [] (by first | rfl | kernel_rfl) ⟨.refl _, .refl _, wk_int (by omega), .refl _, wk_int (by omega), trivial⟩ trivial, ⟨i + 1, ⟨by omega, rfl⟩, rfl⟩, by omega⟩
    · rw [if_neg h10] at hsu
      repeat' (first | (refine And.intro ?_ ?_) | (intro h; (try first | replace h := of_decide_eq_true h | replace h := of_decide_eq_false h); (try simp only [sg] at h); (try simp only [sx, ↓reduceIte, Nat.reduceAdd, reduceCtorEq, Int.reduceLT, Int.reduceLE, Int.reduceSub, Nat.reduceEqDiff, Nat.reduceLT] at h); try exact nz h))
      all_goals (try exact cz)
      refine ⟨_, tlA s t (i + 1), reb_num [] (by first | rfl | kernel_rfl) ⟨.refl _, .refl _, wk_int (by omega), .refl _, wk_int (by omega), trivial⟩ trivial, ⟨i + 1, ⟨by omega, rfl⟩, rfl⟩, by omega⟩
  · obtain rfl : i = t.length := by omega
    repeat' (first | (refine And.intro ?_ ?_) | (intro h; (try first | replace h := of_decide_eq_true h | replace h := of_decide_eq_false h); (try simp only [sg] at h); (try simp only [sx, ↓reduceIte, Nat.reduceAdd, reduceCtorEq, Int.reduceLT, Int.reduceLE, Int.reduceSub, Nat.reduceEqDiff, Nat.reduceLT] at h); try exact nz h))
    all_goals (try exact cz)
    refine ⟨fun m st => ∃ i : Nat, (i ≤ s.length ∧ m = s.length - i) ∧ st = tlB s t i, ⟨_, tlB s t 0, reb_num [] (by first | rfl | kernel_rfl) ⟨.refl _, .refl _, wk_int (by rw [List.take_length]), .refl _, .refl _, trivial⟩ trivial, 0, ⟨by omega, rfl⟩, rfl⟩, ?_⟩
    rintro m st ⟨i, ⟨hi, rfl⟩, rfl⟩
    have hgl := grC_le s i
    by_cases hin : i < s.length
    · have hsu := grC_succ hin
      by_cases h0 : (s.getD i default).kind = 0
      · rw [if_pos h0] at hsu
        repeat' (first | (refine And.intro ?_ ?_) | (intro h; (try first | replace h := of_decide_eq_true h | replace h := of_decide_eq_false h); (try simp only [sg] at h); (try simp only [sx, ↓reduceIte, Nat.reduceAdd, reduceCtorEq, Int.reduceLT, Int.reduceLE, Int.reduceSub, Nat.reduceEqDiff, Nat.reduceLT] at h); try exact nz h))
        all_goals (try exact cz)
        refine ⟨_, tlB s t (i + 1), reb_num [] (by first | rfl | kernel_rfl) ⟨.refl _, .refl _, .refl _, wk_int (by omega), wk_int (by omega), trivial⟩ trivial, ⟨i + 1, ⟨by omega, rfl⟩, rfl⟩, by omega⟩
      · rw [if_neg h0] at hsu
        repeat' (first | (refine And.intro ?_ ?_) | (intro h; (try first | replace h := of_decide_eq_true h | replace h := of_decide_eq_false h); (try simp only [sg] at h); (try simp only [sx, ↓reduceIte, Nat.reduceAdd, reduceCtorEq, Int.reduceLT, Int.reduceLE, Int.reduceSub, Nat.reduceEqDiff, Nat.reduceLT] at h); try exact nz h))
        all_goals (try exact cz)
        refine ⟨_, tlB s t (i + 1), reb_num [] (by first | rfl | kernel_rfl) ⟨.refl _, .refl _, .refl _, wk_int (by omega), wk_int (by omega), trivial⟩ trivial, ⟨i + 1, ⟨by omega, rfl⟩, rfl⟩, by omega⟩
    · obtain rfl : i = s.length := by omega
      have hts : grC (s.take s.length) = grC s := by rw [List.take_length]
      have hq : (((t.length : Int) - 1).toNat) = u.length := by omega
      have hx1 : t.getD (((t.length : Int) - 1).toNat) 0 = 10 := by rw [hq]; exact hu10
      repeat' (first | (refine And.intro ?_ ?_) | (intro h; (try first | replace h := of_decide_eq_true h | replace h := of_decide_eq_false h); (try simp only [sg, hx1] at h); (try simp only [sx, ↓reduceIte, Nat.reduceAdd, reduceCtorEq, Int.reduceLT, Int.reduceLE, Int.reduceSub, Nat.reduceEqDiff, Nat.reduceLT] at h); try exact nz h))
      all_goals (try exact cz)
      refine ⟨_, reb_flat [2] rfl, _, rfl, congrArg AVal.bool ?_, rfl⟩
      show decide ((((t.getD (((t.length : Int) - 1).toNat) 0).toNat : Nat) : Int) = 10) = true
      rw [hx1]; rfl
theorem llines_sem [Syms] (ns : List Int) (hn : ns.length ≤ 9223372036854775807) :
    FnSem Try.prog 11 [vI ns] [] 0 (fun v H _ => v = .bool true ∧ H = []) :=
  fnT_sound tys_ok fns_ok noneT_det cTLn_ok mixed (llines_t ns hn)
end Go.Proofs.Ytjffmehcbaechaa
