/-
  The document's 'Sign', 'Name', 'twice'.
-/
import Derived.Test.YtjffmehcbaechaaSchName
import Derived.Test.YtjffmehcbaechaaSchRWalk
set_option linter.unusedVariables false
set_option linter.unusedSimpArgs false
namespace Go.Proofs.Ytjffmehcbaechaa
open Go Go.Av
set_option maxRecDepth 100000
set_option maxHeartbeats 4000000
/-- A sign, by its number. -/
def signN (c : Nat) : Bool := decide ((97 ≤ c ∧ c ≤ 122) ∨ (48 ≤ c ∧ c ≤ 57) ∨ c = 95)
theorem signN_eq (c : UInt8) : signN c.toNat = signF c := by
  rw [Bool.eq_iff_iff, signN, decide_eq_true_eq, signF, letterF]
  simp only [Bool.or_eq_true, Bool.and_eq_true, decide_eq_true_eq]
  omega
theorem sign_t [Syms] (c : Nat) : fnT noneT noneT (fnTab fns) (tyTab tys) (plTab plt) 100 47 [.int .u8 c] [] 0 (fun v H _ => v = .bool (signN c) ∧ H = []) := by
  generalize hs : signN c = b
  rw [signN] at hs
  repeat' (first | (refine And.intro ?_ ?_) | (intro h; (try first | replace h := of_decide_eq_true h | replace h := of_decide_eq_false h); (try simp only [sg] at h); (try simp only [sx, ↓reduceIte, Nat.reduceAdd, reduceCtorEq, Int.reduceLT, Int.reduceLE, Int.reduceSub, Nat.reduceEqDiff, Nat.reduceLT] at h); try exact nz h))
  all_goals (try exact cz)
  all_goals
    refine ⟨_, reb_flat [2] rfl, _, rfl, congrArg AVal.bool ?_, rfl⟩
    rw [← hs, Bool.eq_iff_iff, decide_eq_true_eq]
    try simp only [↓reduceIte, decide_eq_true_eq, Bool.false_eq_true]
    first | omega | (simp only [true_iff]; omega)
def S_sign : SpecI := fun args K => ∃ c : Nat, args = [.int .u8 c] ∧ K (.bool (signN c))
theorem sign_ok [Syms] : ImmOk Try.prog 47 S_sign := by
  rintro args K ⟨c, rfl, hk⟩
  exact ⟨rfl, _, rfl, hk, fnI tys_ok fns_ok noneT_det noneT_ok mixed (sign_t c)⟩
abbrev cSg : CallT := pickT 47 (immT S_sign) noneT
theorem cSg_ok [Syms] : cSg.ok Try.prog := pickT_imm_ok sign_ok noneT_ok
theorem rname_t [Syms] (s : List UInt8) (hs : s.length ≤ 5000) :
    fnT noneT cSg (fnTab fns) (tyTab tys) (plTab plt) 100 49 [.str s] [] 0 (fun v H _ => v = .bool (nameF s) ∧ H = []) := by
  by_cases h0 : s = []
  · subst h0
    repeat' (first | (refine And.intro ?_ ?_) | (intro h; (try first | replace h := of_decide_eq_true h | replace h := of_decide_eq_false h); (try simp only [sg] at h); (try simp only [sx, ↓reduceIte, Nat.reduceAdd, reduceCtorEq, Int.reduceLT, Int.reduceLE, Int.reduceSub, Nat.reduceEqDiff, Nat.reduceLT] at h); try exact nz h))
    all_goals (try exact cz)
    all_goals exact ⟨_, reb_flat [2] rfl, _, rfl, rfl, rfl⟩
  have hl0 : 0 < s.length := List.length_pos_iff.2 h0
  by_cases hl : 12 < s.length
  · have hn : nameF s = false := by rw [nameF, decide_eq_false (show ¬ s.length ≤ 12 by omega)]; simp
    rw [hn]
    repeat' (first | (refine And.intro ?_ ?_) | (intro h; (try first | replace h := of_decide_eq_true h | replace h := of_decide_eq_false h); (try simp only [sg] at h); (try simp only [sx, ↓reduceIte, Nat.reduceAdd, reduceCtorEq, Int.reduceLT, Int.reduceLE, Int.reduceSub, Nat.reduceEqDiff, Nat.reduceLT] at h); try exact nz h))
    all_goals (try exact cz)
    exact ⟨_, reb_flat [2] rfl, _, rfl, rfl, rfl⟩
  · have hb := (s.getD 0 0).toNat_lt
    have hok := okAt_num s 0
    have hno := nameF_no (k := 0) h0 hl hl0
    generalize hc : (s.getD 0 0).toNat = c at *
    by_cases hlet : 97 ≤ c ∧ c ≤ 122
    · repeat' (first | (refine And.intro ?_ ?_) | (intro h; (try first | replace h := of_decide_eq_true h | replace h := of_decide_eq_false h); (try simp only [sg] at h); (try simp only [sx, ↓reduceIte, Nat.reduceAdd, reduceCtorEq, Int.reduceLT, Int.reduceLE, Int.reduceSub, Nat.reduceEqDiff, Nat.reduceLT] at h); try exact nz h))
      all_goals (try exact cz)
      refine ⟨fun m st => ∃ k : Nat, (k ≤ s.length ∧ m = s.length - k ∧ ∀ j, j < k → okAt s j = true) ∧ st = ⟨[(0, .str s), (3, .int .i64 k)], [], 0⟩, ⟨_, ⟨[(0, .str s), (3, .int .i64 (0 : Nat))], [], 0⟩, reb_flat [0, 3] rfl, 0, ⟨by omega, rfl, fun j h => by omega⟩, rfl⟩, ?_⟩
      rintro m st ⟨k, ⟨hk, rfl, hj⟩, rfl⟩
      by_cases hin : k < s.length
      · have hsg : signN (s.getD k 0).toNat = true ↔ okAt s k = true := by
          rw [okAt_num, signN, decide_eq_true_eq]
          by_cases hk0 : k = 0
          · subst hk0; omega
          · omega
        by_cases hsk : signN (s.getD k 0).toNat = true
        · repeat' (first | (refine And.intro ?_ ?_) | (intro h; (try first | replace h := of_decide_eq_true h | replace h := of_decide_eq_false h); (try simp only [sg] at h); (try simp only [sx, ↓reduceIte, Nat.reduceAdd, reduceCtorEq, Int.reduceLT, Int.reduceLE, Int.reduceSub, Nat.reduceEqDiff, Nat.reduceLT] at h); try exact nz h))
          all_goals (try exact cz)
          refine ⟨_, rfl, ?_⟩
          rw [show signN (s.getD ((k : Nat) : Int).toNat 0).toNat = _ from hsk]
          repeat' (first | (refine And.intro ?_ ?_) | (intro h; (try first | replace h := of_decide_eq_true h | replace h := of_decide_eq_false h); (try simp only [sg] at h); (try simp only [sx, ↓reduceIte, Nat.reduceAdd, reduceCtorEq, Int.reduceLT, Int.reduceLE, Int.reduceSub, Nat.reduceEqDiff, Nat.reduceLT] at h); try exact nz h))
          all_goals (try exact cz)
          refine ⟨_, ⟨[(0, .str s), (3, .int .i64 (k + 1 : Nat))], [], 0⟩, reb_flat [0, 3] rfl, ⟨k + 1, ⟨by omega, rfl, fun j hlt => ?_⟩, rfl⟩, by omega⟩
          rcases Nat.lt_or_ge j k with h' | h'
          · exact hj j h'
          · obtain rfl : j = k := by omega
            exact hsg.1 hsk
        · have hn : nameF s = false := Bool.eq_false_iff.2 fun hn => hsk (hsg.2 ((nameF_of h0 hl).1 hn k hin))
          rw [Bool.not_eq_true] at hsk
          rw [hn]
          repeat' (first | (refine And.intro ?_ ?_) | (intro h; (try first | replace h := of_decide_eq_true h | replace h := of_decide_eq_false h); (try simp only [sg] at h); (try simp only [sx, ↓reduceIte, Nat.reduceAdd, reduceCtorEq, Int.reduceLT, Int.reduceLE, Int.reduceSub, Nat.reduceEqDiff, Nat.reduceLT] at h); try exact nz h))
          all_goals (try exact cz)
          refine ⟨_, rfl, ?_⟩
          rw [show signN (s.getD ((k : Nat) : Int).toNat 0).toNat = _ from hsk]
          repeat' (first | (refine And.intro ?_ ?_) | (intro h; (try first | replace h := of_decide_eq_true h | replace h := of_decide_eq_false h); (try simp only [sg] at h); (try simp only [sx, ↓reduceIte, Nat.reduceAdd, reduceCtorEq, Int.reduceLT, Int.reduceLE, Int.reduceSub, Nat.reduceEqDiff, Nat.reduceLT] at h); try exact nz h))
          all_goals (try exact cz)
          exact ⟨_, reb_flat [2] rfl, _, rfl, rfl, rfl⟩
      · have hn : nameF s = true := (nameF_of h0 hl).2 fun j hjl => hj j (by omega)
        rw [hn]
        repeat' (first | (refine And.intro ?_ ?_) | (intro h; (try first | replace h := of_decide_eq_true h | replace h := of_decide_eq_false h); (try simp only [sg] at h); (try simp only [sx, ↓reduceIte, Nat.reduceAdd, reduceCtorEq, Int.reduceLT, Int.reduceLE, Int.reduceSub, Nat.reduceEqDiff, Nat.reduceLT] at h); try exact nz h))
        all_goals (try exact cz)
        exact ⟨_, reb_flat [2] rfl, _, rfl, rfl, rfl⟩
    · rw [hno (by omega)]
      repeat' (first | (refine And.intro ?_ ?_) | (intro h; (try first | replace h := of_decide_eq_true h | replace h := of_decide_eq_false h); (try simp only [sg] at h); (try simp only [sx, ↓reduceIte, Nat.reduceAdd, reduceCtorEq, Int.reduceLT, Int.reduceLE, Int.reduceSub, Nat.reduceEqDiff, Nat.reduceLT] at h); try exact nz h))
      all_goals (try exact cz)
      all_goals exact ⟨_, reb_flat [2] rfl, _, rfl, rfl, rfl⟩
def S_name' : SpecI := fun args K => ∃ s, args = [.str s] ∧ s.length ≤ 1000 ∧ K (.bool (nameF s))
theorem rname_ok [Syms] : ImmOk Try.prog 49 S_name' := by
  rintro args K ⟨s, rfl, h, hk⟩
  exact ⟨rfl, _, rfl, hk, fnI tys_ok fns_ok noneT_det cSg_ok mixed (rname_t s (by omega))⟩
theorem twice_t [Syms] (fs : List Fd) (ps : List Int) (i : Nat) (hi : i < fs.length) (hp : ps.length = fs.length) (hl : fs.length < 1000) :
    fnT noneT noneT (fnTab fns) (tyTab tys) (plTab plt) 100 52 [vF fs, vI ps, .int .i64 i] [] 0 (fun v H _ => v = .bool (twinF fs ps i) ∧ H = []) := by
  refine ⟨fun n s => ∃ k : Nat, (k ≤ i ∧ n = i - k ∧ ∀ j, j < k → twinAt fs ps i j = false) ∧ s = ⟨[(0, vF fs), (1, vI ps), (2, .int .i64 i), (7, .int .i64 k)], [], 0⟩,
    ⟨_, ⟨[(0, vF fs), (1, vI ps), (2, .int .i64 i), (7, .int .i64 (0 : Nat))], [], 0⟩, reb_flat [0, 1, 2, 7] rfl, 0, ⟨by omega, rfl, fun j h => by omega⟩, rfl⟩, ?_⟩
  rintro n s ⟨k, ⟨hk, rfl, hj⟩, rfl⟩
  by_cases hki : k < i
  · have next : twinAt fs ps i k = false → ∀ j, j < k + 1 → twinAt fs ps i j = false := fun h j hlt => by
      rcases Nat.lt_or_ge j k with h' | h'
      · exact hj j h'
      · obtain rfl : j = k := by omega
        exact h
    have yes : twinAt fs ps i k = true → twinF fs ps i = true := fun h => List.any_eq_true.2 ⟨k, List.mem_range.2 hki, h⟩
    by_cases hpk : ps.getD k 0 = ps.getD i 0
    · cases hnk : eqb (fs.getD k default).name (fs.getD i default).name
      · have hf : twinAt fs ps i k = false := by rw [twinAt, hnk]; simp
        repeat' (first | (refine And.intro ?_ ?_) | (intro h; (try first | replace h := of_decide_eq_true h | replace h := of_decide_eq_false h); (try simp only [sg] at h); (try simp only [sx, ↓reduceIte, Nat.reduceAdd, reduceCtorEq, Int.reduceLT, Int.reduceLE, Int.reduceSub, Nat.reduceEqDiff, Nat.reduceLT] at h); try exact nz h))
        all_goals (try exact cz)
        all_goals (try exact absurd (show eqb (fs.getD k default).name (fs.getD i default).name = true from ‹_›) (by rw [hnk]; decide))
        all_goals exact ⟨_, ⟨[(0, vF fs), (1, vI ps), (2, .int .i64 i), (7, .int .i64 (k + 1 : Nat))], [], 0⟩, reb_flat [0, 1, 2, 7] rfl, ⟨k + 1, ⟨by omega, rfl, next hf⟩, rfl⟩, by omega⟩
      · have hf : twinAt fs ps i k = true := by rw [twinAt, hnk, decide_eq_true hpk]; rfl
        rw [yes hf]
        repeat' (first | (refine And.intro ?_ ?_) | (intro h; (try first | replace h := of_decide_eq_true h | replace h := of_decide_eq_false h); (try simp only [sg] at h); (try simp only [sx, ↓reduceIte, Nat.reduceAdd, reduceCtorEq, Int.reduceLT, Int.reduceLE, Int.reduceSub, Nat.reduceEqDiff, Nat.reduceLT] at h); try exact nz h))
        all_goals (try exact cz)
        all_goals (try exact absurd (show eqb (fs.getD k default).name (fs.getD i default).name = false from ‹_›) (by rw [hnk]; decide))
        all_goals exact ⟨_, reb_flat [6] rfl, _, rfl, rfl, rfl⟩
    · have hf : twinAt fs ps i k = false := by rw [twinAt, decide_eq_false hpk]; simp
      repeat' (first | (refine And.intro ?_ ?_) | (intro h; (try first | replace h := of_decide_eq_true h | replace h := of_decide_eq_false h); (try simp only [sg] at h); (try simp only [sx, ↓reduceIte, Nat.reduceAdd, reduceCtorEq, Int.reduceLT, Int.reduceLE, Int.reduceSub, Nat.reduceEqDiff, Nat.reduceLT] at h); try exact nz h))
      all_goals (try exact cz)
      all_goals exact ⟨_, ⟨[(0, vF fs), (1, vI ps), (2, .int .i64 i), (7, .int .i64 (k + 1 : Nat))], [], 0⟩, reb_flat [0, 1, 2, 7] rfl, ⟨k + 1, ⟨by omega, rfl, next hf⟩, rfl⟩, by omega⟩
  · have hf : twinF fs ps i = false := Bool.eq_false_iff.2 fun h => by
      obtain ⟨j, h1, h2⟩ := List.any_eq_true.1 h
      rw [hj j (by have := List.mem_range.1 h1; omega)] at h2
      cases h2
    rw [hf]
    repeat' (first | (refine And.intro ?_ ?_) | (intro h; (try first | replace h := of_decide_eq_true h | replace h := of_decide_eq_false h); (try simp only [sg] at h); (try simp only [sx, ↓reduceIte, Nat.reduceAdd, reduceCtorEq, Int.reduceLT, Int.reduceLE, Int.reduceSub, Nat.reduceEqDiff, Nat.reduceLT] at h); try exact nz h))
    all_goals (try exact cz)
    exact ⟨_, reb_flat [6] rfl, _, rfl, rfl, rfl⟩
def S_twice : SpecI := fun args K => ∃ (fs : List Fd) (ps : List Int) (i : Nat), args = [vF fs, vI ps, .int .i64 i] ∧ (i < fs.length ∧ ps.length = fs.length ∧ fs.length < 1000) ∧ K (.bool (twinF fs ps i))
theorem twice_ok [Syms] : ImmOk Try.prog 52 S_twice := by
  rintro args K ⟨fs, ps, i, rfl, ⟨h1, h2, h3⟩, hk⟩
  exact ⟨rfl, _, rfl, hk, fnI tys_ok fns_ok noneT_det noneT_ok mixed (twice_t fs ps i h1 h2 h3)⟩
end Go.Proofs.Ytjffmehcbaechaa
