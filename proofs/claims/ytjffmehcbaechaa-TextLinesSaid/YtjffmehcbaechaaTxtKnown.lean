/-
  'known', 'within' of chapter 6.
-/
import Derived.Test.YtjffmehcbaechaaTxtParse
import Derived.Test.YtjffmehcbaechaaSchMakeP
set_option linter.unusedVariables false
set_option linter.unusedSimpArgs false
namespace Go.Proofs.Ytjffmehcbaechaa
open Go Go.Av
set_option maxRecDepth 100000
set_option maxHeartbeats 4000000
def G_within6 : List AVal → (AVal → Prop) → Prop := fun args K => ∃ a n, args = [.int .i64 a, .int .i64 n] ∧ (0 < n ∧ n ≤ 4611686018427387904) ∧ K (.int .i64 (wi a n))
theorem within6_ok [Syms] : ValOk Try.prog 15 G_within6 := by
  rintro args K ⟨a, n, rfl, ⟨h1, h2⟩, hk⟩
  refine ⟨within_fn_law6, _, hk, fun ι w vs hv => ?_⟩
  obtain ⟨v0, vs0, rfl, hv0, hv⟩ := hv.uncons
  obtain ⟨v1, vs1, rfl, hv1, hv⟩ := hv.uncons
  obtain rfl := hv.unnil
  obtain rfl := hv0.of_int
  obtain rfl := hv1.of_int
  refine (within_calls_law6 a n h1 h2 w).mono ?_
  rintro e w' ⟨rfl, rfl⟩
  exact ⟨_, rfl, .int _ _, rfl⟩
def knownT : List UInt8 := [109, 101, 115, 115, 97, 103, 101, 32, 109, 32, 123, 32, 114, 101, 113, 117, 105, 114, 101, 100, 32, 98, 111, 111, 108, 32, 97, 59, 32, 125]
theorem known_parse : parseF knownT = ([⟨[109], 0, 0, 1⟩, ⟨[97], 0, 1, 0⟩], 0) := by kernel_rfl
theorem known6_t [Syms] : fnT noneT (pickT 16 (immT S_parse) noneT) (fnTab fns) (tyTab tys) (plTab plt) 100 12 [] [] 0 (fun v H _ => v = .bool true ∧ H = []) := by
  repeat' (first | (refine And.intro ?_ ?_) | (intro h; (try first | replace h := of_decide_eq_true h | replace h := of_decide_eq_false h); (try simp only [sg] at h); (try simp only [sx, ↓reduceIte, Nat.reduceAdd, reduceCtorEq, Int.reduceLT, Int.reduceLE, Int.reduceSub, Nat.reduceEqDiff, Nat.reduceLT] at h); try exact nz h))
  all_goals (try exact cz)
  refine ⟨knownT, rfl, by decide, ?_⟩
  rw [known_parse]
  repeat' (first | (refine And.intro ?_ ?_) | (intro h; (try first | replace h := of_decide_eq_true h | replace h := of_decide_eq_false h); (try simp only [sg] at h); (try simp only [sx, ↓reduceIte, Nat.reduceAdd, reduceCtorEq, Int.reduceLT, Int.reduceLE, Int.reduceSub, Nat.reduceEqDiff, Nat.reduceLT] at h); try exact nz h))
  all_goals (try exact cz)
  all_goals first
    | exact absurd rfl (show ¬ (([⟨[109], 0, 0, 1⟩, ⟨[97], 0, 1, 0⟩] : List Fd).length : Int) = 2 from ‹_›)
    | exact absurd rfl (show ¬ (1 : Int) = 1 from ‹_›)
    | exact ⟨_, reb_flat [0] rfl, _, rfl, rfl, rfl⟩
def S_known6 : SpecI := fun args K => args = [] ∧ K (.bool true)
theorem known6_ok [Syms] : ImmOk Try.prog 12 S_known6 := by
  rintro args K ⟨rfl, hk⟩
  exact ⟨rfl, _, rfl, hk, fnI tys_ok fns_ok noneT_det (pickT_imm_ok parse_ok noneT_ok) mixed known6_t⟩
theorem parse_len (s : List UInt8) : (parseF s).1.length ≤ 40 := by
  by_cases h4 : 4000 < s.length
  · rw [parseF, if_pos h4]; decide
  · cases hl : wordsF s with
    | none => rw [parseF, if_neg h4, hl]; decide
    | some l =>
      have hl5 : l.length ≤ 5000 := by
        have h1 := words_len hl
        have h2 := sumL_count fun w hw => (words_ok hl w hw).1
        omega
      have hI : PInv (mustP kwMsg ⟨l, [], 0⟩) := (mustP_le kwMsg ⟨l, [], 0⟩).inv ⟨hl5, fun w hw => by have h1 := words_len hl; have h2 := sumL_mem (show w ∈ l from hw); omega, by simp, by simp, by simp⟩
      obtain ⟨σ, hσ⟩ : ∃ σ, mustP kwMsg ⟨l, [], 0⟩ = σ := ⟨_, rfl⟩
      obtain ⟨τ, hτ⟩ : ∃ τ, fieldP 10 0 0 0 σ = τ := ⟨_, rfl⟩
      have hI2 : PInv τ := by rw [← hτ]; exact (fieldP_le 10 0 0 0 σ).inv (by rw [← hσ]; exact hI)
      by_cases he : τ.e = 0
      · obtain ⟨ws, fs, e⟩ := τ
        have he : e = 0 := he
        subst he
        by_cases hw : ws = []
        · rw [parseF_end h4 hl hσ hτ hw]
          split
          · exact Nat.zero_le _
          · exact hI2.fl
        · rw [parseF_more h4 hl hσ hτ hw]; decide
      · rw [parseF_bad h4 hl hσ hτ he]; exact Nat.zero_le _
end Go.Proofs.Ytjffmehcbaechaa
