/-
  Which leaf is read next. Plain.
-/
import Derived.Test.YtgaacnljcnibdaaFsmRefP
set_option linter.unusedVariables false
set_option linter.unusedSimpArgs false
namespace Go.Proofs.Ytgaacnljcnibdaa
open Go Go.Av
def lenL (fs : List Fd) : Nat := (leavesF fs).length
/-- The first leaf that is repeated so far together with one; -1: none. -/
def firstF (fs : List Fd) (i r : Int) : Nat → Int
  | 0 => -1
  | n + 1 => let k := lenL fs - (n + 1); if r ≤ commonF fs i k then k else firstF fs i r n
def nx1 (fs : List Fd) (i r : Int) : Int := if r ≤ commonF fs i (i + 1) then i + 1 else firstF fs i r (lenL fs)
theorem leaves_apart {fs : List Fd} {ps : List Int} : ∀ (n : Nat) (a b : Nat), a < b → b < (lvOut fs ps n).length → ((lvOut fs ps n).getD a default).field < ((lvOut fs ps n).getD b default).field
  | 0, a, b, _, h => by simp [lvOut, lvRun] at h
  | n + 1, a, b, hab, h => by
    rw [lvOut_succ] at h ⊢
    split at h
    · rename_i hk
      rw [if_pos hk]
      rw [List.length_append, List.length_singleton] at h
      by_cases hb : b < (lvOut fs ps n).length
      · rw [getD_app_lt (by omega), getD_app_lt hb]; exact leaves_apart n a b hab hb
      · obtain rfl : b = (lvOut fs ps n).length := by omega
        rw [getD_app_lt hab, getD_app_eq]
        have hm : (lvOut fs ps n).getD a default ∈ lvOut fs ps n := by rw [List.getD_eq_getElem?_getD, List.getElem?_eq_getElem hab]; exact List.getElem_mem hab
        exact (lvOut_field n _ hm).2.1
    · rename_i hk
      rw [if_neg hk]
      exact leaves_apart n a b hab h
/-- What 'Next' answers: of each leaf, of each level. -/
def rowN (fs : List Fd) (i n : Nat) : List Int := (List.range n).map fun r : Nat => nx1 fs (i : Int) (r : Int)
def wideN (fs : List Fd) (i : Nat) : Nat := (((leavesF fs).getD i default).r + 1).toNat
def nextN (fs : List Fd) (n : Nat) : List (List Int) := (List.range n).map fun i => rowN fs i (wideN fs i)
def nextF (fs : List Fd) : List (List Int) := nextN fs (lenL fs)
theorem rowN_succ (fs : List Fd) (i n : Nat) : rowN fs i (n + 1) = rowN fs i n ++ [nx1 fs i n] := by simp [rowN, List.range_succ]
theorem rowN_length (fs : List Fd) (i n : Nat) : (rowN fs i n).length = n := by simp [rowN]
theorem nextN_succ (fs : List Fd) (n : Nat) : nextN fs (n + 1) = nextN fs n ++ [rowN fs n (wideN fs n)] := by simp [nextN, List.range_succ]
theorem nextN_length (fs : List Fd) (n : Nat) : (nextN fs n).length = n := by simp [nextN]
/-- A row of rows, laid out. -/
def encN (l : List Int) : List AVal := [.vs 1 (l.map encI)]
abbrev vN (l : List (List Int)) : AVal := vT 1 encN [] l
theorem fN (l : List (List Int)) : flatRows (l.map encN) := flat_map (fun a x hx => by simp [encN] at hx; subst hx; rfl) l
theorem firstF_range {fs : List Fd} {i r : Int} : ∀ n : Nat, n ≤ lenL fs → -1 ≤ firstF fs i r n ∧ firstF fs i r n < lenL fs
  | 0, _ => by simp only [firstF]; omega
  | n + 1, h => by
    simp only [firstF]
    split
    · omega
    · exact firstF_range n (by omega)
/-- Some leaf is repeated so far together with one: it is found. -/
theorem firstF_found {fs : List Fd} {i r : Int} : ∀ n : Nat, n ≤ lenL fs → ∀ k : Nat, lenL fs - n ≤ k → k < lenL fs → r ≤ commonF fs i k → 0 ≤ firstF fs i r n ∧ firstF fs i r n ≤ k ∧ r ≤ commonF fs i (firstF fs i r n) ∧ ∀ q : Nat, lenL fs - n ≤ q → (q : Int) < firstF fs i r n → commonF fs i q < r
  | 0, hn, k, h1, h2, h3 => by omega
  | n + 1, hn, k, h1, h2, h3 => by
    simp only [firstF]
    by_cases hc : r ≤ commonF fs i ((lenL fs - (n + 1) : Nat) : Int)
    · rw [if_pos hc]
      exact ⟨by omega, by omega, hc, fun q hq1 hq2 => by omega⟩
    · rw [if_neg hc]
      have hk : lenL fs - (n + 1) ≠ k := fun e => hc (by rw [e]; exact h3)
      obtain ⟨g1, g2, g3, g4⟩ := firstF_found n (by omega) k (by omega) h2 h3
      refine ⟨g1, g2, g3, fun q hq1 hq2 => ?_⟩
      by_cases hq : q = lenL fs - (n + 1)
      · subst hq; omega
      · exact g4 q (by omega) hq2
end Go.Proofs.Ytgaacnljcnibdaa
