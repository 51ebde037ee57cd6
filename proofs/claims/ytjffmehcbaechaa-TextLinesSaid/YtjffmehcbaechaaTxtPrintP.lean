/-
  A shape's text. Plain.
-/
import Derived.Test.YtjffmehcbaechaaTxtP
set_option linter.unusedVariables false
set_option linter.unusedSimpArgs false
namespace Go.Proofs.Ytjffmehcbaechaa
open Go Go.Av
def blanksT (d : Nat) : List UInt8 := List.replicate (2 * d) 32
def frontT (d : Nat) (f : Fd) : List UInt8 := if d = 0 then kwMsg ++ [32] else blanksT d ++ kwReps.getD f.rep.toNat [] ++ [32] ++ kwKinds.getD f.kind.toNat [] ++ [32]
def leafT (d : Nat) (f : Fd) : List UInt8 := frontT d f ++ f.name ++ [59, 10]
def openT (d : Nat) (f : Fd) : List UInt8 := frontT d f ++ f.name ++ [32, 123, 10]
def closeT (d : Nat) : List UInt8 := blanksT d ++ [125, 10]
theorem blanksT_succ (d : Nat) : blanksT (d + 1) = blanksT d ++ [32, 32] := by
  unfold blanksT
  rw [show 2 * (d + 1) = 2 * d + 2 by omega, ← List.replicate_append_replicate]; rfl
/-- k fields from i on, of a depth, are printed so; behind them lies j. -/
inductive PrT (s : List Fd) : Nat → Nat → Nat → Nat → List UInt8 → Nat → Prop
  | nil {n i d : Nat} : PrT s n 0 i d [] i
  | leaf {n k i d j : Nat} {t : List UInt8} (hi : i < s.length) (hk : (s.getD i default).kind ≠ 0) (h : PrT s n k (i + 1) d t j) : PrT s n (k + 1) i d (leafT d (s.getD i default) ++ t) j
  | group {n k m i i1 d j : Nat} {t1 t2 : List UInt8} (hi : i < s.length) (hk : (s.getD i default).kind = 0) (hm : (s.getD i default).kids = m) (h1 : PrT s n m (i + 1) (d + 1) t1 i1) (h2 : PrT s (n + 1) k i1 d t2 j) :
      PrT s (n + 1) (k + 1) i d (openT d (s.getD i default) ++ t1 ++ closeT d ++ t2) j
theorem PrT.split {s : List Fd} {n k i d j : Nat} {t : List UInt8} (h : PrT s n (k + 1) i d t j) : ∃ t1 i1 t2, PrT s n 1 i d t1 i1 ∧ PrT s n k i1 d t2 j ∧ t = t1 ++ t2 := by
  cases h with
  | leaf hi hk h => exact ⟨_, _, _, .leaf hi hk .nil, h, by simp⟩
  | group hi hk hm h1 h2 => exact ⟨_, _, _, .group hi hk hm h1 .nil, h2, by simp⟩
theorem PrT.one {s : List Fd} {n i d j : Nat} {t : List UInt8} (h : PrT s n 1 i d t j) : i < s.length ∧
    (((s.getD i default).kind ≠ 0 ∧ t = leafT d (s.getD i default) ∧ j = i + 1) ∨
      (∃ n' m t1, (s.getD i default).kind = 0 ∧ n = n' + 1 ∧ (s.getD i default).kids = (m : Nat) ∧ PrT s n' m (i + 1) (d + 1) t1 j ∧ t = openT d (s.getD i default) ++ t1 ++ closeT d)) := by
  cases h with
  | leaf hi hk h =>
    cases h with
    | nil => exact ⟨hi, .inl ⟨hk, by simp, rfl⟩⟩
  | group hi hk hm h1 h2 =>
    cases h2 with
    | nil => exact ⟨hi, .inr ⟨_, _, _, hk, rfl, hm, h1, by simp⟩⟩
theorem PrT.pos {s : List Fd} {n k i d j : Nat} {t : List UInt8} (h : PrT s n k i d t j) : i ≤ j := by
  induction h with
  | nil => exact Nat.le_refl _
  | leaf _ _ _ ih => omega
  | group _ _ _ _ _ ih1 ih2 => omega
theorem PrT.cnt {s : List Fd} {n k i d j : Nat} {t : List UInt8} (h : PrT s n k i d t j) : i + k ≤ j ∧ (i ≤ s.length → j ≤ s.length) := by
  induction h with
  | nil => exact ⟨Nat.le_refl _, id⟩
  | leaf hi _ _ ih => exact ⟨by omega, fun _ => ih.2 hi⟩
  | group hi _ _ _ _ ih1 ih2 => exact ⟨by omega, fun _ => ih2.2 (ih1.2 hi)⟩
/-- What a shape has that is printed. -/
structure PrOk (s : List Fd) : Prop where
  len : s.length < 1000
  rep : ∀ i, i < s.length → 0 ≤ (s.getD i default).rep ∧ (s.getD i default).rep ≤ 2
  kind : ∀ i, i < s.length → 0 ≤ (s.getD i default).kind ∧ (s.getD i default).kind ≤ 4
end Go.Proofs.Ytjffmehcbaechaa
