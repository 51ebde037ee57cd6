/-
  Sums of bytes (crc), plain; and what the machine's operations on numbers of 32 bits are.
-/
import Derived.Test.YtpbbcakepfojkaaGreatSxOne
import Derived.Test.YtpbbcakepfojkaaGreatTab
set_option linter.unusedVariables false
set_option linter.unusedSimpArgs false
namespace Go.Proofs.YtpbbcakepfojkaaGreat
open Go Go.Av
/-- One bit on. -/
def crcS (c : Nat) : Nat := Nat.xor (Nat.div c 2) (Nat.mul 3988292384 (Nat.mod c 2))
def crcK : Nat → Nat → Nat
  | 0, c => c
  | k + 1, c => crcK k (crcS c)
def crcB (c x : Nat) : Nat := crcS (crcS (crcS (crcS (crcS (crcS (crcS (crcS (Nat.xor c x))))))))
theorem crcB_K (c x : Nat) : crcK 8 (Nat.xor c x) = crcB c x := rfl
def crcL (c : Nat) : List UInt8 → Nat
  | [] => c
  | x :: l => crcL (crcB c x.toNat) l
theorem xor_lt {a b : Nat} (ha : a < 2 ^ 32) (hb : b < 2 ^ 32) : a ^^^ b < 2 ^ 32 := Nat.xor_lt_two_pow ha hb
theorem crcS_eq (c : Nat) : crcS c = c / 2 ^^^ 3988292384 * (c % 2) := rfl
theorem crcS_lt {c : Nat} (h : c < 2 ^ 32) : crcS c < 2 ^ 32 := by
  rw [crcS_eq]
  refine xor_lt (by omega) ?_
  rcases Nat.mod_two_eq_zero_or_one c with e | e <;> rw [e] <;> decide
theorem crcB_lt {c x : Nat} (h : c < 2 ^ 32) (hx : x < 2 ^ 32) : crcB c x < 2 ^ 32 :=
  crcS_lt (crcS_lt (crcS_lt (crcS_lt (crcS_lt (crcS_lt (crcS_lt (crcS_lt (xor_lt h hx))))))))
theorem crcS_odd {c : Nat} (h : c % 2 = 1) : crcS c = c / 2 ^^^ 3988292384 := by rw [crcS_eq, h]
theorem crcS_even {c : Nat} (h : c % 2 = 0) : crcS c = c / 2 := by rw [crcS_eq, h, Nat.mul_zero, Nat.xor_zero]
theorem bvN {n : Nat} (h : n < 2 ^ 32) : (BitVec.ofInt 32 (n : Int)).toNat = n := by simp; omega
theorem wrap32 {n : Nat} (h : n < 2 ^ 32) : IntKind.u32.wrap (n : Int) = n := by
  simp [IntKind.wrap, IntKind.bits, IntKind.signed]
  try omega
theorem wrN32 {n : Nat} (h : n < 2 ^ 32) : wr .u32 (n : Int) = (n : Int) := if_pos ⟨by show (0 : Int) ≤ _; omega, by show _ ≤ (4294967295 : Int); omega⟩
theorem xor32 {a b : Nat} (ha : a < 2 ^ 32) (hb : b < 2 ^ 32) : IntKind.u32.wrap (((BitVec.ofInt 32 (a : Int) ^^^ BitVec.ofInt 32 (b : Int)).toNat : Nat) : Int) = ((Nat.xor a b : Nat) : Int) := by
  rw [BitVec.toNat_xor, bvN ha, bvN hb]
  exact wrap32 (xor_lt ha hb)
theorem and32 {a : Nat} (ha : a < 2 ^ 32) : IntKind.u32.wrap (((BitVec.ofInt 32 (a : Int) &&& BitVec.ofInt 32 (1 : Int)).toNat : Nat) : Int) = ((a % 2 : Nat) : Int) := by
  rw [BitVec.toNat_and, bvN ha, show (BitVec.ofInt 32 (1 : Int)).toNat = 1 from rfl, Nat.and_one_is_mod]
  exact wrap32 (by omega)
theorem shr32 (a : Nat) : (a : Int).fdiv (2 ^ min (Int.toNat 1) 32) = ((a / 2 : Nat) : Int) := by
  show (a : Int).fdiv 2 = _
  exact (Int.fdiv_eq_ediv_of_nonneg _ (by decide)).trans (Int.natCast_ediv _ _).symm
theorem crcL_snoc : ∀ (l : List UInt8) (c : Nat) (x : UInt8), crcL c (l ++ [x]) = crcB (crcL c l) x.toNat
  | [], _, _ => rfl
  | y :: l, c, x => by show crcL _ (l ++ [x]) = _; rw [crcL_snoc l]; rfl
theorem crcL_lt : ∀ (l : List UInt8) {c : Nat}, c < 2 ^ 32 → crcL c l < 2 ^ 32
  | [], _, h => h
  | x :: l, c, h => crcL_lt l (crcB_lt h (by have := x.toNat_lt; omega))
theorem crcK_lt : ∀ (k : Nat) {c : Nat}, c < 2 ^ 32 → crcK k c < 2 ^ 32
  | 0, _, h => h
  | k + 1, c, h => crcK_lt k (crcS_lt h)
theorem crcK_snoc : ∀ (k c : Nat), crcK (k + 1) c = crcS (crcK k c)
  | 0, _ => rfl
  | k + 1, c => by rw [crcK, crcK_snoc k]; rfl
end Go.Proofs.YtpbbcakepfojkaaGreat
