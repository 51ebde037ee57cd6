/-
  Sums of bytes: the program's step and the document's sum, by plain functions.
-/
import Derived.Test.YtpbbcakepfojkaaGreatCrcP
set_option linter.unusedVariables false
set_option linter.unusedSimpArgs false
namespace Go.Proofs.YtpbbcakepfojkaaGreat
open Go Go.Av
set_option maxRecDepth 100000
set_option maxHeartbeats 4000000
def enc8 (c : UInt8) : List AVal := [.int .u8 c.toNat]
theorem enc8_0 (c : UInt8) : (enc8 c).getD 0 .any = .int .u8 c.toNat := rfl
theorem crc_z {P : Prop} (h : P := by first | ((with_reducible refine PlanIs.mk ?_); kernel_rfl) | ((with_reducible refine NoSel.mk ?_); kernel_rfl) | ((with_reducible refine Apart.mk ?_); kernel_rfl) | ((with_reducible first | show (_ : Nat) ≤ _ | show (_ : Nat) < _); first | omega | exact Nat.le_of_ble_eq_true rfl) | ((with_reducible first | show (_ : Int) ≤ _ | show (_ : Int) < _); omega) | ((with_reducible show _ = _); exact rfl)) : P := h
theorem st_o {E : Int} {d : Nat} (hE : E = d) (hd : d < 2 ^ 32) (h : IntKind.u32.wrap (BitVec.ofInt IntKind.u32.bits E &&& BitVec.ofInt IntKind.u32.bits 1).toNat ≠ 0) : IntKind.u32.wrap (BitVec.ofInt IntKind.u32.bits (E.fdiv (2 ^ min (Int.toNat 1) IntKind.u32.bits)) ^^^ BitVec.ofInt IntKind.u32.bits 3988292384).toNat = (crcS d : Nat) := by
  subst hE
  have h1 : ((d % 2 : Nat) : Int) ≠ 0 := fun e => h ((and32 hd).trans e)
  rw [crcS_odd (by omega)]
  refine (congrArg (fun z => IntKind.u32.wrap (BitVec.ofInt 32 z ^^^ BitVec.ofInt 32 3988292384).toNat) (shr32 d)).trans ?_
  exact xor32 (a := d / 2) (b := 3988292384) (by omega) (by decide)
theorem st_e {E : Int} {d : Nat} (hE : E = d) (hd : d < 2 ^ 32) (h : ¬ IntKind.u32.wrap (BitVec.ofInt IntKind.u32.bits E &&& BitVec.ofInt IntKind.u32.bits 1).toNat ≠ 0) : E.fdiv (2 ^ min (Int.toNat 1) IntKind.u32.bits) = (crcS d : Nat) := by
  subst hE
  have h1 : ((d % 2 : Nat) : Int) = 0 := (and32 hd).symm.trans (Decidable.not_not.1 h)
  rw [crcS_even (by omega)]
  exact shr32 d
theorem st_o' {d : Nat} (hd : d < 2 ^ 32) (h : IntKind.u32.wrap (BitVec.ofInt IntKind.u32.bits d &&& BitVec.ofInt IntKind.u32.bits 1).toNat = 1) : IntKind.u32.wrap (BitVec.ofInt IntKind.u32.bits ((d : Int).fdiv (2 ^ min (Int.toNat 1) IntKind.u32.bits)) ^^^ BitVec.ofInt IntKind.u32.bits 3988292384).toNat = (crcS d : Nat) := st_o rfl hd (by rw [h]; decide)
theorem st_e' {d : Nat} (hd : d < 2 ^ 32) (h : ¬ IntKind.u32.wrap (BitVec.ofInt IntKind.u32.bits d &&& BitVec.ofInt IntKind.u32.bits 1).toNat = 1) : (d : Int).fdiv (2 ^ min (Int.toNat 1) IntKind.u32.bits) = (crcS d : Nat) := st_e rfl hd (by
  have h1 : ¬ ((d % 2 : Nat) : Int) = 1 := fun e => h ((and32 hd).trans e)
  refine Decidable.not_not.2 ((and32 hd).trans ?_)
  omega)
theorem not32 {c d : Nat} (hc : c < 2 ^ 32) (hg : c = d) : IntKind.u32.wrap (BitVec.ofInt IntKind.u32.bits (if IntKind.u32.signed = true then -1 else IntKind.u32.max) ^^^ BitVec.ofInt IntKind.u32.bits c).toNat = (Nat.xor d 4294967295 : Nat) := by
  subst hg
  refine (xor32 (a := 4294967295) (b := c) (by decide) hc).trans ?_
  exact congrArg Nat.cast (Nat.xor_comm 4294967295 c)
theorem wr8 {x : Nat} (hx : x < 256) : wr .u32 (x : Int) = x := wrN32 (by omega)
theorem x_8 {E : Int} {c x : Nat} (hE : E = c) (hc : c < 2 ^ 32) (hx : x < 256) : IntKind.u32.wrap (BitVec.ofInt IntKind.u32.bits E ^^^ BitVec.ofInt IntKind.u32.bits (wr IntKind.u32 x)).toNat = (Nat.xor c x : Nat) := by
  subst hE
  rw [wr8 hx]
  exact xor32 hc (by omega)
theorem wk_n {k : IntKind} {a b : Int} (h : a = b) : WkV (.int k a) (.int k b) := h ▸ .refl _
def addS (d k : Nat) : St := ⟨[(0, .int .u32 d), (5, .int .i64 k)], [], 0⟩
theorem add_t [Syms] (c x : Nat) (hc : c < 2 ^ 32) (hx : x < 256) :
    fnT noneT noneT (fnTab fns) (tyTab tys) (plTab plt) 100 97 [.int .u32 c, .int .u8 x] [] 0 (fun v H _ => v = .int .u32 (crcB c x : Nat) ∧ H = []) := by
  have h0 := x_8 (E := c) rfl hc hx
  have hd0 : Nat.xor c x < 2 ^ 32 := xor_lt hc (by omega)
  refine .inr ⟨fun l m s => l = 0 ∧ ∃ (k d : Nat), (k < 8 ∧ m = 8 - k ∧ d < 2 ^ 32 ∧ crcK (8 - k) d = crcB c x) ∧ s = addS d k, ?_, ?_⟩
  · repeat' (first | (refine And.intro ?_ ?_) | (intro h; (try first | replace h := of_decide_eq_true h | replace h := of_decide_eq_false h)))
    all_goals (try exact crc_z)
    · exact ⟨_, addS (crcS (Nat.xor c x)) 1, reb_num [] rfl ⟨wk_n (st_o h0 hd0 ‹_›), wk_n rfl, trivial⟩ trivial, rfl, 1, _, ⟨by decide, rfl, crcS_lt hd0, rfl⟩, rfl⟩
    · rename_i h; exact absurd (show (0 : Int) + 1 < 8 by decide) h
    · exact ⟨_, addS (crcS (Nat.xor c x)) 1, reb_num [] rfl ⟨wk_n (st_e h0 hd0 ‹_›), wk_n rfl, trivial⟩ trivial, rfl, 1, _, ⟨by decide, rfl, crcS_lt hd0, rfl⟩, rfl⟩
    · rename_i h; exact absurd (show (0 : Int) + 1 < 8 by decide) h
  · rintro l rest m s hf ⟨rfl, k, d, ⟨hk, rfl, hd, hg⟩, rfl⟩
    cases hf
    have hg' : crcK (8 - (k + 1)) (crcS d) = crcB c x := by
      rw [← hg, show 8 - k = (8 - (k + 1)) + 1 by omega]; rfl
    repeat' (first | (refine And.intro ?_ ?_) | (intro h; (try first | replace h := of_decide_eq_true h | replace h := of_decide_eq_false h)))
    all_goals (try exact crc_z)
    · exact ⟨_, addS (crcS d) (k + 1), reb_num [] rfl ⟨wk_n (st_o rfl hd ‹_›), wk_n rfl, trivial⟩ trivial, ⟨rfl, k + 1, _, ⟨by omega, rfl, crcS_lt hd, hg'⟩, rfl⟩, by omega⟩
    · obtain rfl : k = 7 := by omega
      exact ⟨_, .refl _ _ _, _, rfl, congrArg (AVal.int .u32) ((st_o rfl hd ‹_›).trans (congrArg Nat.cast hg')), rfl⟩
    · exact ⟨_, addS (crcS d) (k + 1), reb_num [] rfl ⟨wk_n (st_e rfl hd ‹_›), wk_n rfl, trivial⟩ trivial, ⟨rfl, k + 1, _, ⟨by omega, rfl, crcS_lt hd, hg'⟩, rfl⟩, by omega⟩
    · obtain rfl : k = 7 := by omega
      exact ⟨_, .refl _ _ _, _, rfl, congrArg (AVal.int .u32) ((st_e rfl hd ‹_›).trans (congrArg Nat.cast hg')), rfl⟩
def smS (l : List UInt8) (i c : Nat) : St := ⟨[(0, vT 1 enc8 0 l), (3, .int .u32 c), (4, .int .i64 i)], [], 0⟩
def smK (l : List UInt8) (i d k : Nat) : St := ⟨[(0, vT 1 enc8 0 l), (3, .int .u32 d), (4, .int .i64 i), (5, .int .i64 k)], [], 0⟩
theorem sum_t [Syms] (l : List UInt8) (hl : l.length ≤ 9223372036854775807) :
    fnT noneT noneT (fnTab fns) (tyTab tys) (plTab plt) 100 23 [vT 1 enc8 0 l] [] 0 (fun v H _ => v = .int .u32 (Nat.xor (crcL 4294967295 l) 4294967295 : Nat) ∧ H = []) := by
  refine ⟨fun m s => ∃ i c : Nat, (i ≤ l.length ∧ m = l.length - i ∧ c < 2 ^ 32 ∧ crcL c (l.drop i) = crcL 4294967295 l) ∧ s = smS l i c, ⟨_, smS l 0 4294967295, reb_flat [0, 3, 4] rfl, 0, 4294967295, ⟨by omega, rfl, by decide, rfl⟩, rfl⟩, ?_⟩
  rintro m s ⟨i, c, ⟨hi, rfl, hc, hg⟩, rfl⟩
  by_cases h1 : i < l.length
  · have hd : l.drop i = l.getD i 0 :: l.drop (i + 1) := by
      rw [List.drop_eq_getElem_cons h1, List.getD_eq_getElem?_getD, List.getElem?_eq_getElem h1]; rfl
    rw [hd] at hg
    have hx8 : (l.getD i 0).toNat < 256 := (l.getD i 0).toNat_lt
    repeat' (first | (refine And.intro ?_ ?_) | (intro h; (try first | replace h := of_decide_eq_true h | replace h := of_decide_eq_false h)))
    all_goals (try exact crc_z)
    · refine ⟨fun m s => ∃ k d : Nat, (k ≤ 8 ∧ m = 8 - k ∧ d < 2 ^ 32 ∧ crcL (crcK (8 - k) d) (l.drop (i + 1)) = crcL 4294967295 l) ∧ s = smK l i d k, ⟨_, smK l i (Nat.xor c (l.getD i 0).toNat) 0, reb_num [] rfl ⟨.refl _, wk_n (x_8 rfl hc hx8), wk_n rfl, wk_n rfl, trivial⟩ trivial, 0, _, ⟨by omega, rfl, xor_lt hc (by omega), hg⟩, rfl⟩, ?_⟩
      rintro m s ⟨k, d, ⟨hk, rfl, hd', hg'⟩, rfl⟩
      by_cases h8 : k < 8
      · have hg2 : crcL (crcK (8 - (k + 1)) (crcS d)) (l.drop (i + 1)) = crcL 4294967295 l := by
          rw [← hg', show 8 - k = (8 - (k + 1)) + 1 by omega]; rfl
        repeat' (first | (refine And.intro ?_ ?_) | (intro h; (try first | replace h := of_decide_eq_true h | replace h := of_decide_eq_false h)))
        all_goals (try exact crc_z)
        · exact ⟨_, smK l i (crcS d) (k + 1), reb_num [] rfl ⟨.refl _, wk_n (st_o' hd' ‹_›), wk_n rfl, wk_n rfl, trivial⟩ trivial, ⟨k + 1, _, ⟨by omega, rfl, crcS_lt hd', hg2⟩, rfl⟩, by omega⟩
        · exact ⟨_, smK l i (crcS d) (k + 1), reb_num [] rfl ⟨.refl _, wk_n (st_e' hd' ‹_›), wk_n rfl, wk_n rfl, trivial⟩ trivial, ⟨k + 1, _, ⟨by omega, rfl, crcS_lt hd', hg2⟩, rfl⟩, by omega⟩
        · exfalso; omega
      · obtain rfl : k = 8 := by omega
        repeat' (first | (refine And.intro ?_ ?_) | (intro h; (try first | replace h := of_decide_eq_true h | replace h := of_decide_eq_false h)))
        all_goals (try exact crc_z)
        · exfalso; omega
        · exfalso; omega
        · exact ⟨_, smS l (i + 1) d, reb_num [] rfl ⟨.refl _, wk_n rfl, wk_n rfl, trivial⟩ trivial, ⟨i + 1, d, ⟨by omega, rfl, hd', hg'⟩, rfl⟩, by omega⟩
    · exfalso; omega
  · obtain rfl : i = l.length := by omega
    rw [List.drop_length] at hg
    repeat' (first | (refine And.intro ?_ ?_) | (intro h; (try first | replace h := of_decide_eq_true h | replace h := of_decide_eq_false h)))
    all_goals (try exact crc_z)
    · exfalso; omega
    · exact ⟨_, .refl _ _ _, _, rfl, congrArg (AVal.int .u32) (not32 hc hg), rfl⟩
end Go.Proofs.YtpbbcakepfojkaaGreat
