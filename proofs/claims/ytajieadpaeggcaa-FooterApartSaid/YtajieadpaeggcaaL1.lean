/-
  Shapes of records as plain data, and how they are laid out; what it is to walk over one. Plain. Numbers as bytes: varints, and little-endian ones. Plain. 'twin': has a field ahead in the same group that name? 'Parents': the places of fields' groups. 'Path': a field's names, from the way's beginning; the parents' places lie ahead. 'Make': a shape, of raw numbers.
-/
import Derived.Test.YtajieadpaeggcaaSxOne
import Derived.Test.YtajieadpaeggcaaTab
import Derived.Test.YtajieadpaeggcaaWithin
set_option linter.unusedVariables false
set_option linter.unusedSimpArgs false
section
set_option linter.unusedVariables false
set_option linter.unusedSimpArgs false
namespace Go.Proofs.Ytajieadpaeggcaa
open Go Go.Av

structure Fd where
 name : List UInt8
 rep : Int
 kind : Int
 kids : Int
 deriving Inhabited
structure Lf where
 field : Int
 r : Int
 d : Int
 kind : Int
 deriving Inhabited
def encF (f : Fd) : List AVal := [.str f.name, .int .i64 f.rep, .int .i64 f.kind, .int .i64 f.kids]
def encI (p : Int) : List AVal := [.int .i64 p]
def encL (l : Lf) : List AVal := [.int .i64 l.field, .int .i64 l.r, .int .i64 l.d, .int .i64 l.kind]
def encG (p : Int × Int) : List AVal := [.int .i64 p.1, .int .i64 p.2]
abbrev vF (fs : List Fd) : AVal := vT 4 encF default fs
abbrev vI (l : List Int) : AVal := vT 1 encI 0 l
abbrev vL (l : List Lf) : AVal := vT 4 encL default l

theorem fF (l : List Fd) : flatRows (l.map encF) := flat_map (fun a x hx => by simp [encF] at hx; rcases hx with rfl | rfl | rfl | rfl <;> rfl) l
theorem fI (l : List Int) : flatRows (l.map encI) := flat_map (fun a x hx => by simp [encI] at hx; subst hx; rfl) l
theorem fL (l : List Lf) : flatRows (l.map encL) := flat_map (fun a x hx => by simp [encL] at hx; rcases hx with rfl | rfl | rfl | rfl <;> rfl) l
theorem fG (l : List (Int × Int)) : flatRows (l.map encG) := flat_map (fun a x hx => by simp [encG] at hx; rcases hx with rfl | rfl <;> rfl) l

theorem allLen_cut {α : Type} {enc : α → List AVal} {z : Nat} (h : ∀ a, (enc a).length = z) (l : List α) (a b : Nat) : allLen z (((l.map enc).drop a).take b) = true := by
 rw [allLen, List.all_eq_true]
 intro r hr
 obtain ⟨x, _, rfl⟩ := List.mem_map.1 (List.mem_of_mem_drop (List.mem_of_mem_take hr))
 rw [h]; exact Nat.beq_refl z
theorem aI (l : List Int) (a b : Nat) : allLen 1 (((l.map encI).drop a).take b) = true := allLen_cut (enc := encI) (z := 1) (fun _ => rfl) l a b

/-! ### Walking over a shape -/
/-- The groups that are open, the innermost ahead: its place, how many it lacks. -/
abbrev Stk := List (Int × Int)
def popZ : Stk → Stk
 | [] => []
 | (a, k) :: t => if k ≤ 0 then popZ t else (a, k) :: t
def parOf : Stk → Int
 | [] => -1
 | (a, _) :: _ => a
def decS : Stk → Stk
 | [] => []
 | (a, k) :: t => (a, k - 1) :: t
def pushS (i : Nat) (f : Fd) (st : Stk) : Stk := if f.kind = 0 then ((i : Int), f.kids) :: st else st
/-- Of each field its group, and how deep it is. -/
def wrun : List Fd → Nat → Stk → List (Int × Int)
 | [], _, _ => []
 | f :: fs, i, st => (parOf (popZ st), ((popZ st).length : Int)) :: wrun fs (i + 1) (pushS i f (decS (popZ st)))
def parentsF (fs : List Fd) : List Int := (wrun fs 0 []).map (·.1)
theorem wrun_length : ∀ (fs : List Fd) (i : Nat) (st : Stk), (wrun fs i st).length = fs.length
 | [], _, _ => rfl
 | f :: fs, i, st => by simp [wrun, wrun_length fs]
end Go.Proofs.Ytajieadpaeggcaa

end
section
set_option linter.unusedVariables false
set_option linter.unusedSimpArgs false
namespace Go.Proofs.Ytajieadpaeggcaa
open Go Go.Av
/-- A number's bytes, at most so many and one. -/
def putV : Nat → Nat → List UInt8
 | 0, n => [UInt8.ofNat n]
 | k + 1, n => if n < 128 then [UInt8.ofNat n] else UInt8.ofNat (n % 128 + 128) :: putV k (n / 128)
def varB (n : Nat) : List UInt8 := putV 9 n
/-- The number that bytes begin with, and how many of them it has; or what is wrong. -/
def getV : List UInt8 → Nat → Nat → Nat × Nat × Int
 | [], _, _ => (0, 0, 8)
 | x :: r, k, v => if k = 9 ∧ 1 < x.toNat then (0, 0, 14) else
   if x.toNat < 128 then (if x.toNat = 0 ∧ 0 < k then (0, 0, 10) else (v + x.toNat % 128 * 2 ^ (7 * k), k + 1, 0)) else getV r (k + 1) (v + x.toNat % 128 * 2 ^ (7 * k))
theorem ofNat_lt {n : Nat} (h : n < 256) : (UInt8.ofNat n).toNat = n := by rw [UInt8.toNat_ofNat']; omega
theorem putV_pos (f n : Nat) : 0 < (putV f n).length := by
 cases f with
 | zero => simp [putV]
 | succ f => rw [putV]; split <;> simp
theorem putV_len : ∀ (f n : Nat), (putV f n).length ≤ f + 1
 | 0, n => by simp [putV]
 | f + 1, n => by
   rw [putV]
   split
   ·simp
   ·have := putV_len f (n / 128)
    simp; omega
theorem getV_put : ∀ (f n k v : Nat) (r : List UInt8), n < 128 ^ (f + 1) → (0 < n ∨ k = 0) → k + f < 9 → getV (putV f n ++ r) k v = (v + n * 2 ^ (7 * k), k + (putV f n).length, 0)
 | 0, n, k, v, r, h, h0, hk => by
   have h : n < 128 := by simpa using h
   have e := ofNat_lt (n := n) (by omega)
   rw [putV, List.singleton_append, getV, e, if_neg (by omega), if_pos h, if_neg (by omega), Nat.mod_eq_of_lt h]
   rfl
 | f + 1, n, k, v, r, h, h0, hk => by
   rw [putV]
   by_cases hn : n < 128
   ·have e := ofNat_lt (n := n) (by omega)
    rw [if_pos hn, List.singleton_append, getV, e, if_neg (by omega), if_pos hn, if_neg (by omega), Nat.mod_eq_of_lt hn]
    rfl
   ·have e := ofNat_lt (n := n % 128 + 128) (by omega)
    have hd : n / 128 < 128 ^ (f + 1) := by
     rw [Nat.div_lt_iff_lt_mul (by decide)]
     rwa [← Nat.pow_succ]
    have ih := getV_put f (n / 128) (k + 1) (v + (n % 128 + 128) % 128 * 2 ^ (7 * k)) r hd (.inl (by omega)) (by omega)
    rw [if_neg hn, List.cons_append, getV, e, if_neg (by omega), if_neg (by omega), ih]
    have hp : (2 : Nat) ^ (7 * (k + 1)) = 128 * 2 ^ (7 * k) := by rw [Nat.mul_succ, Nat.pow_add]; rw [Nat.mul_comm]
    have hm : (n % 128 + 128) % 128 = n % 128 := by omega
    have hs : v + n % 128 * 2 ^ (7 * k) + n / 128 * (128 * 2 ^ (7 * k)) = v + n * 2 ^ (7 * k) := by
     rw [← Nat.mul_assoc, Nat.add_assoc, ← Nat.add_mul]
     congr 2
     omega
    rw [hp, hm, hs]
    congr 2
    simp; omega
/-- A number that is written is read. -/
theorem getV_varB {n : Nat} (r : List UInt8) (h : n < 128 ^ 8) : getV (varB n ++ r) 0 0 = (n, (varB n).length, 0) := by
 have e : ∀ f m, 7 ≤ f → m < 128 ^ 8 → putV f m = putV 8 m → True := fun _ _ _ _ _ => trivial
 have key : putV 9 n = putV 8 n := by
  have hs : ∀ (f m : Nat), m < 128 ^ (f + 1) → putV (f + 1) m = putV f m := by
   intro f
   induction f with
   | zero => intro m hm; show (if m < 128 then [UInt8.ofNat m] else _) = [UInt8.ofNat m]; rw [if_pos (by simpa using hm)]
   | succ f ih =>
     intro m hm
     rw [putV]
     by_cases h1 : m < 128
     ·rw [if_pos h1]
      conv => rhs; rw [putV, if_pos h1]
     ·rw [if_neg h1]
      conv => rhs; rw [putV, if_neg h1]
      rw [ih (m / 128) (by rw [Nat.div_lt_iff_lt_mul (by decide), ← Nat.pow_succ]; exact hm)]
  exact hs 8 n (Nat.lt_of_lt_of_le h (Nat.pow_le_pow_right (by decide) (by decide)))
 have := getV_put 8 n 0 0 r (Nat.lt_of_lt_of_le h (Nat.pow_le_pow_right (by decide) (by decide))) (.inr rfl) (by decide)
 rw [varB, key, this]
 simp
/-- So many bytes of a number, the lowest ones first. -/
def leB : Nat → Nat → List UInt8
 | 0, _ => []
 | n + 1, v => UInt8.ofNat (v % 256) :: leB n (v / 256)
def leV : List UInt8 → Nat
 | [] => 0
 | x :: r => x.toNat + 256 * leV r
theorem leB_len : ∀ n v, (leB n v).length = n
 | 0, _ => rfl
 | n + 1, v => by rw [leB, List.length_cons, leB_len n]
theorem leV_leB : ∀ n v, v < 256 ^ n → leV (leB n v) = v
 | 0, v, h => by simp at h; subst h; rfl
 | n + 1, v, h => by
   rw [leB, leV, leV_leB n (v / 256) (by rw [Nat.div_lt_iff_lt_mul (by decide), ← Nat.pow_succ]; exact h), ofNat_lt (by omega)]
   omega
end Go.Proofs.Ytajieadpaeggcaa

end
section
set_option linter.unusedVariables false
set_option linter.unusedSimpArgs false
namespace Go.Proofs.Ytajieadpaeggcaa
open Go Go.Av
def twinAt (fs : List Fd) (ps : List Int) (i k : Nat) : Bool := decide (ps.getD k 0 = ps.getD i 0) && eqb (fs.getD k default).name (fs.getD i default).name
def twinF (fs : List Fd) (ps : List Int) (i : Nat) : Bool := (List.range i).any (twinAt fs ps i)
set_option maxRecDepth 100000
set_option maxHeartbeats 2000000
theorem twin_t [Syms] (fs : List Fd) (ps : List Int) (i : Nat) (hi : i < fs.length) (hp : ps.length = fs.length) (hl : fs.length < 1000) :
 fnT noneT noneT (fnTab fns) (tyTab tys) (plTab plt) 100 114 [vF fs, vI ps, .int .i64 i] [] 0 (fun v H _ => v = .bool (twinF fs ps i) ∧ H = []) := by
 refine ⟨fun n s => ∃ k : Nat, (k ≤ i ∧ n = i - k ∧ ∀ j, j < k → twinAt fs ps i j = false) ∧ s = ⟨[(0, vF fs), (1, vI ps), (2, .int .i64 i), (6, .bool false), (8, .int .i64 i), (9, .int .i64 k)], [], 0⟩,
  ⟨_, _, .refl _ _ _, 0, ⟨by omega, rfl, fun j h => by omega⟩, rfl⟩, ?_⟩
 rintro n s ⟨k, ⟨hk, rfl, hj⟩, rfl⟩
 have next : ∀ {j : Nat}, twinAt fs ps i k = false → j < k + 1 → twinAt fs ps i j = false := fun {j} h hlt => by
  rcases Nat.lt_or_ge j k with h' | h'
  ·exact hj j h'
  ·obtain rfl : j = k := by omega
   exact h
 repeat' (first | (refine And.intro ?_ ?_) | (intro h; try simp only [decide_eq_true_eq, decide_eq_false_iff_not, Int.not_lt, Int.toNat_natCast, ↓reduceIte, Nat.reduceAdd, reduceCtorEq] at h))
 any_goals first | exact PlanIs.mk (by kernel_rfl) | omega | exact rfl
 ·refine ⟨_, .refl _ _ _, _, rfl, ?_, rfl⟩
  have h1 : twinAt fs ps i k = true := by rw [twinAt, Bool.and_eq_true]; exact ⟨decide_eq_true ‹_›, ‹_›⟩
  exact congrArg AVal.bool (List.any_eq_true.2 ⟨k, List.mem_range.2 (by omega), h1⟩).symm
 ·exact ⟨_, _, reb_flat [0, 1, 2, 6, 8, 9] rfl, ⟨k + 1, ⟨by omega, rfl, fun j => next (by rw [twinAt, Bool.and_eq_false_iff]; exact .inr ‹_›)⟩, rfl⟩, by omega⟩
 ·exact ⟨_, _, reb_flat [0, 1, 2, 6, 8, 9] rfl, ⟨k + 1, ⟨by omega, rfl, fun j => next (by rw [twinAt, Bool.and_eq_false_iff]; exact .inl (decide_eq_false ‹_›))⟩, rfl⟩, by omega⟩
 ·refine ⟨_, .refl _ _ _, _, rfl, ?_, rfl⟩
  refine congrArg AVal.bool (a₂ := twinF fs ps i) (Bool.eq_false_iff.2 fun h => ?_).symm
  obtain ⟨j, h1, h2⟩ := List.any_eq_true.1 h
  rw [hj j (by have := List.mem_range.1 h1; omega)] at h2
  cases h2
end Go.Proofs.Ytajieadpaeggcaa

end
section
set_option linter.unusedVariables false
set_option linter.unusedSimpArgs false
namespace Go.Proofs.Ytajieadpaeggcaa
open Go Go.Av
set_option maxRecDepth 100000
set_option maxHeartbeats 4000000
abbrev tB [Syms] (c ci : CallT) : CallT := bodyT c ci (fnTab fns) (tyTab tys) (plTab plt) 100
def wE (fs : List Fd) (i : Nat) (l : AVal) : Env := [(0, vF fs), (1, .func 95 [.ptr 0 0 0]), (4, .bool false), (5, l), (12, vF fs), (13, .int .i64 fs.length), (14, .int .i64 i)]
def wO (n : Nat) : AVal := .slice 1 0 n 1 none
def wL (st : Stk) : AVal := .slice 2 0 st.length 2 none
def wA (fs : List Fd) : St := ⟨wE fs 0 .nils, [(0, some (.cells [[.nils]] false))], 1⟩
def wB (fs : List Fd) (i : Nat) (out : List Int) : St := ⟨wE fs i .nils, [(0, some (.cells [[wO i]] false)), (1, some (.cells (out.map encI) false))], 2⟩
def wC (fs : List Fd) (i : Nat) (st : Stk) (out : List Int) (junk : List (List AVal)) : St := ⟨wE fs i (wL st), [(0, some (.cells [[wO i]] false)), (1, some (.cells (out.map encI) false)), (2, some (.cells (st.reverse.map encG ++ junk) false))], 3⟩
def wSt (fs : List Fd) (i : Nat) (st : Stk) (out : List Int) (s : St) : Prop :=
 (i = 0 ∧ st = [] ∧ out = [] ∧ s = wA fs) ∨ (st = [] ∧ s = wB fs i out) ∨ (∃ junk, flatRows junk ∧ s = wC fs i st out junk)
def wInv (fs : List Fd) (n : Nat) (s : St) : Prop := ∃ (i : Nat) (st : Stk) (out : List Int), (i ≤ fs.length ∧ n = fs.length - i ∧ out.length = i ∧ out ++ (wrun (fs.drop i) i st).map (·.1) = parentsF fs ∧ (∀ p ∈ st, p.2 ≤ 9223372036854775807) ∧ st.length ≤ i) ∧ wSt fs i st out s
def wCi (fs : List Fd) (i n : Nat) (out : List Int) (R : List (List AVal)) : St := ⟨[(0, vF fs), (1, .func 95 [.ptr 0 0 0]), (4, .bool false), (5, .slice 2 0 n 2 none), (6, .int .i64 i), (7, .ptr 3 0 0), (12, vF fs), (13, .int .i64 fs.length), (14, .int .i64 i), (15, .bool (decide ((i : Int) < fs.length)))], [(0, some (.cells [[wO i]] false)), (1, some (.cells (out.map encI) false)), (2, some (.cells R false)), (3, some (.cells [encF (fs.getD i default)] false))], 5⟩
theorem drop_at {α : Type} [Inhabited α] {l : List α} {i : Nat} (h : i < l.length) : l.drop i = l.getD i default :: l.drop (i + 1) := by
 rw [List.drop_eq_getElem_cons h]; simp [h]
theorem wrun_at {fs : List Fd} {i : Nat} {st : Stk} (h : i < fs.length) : wrun (fs.drop i) i st = (parOf (popZ st), ((popZ st).length : Int)) :: wrun (fs.drop (i + 1)) (i + 1) (pushS i (fs.getD i default) (decS (popZ st))) := by
 rw [drop_at h]; rfl
theorem out_next {fs : List Fd} {i : Nat} {st st' : Stk} {out : List Int} (h : i < fs.length) (hw : out ++ (wrun (fs.drop i) i st).map (·.1) = parentsF fs) (hs : st' = pushS i (fs.getD i default) (decS (popZ st))) :
 (out ++ [parOf (popZ st)]) ++ (wrun (fs.drop (i + 1)) (i + 1) st').map (·.1) = parentsF fs := by
 rw [← hw, wrun_at h, hs]; simp
theorem parents_t [Syms] (fs : List Fd) (hl : fs.length < 1000) (hk : ∀ i, (fs.getD i default).kids ≤ 9223372036854775807) :
 fnT noneT (pickT 94 (tB noneT (pickT 95 (tB noneT noneT) noneT)) (pickT 96 (tB noneT noneT) noneT)) (fnTab fns) (tyTab tys) (plTab plt) 100 73 [vF fs] [] 0 (fun v H _ => v = vI (parentsF fs) ∧ H = []) := by
 refine ⟨wInv fs, ⟨_, wA fs, ?_, 0, [], [], ⟨by omega, rfl, rfl, rfl, by simp, by simp⟩, .inl ⟨rfl, rfl, rfl, rfl⟩⟩, ?_⟩
 ·exact .refl _ _ _
 rintro n s ⟨i, st, out, ⟨hi, rfl, ho, hw, hb, hsl⟩, (⟨rfl, rfl, rfl, rfl⟩ | ⟨rfl, rfl⟩ | ⟨junk, hj, rfl⟩)⟩
 ·repeat' (first | (refine And.intro ?_ ?_) | (intro h; try simp only [decide_eq_true_eq, decide_eq_false_iff_not, Int.not_lt, Int.not_le, Int.toNat_natCast, ↓reduceIte, Nat.reduceAdd, reduceCtorEq, Int.reduceLT, Int.lt_irrefl, gt_iff_lt, not_true_eq_false, not_false_eq_true, Bool.not_true, Bool.not_false, decide_false, decide_true, Int.reduceLE, Int.reduceSub, Bool.false_eq_true, Bool.true_eq_false, Nat.reduceEqDiff, Nat.one_ne_zero, Nat.reduceLT, and_self, and_true, true_and, Int.natCast_zero, Int.cast_ofNat_Int, List.length_nil, ne_eq, Decidable.not_not] at h))
  all_goals (try first | exact PlanIs.mk (by kernel_rfl) | omega | (show (_ : Int) * ((32 : Nat) : Int) ≤ _; omega) | (show (_ : Int) * ((8 : Nat) : Int) ≤ _; omega) | (show (_ : Int) * ((24 : Nat) : Int) ≤ _; omega) | exact rfl | exact Nat.le_of_ble_eq_true rfl | (show (_ : Nat) ≤ (_ : Nat); simp; done) | (show (_ : Nat) ≤ (_ : Nat); simp; omega))
  ·refine loop_once ?_
   repeat' (first | (refine And.intro ?_ ?_) | (intro h; try simp only [decide_eq_true_eq, decide_eq_false_iff_not, Int.not_lt, Int.not_le, Int.toNat_natCast, ↓reduceIte, Nat.reduceAdd, reduceCtorEq, Int.reduceLT, Int.lt_irrefl, gt_iff_lt, not_true_eq_false, not_false_eq_true, Bool.not_true, Bool.not_false, decide_false, decide_true, Int.reduceLE, Int.reduceSub, Bool.false_eq_true, Bool.true_eq_false, Nat.reduceEqDiff, Nat.one_ne_zero, Nat.reduceLT, and_self, and_true, true_and, Int.natCast_zero, Int.cast_ofNat_Int, List.length_nil, ne_eq, Decidable.not_not] at h))
   all_goals (try first | exact PlanIs.mk (by kernel_rfl) | omega | (show (_ : Int) * ((32 : Nat) : Int) ≤ _; omega) | (show (_ : Int) * ((8 : Nat) : Int) ≤ _; omega) | (show (_ : Int) * ((24 : Nat) : Int) ≤ _; omega) | exact rfl | exact Nat.le_of_ble_eq_true rfl | (show (_ : Nat) ≤ (_ : Nat); simp; done) | (show (_ : Nat) ≤ (_ : Nat); simp; omega))
   refine ⟨_, .refl _ _ _, _, rfl, ?_⟩
   repeat' (first | (refine And.intro ?_ ?_) | (intro h; try simp only [decide_eq_true_eq, decide_eq_false_iff_not, Int.not_lt, Int.not_le, Int.toNat_natCast, ↓reduceIte, Nat.reduceAdd, reduceCtorEq, Int.reduceLT, Int.lt_irrefl, gt_iff_lt, not_true_eq_false, not_false_eq_true, Bool.not_true, Bool.not_false, decide_false, decide_true, Int.reduceLE, Int.reduceSub, Bool.false_eq_true, Bool.true_eq_false, Nat.reduceEqDiff, Nat.one_ne_zero, Nat.reduceLT, and_self, and_true, true_and, Int.natCast_zero, Int.cast_ofNat_Int, List.length_nil, ne_eq, Decidable.not_not] at h))
   all_goals (try first | exact PlanIs.mk (by kernel_rfl) | omega | (show (_ : Int) * ((32 : Nat) : Int) ≤ _; omega) | (show (_ : Int) * ((8 : Nat) : Int) ≤ _; omega) | (show (_ : Int) * ((24 : Nat) : Int) ≤ _; omega) | exact rfl | exact Nat.le_of_ble_eq_true rfl | (show (_ : Nat) ≤ (_ : Nat); simp; done) | (show (_ : Nat) ≤ (_ : Nat); simp; omega))
   ·refine ⟨_, wC fs 1 [(0, (fs.getD 0 default).kids)] [-1] [], reb_num [0, 4, 7] rfl ?_ ?_, ⟨1, _, [-1], ⟨by omega, rfl, rfl, out_next (st := []) (by omega) hw (by rw [pushS, if_pos (show (fs.getD 0 default).kind = 0 from ‹_›)]; rfl), ?_, by simp⟩, .inr (.inr ⟨[], by simp [flatRows], rfl⟩)⟩, by omega⟩
    ·exact ⟨.refl _, .refl _, .refl _, .refl _, .refl _, .refl _, .refl _, trivial⟩
    ·exact ⟨⟨by decide, _, rfl, .refl _⟩, ⟨by decide, _, rfl, .refl _⟩, ⟨by decide, _, rfl, wkB_eq rfl (flat_append (fG _) flat_nil)⟩, trivial⟩
    ·intro p hp; simp at hp; subst hp; exact hk 0
   ·refine ⟨_, wB fs 1 [-1], reb_num [0, 4] rfl ?_ ?_, ⟨1, _, [-1], ⟨by omega, rfl, rfl, out_next (st := []) (by omega) hw (by rw [pushS, if_neg (show ¬ (fs.getD 0 default).kind = 0 from ‹_›)]; rfl), ?_, by simp⟩, .inr (.inl ⟨rfl, rfl⟩)⟩, by omega⟩
    ·exact ⟨.refl _, .refl _, .refl _, .refl _, .refl _, .refl _, .refl _, trivial⟩
    ·exact ⟨⟨by decide, _, rfl, .refl _⟩, ⟨by decide, _, rfl, .refl _⟩, trivial⟩
    ·intro p hp; simp at hp
  ·refine loop_once ?_
   repeat' (first | (refine And.intro ?_ ?_) | (intro h; try simp only [decide_eq_true_eq, decide_eq_false_iff_not, Int.not_lt, Int.not_le, Int.toNat_natCast, ↓reduceIte, Nat.reduceAdd, reduceCtorEq, Int.reduceLT, Int.lt_irrefl, gt_iff_lt, not_true_eq_false, not_false_eq_true, Bool.not_true, Bool.not_false, decide_false, decide_true, Int.reduceLE, Int.reduceSub, Bool.false_eq_true, Bool.true_eq_false, Nat.reduceEqDiff, Nat.one_ne_zero, Nat.reduceLT, and_self, and_true, true_and, Int.natCast_zero, Int.cast_ofNat_Int, List.length_nil, ne_eq, Decidable.not_not] at h))
   all_goals (try first | exact PlanIs.mk (by kernel_rfl) | omega | (show (_ : Int) * ((32 : Nat) : Int) ≤ _; omega) | (show (_ : Int) * ((8 : Nat) : Int) ≤ _; omega) | (show (_ : Int) * ((24 : Nat) : Int) ≤ _; omega) | exact rfl | exact Nat.le_of_ble_eq_true rfl | (show (_ : Nat) ≤ (_ : Nat); simp; done) | (show (_ : Nat) ≤ (_ : Nat); simp; omega))
   refine ⟨_, .refl _ _ _, _, rfl, ?_⟩
   repeat' (first | (refine And.intro ?_ ?_) | (intro h; try simp only [decide_eq_true_eq, decide_eq_false_iff_not, Int.not_lt, Int.not_le, Int.toNat_natCast, ↓reduceIte, Nat.reduceAdd, reduceCtorEq, Int.reduceLT, Int.lt_irrefl, gt_iff_lt, not_true_eq_false, not_false_eq_true, Bool.not_true, Bool.not_false, decide_false, decide_true, Int.reduceLE, Int.reduceSub, Bool.false_eq_true, Bool.true_eq_false, Nat.reduceEqDiff, Nat.one_ne_zero, Nat.reduceLT, and_self, and_true, true_and, Int.natCast_zero, Int.cast_ofNat_Int, List.length_nil, ne_eq, Decidable.not_not] at h))
   all_goals (try first | exact PlanIs.mk (by kernel_rfl) | omega | (show (_ : Int) * ((32 : Nat) : Int) ≤ _; omega) | (show (_ : Int) * ((8 : Nat) : Int) ≤ _; omega) | (show (_ : Int) * ((24 : Nat) : Int) ≤ _; omega) | exact rfl | exact Nat.le_of_ble_eq_true rfl | (show (_ : Nat) ≤ (_ : Nat); simp; done) | (show (_ : Nat) ≤ (_ : Nat); simp; omega))
   refine ⟨_, .refl _ _ _, _, rfl, ?_⟩
   refine ⟨_, reb_nil (k := 2) 1 encI 0 rfl, _, rfl, ?_, rfl⟩
   have h0 : fs = [] := List.eq_nil_of_length_eq_zero (by omega)
   subst h0
   rfl
 ·repeat' (first | (refine And.intro ?_ ?_) | (intro h; try simp only [decide_eq_true_eq, decide_eq_false_iff_not, Int.not_lt, Int.not_le, Int.toNat_natCast, ↓reduceIte, Nat.reduceAdd, reduceCtorEq, Int.reduceLT, Int.lt_irrefl, gt_iff_lt, not_true_eq_false, not_false_eq_true, Bool.not_true, Bool.not_false, decide_false, decide_true, Int.reduceLE, Int.reduceSub, Bool.false_eq_true, Bool.true_eq_false, Nat.reduceEqDiff, Nat.one_ne_zero, Nat.reduceLT, and_self, and_true, true_and, Int.natCast_zero, Int.cast_ofNat_Int, List.length_nil, ne_eq, Decidable.not_not] at h))
  all_goals (try first | exact PlanIs.mk (by kernel_rfl) | omega | (show (_ : Int) * ((32 : Nat) : Int) ≤ _; omega) | (show (_ : Int) * ((8 : Nat) : Int) ≤ _; omega) | (show (_ : Int) * ((24 : Nat) : Int) ≤ _; omega) | exact rfl | exact Nat.le_of_ble_eq_true rfl | (show (_ : Nat) ≤ (_ : Nat); simp; done) | (show (_ : Nat) ≤ (_ : Nat); simp; omega))
  ·refine loop_once ?_
   repeat' (first | (refine And.intro ?_ ?_) | (intro h; try simp only [decide_eq_true_eq, decide_eq_false_iff_not, Int.not_lt, Int.not_le, Int.toNat_natCast, ↓reduceIte, Nat.reduceAdd, reduceCtorEq, Int.reduceLT, Int.lt_irrefl, gt_iff_lt, not_true_eq_false, not_false_eq_true, Bool.not_true, Bool.not_false, decide_false, decide_true, Int.reduceLE, Int.reduceSub, Bool.false_eq_true, Bool.true_eq_false, Nat.reduceEqDiff, Nat.one_ne_zero, Nat.reduceLT, and_self, and_true, true_and, Int.natCast_zero, Int.cast_ofNat_Int, List.length_nil, ne_eq, Decidable.not_not] at h))
   all_goals (try first | exact PlanIs.mk (by kernel_rfl) | omega | (show (_ : Int) * ((32 : Nat) : Int) ≤ _; omega) | (show (_ : Int) * ((8 : Nat) : Int) ≤ _; omega) | (show (_ : Int) * ((24 : Nat) : Int) ≤ _; omega) | exact rfl | exact Nat.le_of_ble_eq_true rfl | (show (_ : Nat) ≤ (_ : Nat); simp; done) | (show (_ : Nat) ≤ (_ : Nat); simp; omega))
   refine ⟨_, .refl _ _ _, _, rfl, ?_⟩
   repeat' (first | (refine And.intro ?_ ?_) | (intro h; try simp only [decide_eq_true_eq, decide_eq_false_iff_not, Int.not_lt, Int.not_le, Int.toNat_natCast, ↓reduceIte, Nat.reduceAdd, reduceCtorEq, Int.reduceLT, Int.lt_irrefl, gt_iff_lt, not_true_eq_false, not_false_eq_true, Bool.not_true, Bool.not_false, decide_false, decide_true, Int.reduceLE, Int.reduceSub, Bool.false_eq_true, Bool.true_eq_false, Nat.reduceEqDiff, Nat.one_ne_zero, Nat.reduceLT, and_self, and_true, true_and, Int.natCast_zero, Int.cast_ofNat_Int, List.length_nil, ne_eq, Decidable.not_not] at h))
   all_goals (try first | exact PlanIs.mk (by kernel_rfl) | omega | (show (_ : Int) * ((32 : Nat) : Int) ≤ _; omega) | (show (_ : Int) * ((8 : Nat) : Int) ≤ _; omega) | (show (_ : Int) * ((24 : Nat) : Int) ≤ _; omega) | exact rfl | exact Nat.le_of_ble_eq_true rfl | (show (_ : Nat) ≤ (_ : Nat); simp; done) | (show (_ : Nat) ≤ (_ : Nat); simp; omega))
   ·refine ⟨_, wC fs (i + 1) [(i, (fs.getD i default).kids)] (out ++ [-1]) [], reb_num [0, 5, 8] rfl ?_ ?_, ⟨i + 1, _, _, ⟨by omega, rfl, by simp [ho], out_next (st := []) (by omega) hw (by rw [pushS, if_pos (show (fs.getD i default).kind = 0 from ‹_›)]; rfl), ?_, by simp⟩, .inr (.inr ⟨[], by simp [flatRows], rfl⟩)⟩, by omega⟩
    ·exact ⟨.refl _, .refl _, .refl _, .refl _, .refl _, .refl _, .refl _, trivial⟩
    ·exact ⟨⟨by decide, _, rfl, .refl _⟩, ⟨by decide, _, rfl, wkB_eq (by show List.take i (List.drop 0 (out.map encI)) ++ [[.int .i64 (-1)]] = _; rw [← ho]; simp [encI]; exact List.take_of_length_le (by simp)) (fI _)⟩, ⟨by decide, _, rfl, wkB_eq rfl (flat_append (fG _) flat_nil)⟩, trivial⟩
    ·intro p hp; simp at hp; subst hp; exact hk i
   ·refine ⟨_, wB fs (i + 1) (out ++ [-1]), reb_num [0, 5] rfl ?_ ?_, ⟨i + 1, _, _, ⟨by omega, rfl, by simp [ho], out_next (st := []) (by omega) hw (by rw [pushS, if_neg (show ¬ (fs.getD i default).kind = 0 from ‹_›)]; rfl), ?_, by simp⟩, .inr (.inl ⟨rfl, rfl⟩)⟩, by omega⟩
    ·exact ⟨.refl _, .refl _, .refl _, .refl _, .refl _, .refl _, .refl _, trivial⟩
    ·exact ⟨⟨by decide, _, rfl, .refl _⟩, ⟨by decide, _, rfl, wkB_eq (by show List.take i (List.drop 0 (out.map encI)) ++ [[.int .i64 (-1)]] = _; rw [← ho]; simp [encI]; exact List.take_of_length_le (by simp)) (fI _)⟩, trivial⟩
    ·intro p hp; simp at hp
  ·refine loop_once ?_
   repeat' (first | (refine And.intro ?_ ?_) | (intro h; try simp only [decide_eq_true_eq, decide_eq_false_iff_not, Int.not_lt, Int.not_le, Int.toNat_natCast, ↓reduceIte, Nat.reduceAdd, reduceCtorEq, Int.reduceLT, Int.lt_irrefl, gt_iff_lt, not_true_eq_false, not_false_eq_true, Bool.not_true, Bool.not_false, decide_false, decide_true, Int.reduceLE, Int.reduceSub, Bool.false_eq_true, Bool.true_eq_false, Nat.reduceEqDiff, Nat.one_ne_zero, Nat.reduceLT, and_self, and_true, true_and, Int.natCast_zero, Int.cast_ofNat_Int, List.length_nil, ne_eq, Decidable.not_not] at h))
   all_goals (try first | exact PlanIs.mk (by kernel_rfl) | omega | (show (_ : Int) * ((32 : Nat) : Int) ≤ _; omega) | (show (_ : Int) * ((8 : Nat) : Int) ≤ _; omega) | (show (_ : Int) * ((24 : Nat) : Int) ≤ _; omega) | exact rfl | exact Nat.le_of_ble_eq_true rfl | (show (_ : Nat) ≤ (_ : Nat); simp; done) | (show (_ : Nat) ≤ (_ : Nat); simp; omega))
   refine ⟨_, .refl _ _ _, _, rfl, ?_⟩
   repeat' (first | (refine And.intro ?_ ?_) | (intro h; try simp only [decide_eq_true_eq, decide_eq_false_iff_not, Int.not_lt, Int.not_le, Int.toNat_natCast, ↓reduceIte, Nat.reduceAdd, reduceCtorEq, Int.reduceLT, Int.lt_irrefl, gt_iff_lt, not_true_eq_false, not_false_eq_true, Bool.not_true, Bool.not_false, decide_false, decide_true, Int.reduceLE, Int.reduceSub, Bool.false_eq_true, Bool.true_eq_false, Nat.reduceEqDiff, Nat.one_ne_zero, Nat.reduceLT, and_self, and_true, true_and, Int.natCast_zero, Int.cast_ofNat_Int, List.length_nil, ne_eq, Decidable.not_not] at h))
   all_goals (try first | exact PlanIs.mk (by kernel_rfl) | omega | (show (_ : Int) * ((32 : Nat) : Int) ≤ _; omega) | (show (_ : Int) * ((8 : Nat) : Int) ≤ _; omega) | (show (_ : Int) * ((24 : Nat) : Int) ≤ _; omega) | exact rfl | exact Nat.le_of_ble_eq_true rfl | (show (_ : Nat) ≤ (_ : Nat); simp; done) | (show (_ : Nat) ≤ (_ : Nat); simp; omega))
   ·exact aI _ _ _
   ·refine ⟨_, .refl _ _ _, _, rfl, ?_⟩
    refine ⟨_, reb_nil (k := 2) 1 encI 0 rfl, _, rfl, ?_, rfl⟩
    have h0 : fs = [] := List.eq_nil_of_length_eq_zero (by omega)
    subst h0
    rfl
   ·refine ⟨_, .refl _ _ _, _, rfl, ?_⟩
    refine ⟨_, reb_own (enc := encI) (k := 2) 0 (l := out) rfl rfl (flat_append flat_nil (flat_take (fI _))) ?_ ?_, _, rfl, ?_, rfl⟩
    ·show List.take (0 + i) ([] ++ List.take i (List.drop 0 (out.map encI))) = _
     rw [← ho, List.nil_append, List.drop_zero, Nat.zero_add, List.take_take, Nat.min_self]
     exact List.take_of_length_le (Nat.le_of_eq (List.length_map ..))
    ·show 0 + i ≤ ([] ++ List.take i (List.drop 0 (out.map encI))).length
     simp
     omega
    ·rw [List.drop_of_length_le (by omega)] at hw
     simp [wrun] at hw
     exact congrArg vI hw
 ·repeat' (first | (refine And.intro ?_ ?_) | (intro h; try simp only [decide_eq_true_eq, decide_eq_false_iff_not, Int.not_lt, Int.not_le, Int.toNat_natCast, ↓reduceIte, Nat.reduceAdd, reduceCtorEq, Int.reduceLT, Int.lt_irrefl, gt_iff_lt, not_true_eq_false, not_false_eq_true, Bool.not_true, Bool.not_false, decide_false, decide_true, Int.reduceLE, Int.reduceSub, Bool.false_eq_true, Bool.true_eq_false, Nat.reduceEqDiff, Nat.one_ne_zero, Nat.reduceLT, and_self, and_true, true_and, Int.natCast_zero, Int.cast_ofNat_Int, List.length_nil, ne_eq, Decidable.not_not] at h))
  all_goals (try first | exact PlanIs.mk (by kernel_rfl) | omega | (show (_ : Int) * ((32 : Nat) : Int) ≤ _; omega) | (show (_ : Int) * ((8 : Nat) : Int) ≤ _; omega) | (show (_ : Int) * ((24 : Nat) : Int) ≤ _; omega) | exact rfl | exact Nat.le_of_ble_eq_true rfl | (show (_ : Nat) ≤ (_ : Nat); simp; done) | (show (_ : Nat) ≤ (_ : Nat); simp; omega))
  ·refine ⟨fun n s => ∃ (st1 : Stk) (junk1 : List (List AVal)) (m : Nat), (n = m ∧ m = st1.length ∧ popZ st1 = popZ st ∧ st1.reverse.map encG ++ junk1 = st.reverse.map encG ++ junk ∧ flatRows junk1 ∧ (∀ p ∈ st1, p.2 ≤ 9223372036854775807) ∧ st1.length ≤ st.length) ∧ s = wCi fs i m out (st.reverse.map encG ++ junk), ⟨_, wCi fs i st.length out (st.reverse.map encG ++ junk), .refl _ _ _, st, junk, st.length, ⟨rfl, rfl, rfl, rfl, hj, hb, Nat.le_refl _⟩, rfl⟩, ?_⟩
   rintro n s ⟨st1, junk1, m, ⟨rfl, hm, hp1, hR, hj1, hb1, hl1⟩, rfl⟩
   generalize st.reverse.map encG ++ junk = R at hR ⊢
   cases st1 with
   | nil =>
     obtain rfl : n = 0 := hm
     have hst : popZ st = [] := hp1.symm
     have hRf : flatRows R := hR ▸ flat_append (fG []) hj1
     repeat' (first | (refine And.intro ?_ ?_) | (intro h; try simp only [decide_eq_true_eq, decide_eq_false_iff_not, Int.not_lt, Int.not_le, Int.toNat_natCast, ↓reduceIte, Nat.reduceAdd, reduceCtorEq, Int.reduceLT, Int.lt_irrefl, gt_iff_lt, not_true_eq_false, not_false_eq_true, Bool.not_true, Bool.not_false, decide_false, decide_true, Int.reduceLE, Int.reduceSub, Bool.false_eq_true, Bool.true_eq_false, Nat.reduceEqDiff, Nat.one_ne_zero, Nat.reduceLT, and_self, and_true, true_and, Int.natCast_zero, Int.cast_ofNat_Int, List.length_nil, ne_eq, Decidable.not_not] at h))
     all_goals (try first | exact PlanIs.mk (by kernel_rfl) | omega | (show (_ : Int) * ((32 : Nat) : Int) ≤ _; omega) | (show (_ : Int) * ((8 : Nat) : Int) ≤ _; omega) | (show (_ : Int) * ((24 : Nat) : Int) ≤ _; omega) | exact rfl | exact Nat.le_of_ble_eq_true rfl | (show (_ : Nat) ≤ (_ : Nat); simp; done) | (show (_ : Nat) ≤ (_ : Nat); simp; omega))
     refine ⟨_, .refl _ _ _, _, rfl, ?_⟩
     repeat' (first | (refine And.intro ?_ ?_) | (intro h; try simp only [decide_eq_true_eq, decide_eq_false_iff_not, Int.not_lt, Int.not_le, Int.toNat_natCast, ↓reduceIte, Nat.reduceAdd, reduceCtorEq, Int.reduceLT, Int.lt_irrefl, gt_iff_lt, not_true_eq_false, not_false_eq_true, Bool.not_true, Bool.not_false, decide_false, decide_true, Int.reduceLE, Int.reduceSub, Bool.false_eq_true, Bool.true_eq_false, Nat.reduceEqDiff, Nat.one_ne_zero, Nat.reduceLT, and_self, and_true, true_and, Int.natCast_zero, Int.cast_ofNat_Int, List.length_nil, ne_eq, Decidable.not_not] at h))
     all_goals (try first | exact PlanIs.mk (by kernel_rfl) | omega | (show (_ : Int) * ((32 : Nat) : Int) ≤ _; omega) | (show (_ : Int) * ((8 : Nat) : Int) ≤ _; omega) | (show (_ : Int) * ((24 : Nat) : Int) ≤ _; omega) | exact rfl | exact Nat.le_of_ble_eq_true rfl | (show (_ : Nat) ≤ (_ : Nat); simp; done) | (show (_ : Nat) ≤ (_ : Nat); simp; omega))
     ·refine ⟨_, wC fs (i + 1) [(i, (fs.getD i default).kids)] (out ++ [-1]) [], reb_num [0, 6, 9] rfl ?_ ?_, ⟨i + 1, _, _, ⟨by omega, rfl, by simp [ho], by have := out_next (st := st) (st' := [(i, (fs.getD i default).kids)]) (by omega) hw (by rw [hst, pushS, if_pos (show (fs.getD i default).kind = 0 from ‹_›)]; rfl); rw [hst] at this; exact this, ?_, by simp⟩, .inr (.inr ⟨[], flat_nil, rfl⟩)⟩, by omega⟩
      ·exact ⟨.refl _, .refl _, .refl _, .refl _, .refl _, .refl _, .refl _, trivial⟩
      ·exact ⟨⟨by decide, _, rfl, .refl _⟩, ⟨by decide, _, rfl, wkB_eq (by show List.take i (List.drop 0 (out.map encI)) ++ [[.int .i64 (-1)]] = _; rw [← ho]; simp [encI]; exact List.take_of_length_le (by simp)) (fI _)⟩, ⟨by decide, _, rfl, wkB_eq rfl (flat_append (fG _) flat_nil)⟩, trivial⟩
      ·intro p hp; simp at hp; subst hp; exact hk i
     ·refine ⟨_, wC fs (i + 1) [] (out ++ [-1]) R, reb_num [0, 6, 2] rfl ?_ ?_, ⟨i + 1, _, _, ⟨by omega, rfl, by simp [ho], by have := out_next (st := st) (st' := []) (by omega) hw (by rw [hst, pushS, if_neg (show ¬ (fs.getD i default).kind = 0 from ‹_›)]; rfl); rw [hst] at this; exact this, ?_, by simp⟩, .inr (.inr ⟨R, hRf, rfl⟩)⟩, by omega⟩
      ·exact ⟨.refl _, .refl _, .refl _, .refl _, .refl _, .refl _, .refl _, trivial⟩
      ·exact ⟨⟨by decide, _, rfl, .refl _⟩, ⟨by decide, _, rfl, wkB_eq (by show List.take i (List.drop 0 (out.map encI)) ++ [[.int .i64 (-1)]] = _; rw [← ho]; simp [encI]; exact List.take_of_length_le (by simp)) (fI _)⟩, ⟨by decide, _, rfl, wkB_eq rfl (flat_append (fG _) hRf)⟩, trivial⟩
      ·intro p hp; simp at hp
   | cons q t =>
     obtain ⟨a, k⟩ := q
     obtain rfl : n = t.length + 1 := hm
     have hx1 : 0 + ((↑(t.length + 1) : Int) - 1).toNat = t.length := by omega
     have hx2 : R.getD t.length [] = encG (a, k) := by rw [← hR]; simp [List.getElem?_append, List.getElem?_map]
     have hRl : t.length < R.length := by rw [← hR]; simp
     have hRf : flatRows R := hR ▸ flat_append (fG _) hj1
     have hkb : k ≤ 9223372036854775807 := hb1 (a, k) (List.mem_cons_self ..)
     have htl : t.length + 1 ≤ st.length := hl1
     have hset : ∀ x, R.set t.length (encG x) = (x :: t).reverse.map encG ++ junk1 := fun x => by rw [← hR]; simp [List.set_append]
     repeat' (first | (refine And.intro ?_ ?_) | (intro h; try simp only [decide_eq_true_eq, decide_eq_false_iff_not, Int.not_lt, Int.not_le, Int.toNat_natCast, ↓reduceIte, Nat.reduceAdd, reduceCtorEq, Int.reduceLT, Int.lt_irrefl, gt_iff_lt, not_true_eq_false, not_false_eq_true, Bool.not_true, Bool.not_false, decide_false, decide_true, Int.reduceLE, Int.reduceSub, Bool.false_eq_true, Bool.true_eq_false, Nat.reduceEqDiff, Nat.one_ne_zero, Nat.reduceLT, and_self, and_true, true_and, Int.natCast_zero, Int.cast_ofNat_Int, List.length_nil, ne_eq, Decidable.not_not, hx1, hx2] at h))
     all_goals (try first | exact PlanIs.mk (by kernel_rfl) | omega | exact rfl | exact Nat.le_of_ble_eq_true rfl | (show (_ : Nat) ≤ (_ : Nat); simp; done) | (show (_ : Nat) ≤ (_ : Nat); simp; omega) | (rw [hx1, hx2]; exact rfl) | (rw [hx1, hx2]; show (-9223372036854775808 : Int) ≤ k - 1; have hk0 : (0 : Int) < k := ‹_›; omega) | (rw [hx1, hx2]; show k - 1 ≤ (9223372036854775807 : Int); omega) | (show (_ : Nat) ≤ (_ : Nat); rw [hx1, hx2]; exact Nat.le_of_ble_eq_true rfl))
     ·refine ⟨t.length, wCi fs i t.length out R, reb_num [0, 1, 2, 3, 4] rfl ?_ ?_, ⟨t, encG (a, k) :: junk1, t.length, ⟨rfl, rfl, ?_, ?_, ?_, fun p hp => hb1 p (List.mem_cons_of_mem _ hp), by omega⟩, rfl⟩, by omega⟩
      ·refine ⟨.refl _, .refl _, .refl _, ?_, .refl _, .refl _, .refl _, .refl _, .refl _, .refl _, trivial⟩
       show WkV (.slice 2 (0 + 0) (((↑(t.length + 1) : Int) - 1).toNat - 0) 2 none) _
       rw [show ((↑(t.length + 1) : Int) - 1).toNat - 0 = t.length by omega]
       exact .refl _
      ·exact ⟨⟨by decide, _, rfl, .refl _⟩, ⟨by decide, _, rfl, wkB_same (fI _)⟩, ⟨by decide, _, rfl, wkB_same hRf⟩, ⟨by decide, _, rfl, .refl _⟩, trivial⟩
      ·rw [← hp1, popZ, if_pos (show k ≤ 0 from ‹_›)]
      ·rw [← hR]; simp
      ·exact flat_cons (fun x hx => by simp [encG] at hx; rcases hx with rfl | rfl <;> rfl) hj1
     ·have hk0 : (0 : Int) < k := ‹_›
      have hpz : popZ st = (a, k) :: t := by rw [← hp1, popZ, if_neg (by omega)]
      refine ⟨_, .refl _ _ _, _, rfl, ?_⟩
      repeat' (first | (refine And.intro ?_ ?_) | (intro h; try simp only [decide_eq_true_eq, decide_eq_false_iff_not, Int.not_lt, Int.not_le, Int.toNat_natCast, ↓reduceIte, Nat.reduceAdd, reduceCtorEq, Int.reduceLT, Int.lt_irrefl, gt_iff_lt, not_true_eq_false, not_false_eq_true, Bool.not_true, Bool.not_false, decide_false, decide_true, Int.reduceLE, Int.reduceSub, Bool.false_eq_true, Bool.true_eq_false, Nat.reduceEqDiff, Nat.one_ne_zero, Nat.reduceLT, and_self, and_true, true_and, Int.natCast_zero, Int.cast_ofNat_Int, List.length_nil, ne_eq, Decidable.not_not, hx1, hx2] at h))
      all_goals (try first | exact PlanIs.mk (by kernel_rfl) | omega | exact rfl | exact Nat.le_of_ble_eq_true rfl | (show (_ : Nat) ≤ (_ : Nat); simp; done) | (show (_ : Nat) ≤ (_ : Nat); simp; omega) | (rw [hx1, hx2]; exact rfl) | (rw [hx1, hx2]; show (-9223372036854775808 : Int) ≤ k - 1; have hk0 : (0 : Int) < k := ‹_›; omega) | (rw [hx1, hx2]; show k - 1 ≤ (9223372036854775807 : Int); omega) | (show (_ : Nat) ≤ (_ : Nat); rw [hx1, hx2]; exact Nat.le_of_ble_eq_true rfl))
      ·refine ⟨_, wC fs (i + 1) ((i, (fs.getD i default).kids) :: (a, k - 1) :: t) (out ++ [a]) [], reb_num [0, 7, 10] rfl ?_ ?_, ⟨i + 1, _, _, ⟨by omega, rfl, by simp [ho], by have := out_next (st := st) (st' := (i, (fs.getD i default).kids) :: (a, k - 1) :: t) (by omega) hw (by rw [hpz, pushS, if_pos (show (fs.getD i default).kind = 0 from ‹_›)]; rfl); rw [hpz] at this; exact this, ?_, by simp; omega⟩, .inr (.inr ⟨[], flat_nil, rfl⟩)⟩, by omega⟩
       ·exact ⟨.refl _, .refl _, .refl _, .refl _, .refl _, .refl _, .refl _, trivial⟩
       ·refine ⟨⟨by decide, _, rfl, .refl _⟩, ⟨by decide, _, rfl, wkB_eq ?_ (fI _)⟩, ⟨by decide, _, rfl, wkB_eq ?_ (flat_append (fG _) flat_nil)⟩, trivial⟩
        ·show List.take i (List.drop 0 (out.map encI)) ++ [[.int .i64 (asI ((R.getD (0 + ((↑(t.length + 1) : Int) - 1).toNat) []).getD (0 + 0) .any))]] = _
         rw [hx1, hx2, ← ho]; simp [encI, encG, asI]; exact List.take_of_length_le (by simp)
        ·show List.take (t.length + 1) (List.drop 0 (R.set (0 + ((↑(t.length + 1) : Int) - 1).toNat) (splice (R.getD (0 + ((↑(t.length + 1) : Int) - 1).toNat) []) (0 + 1) [.int .i64 (asI ((R.getD (0 + ((↑(t.length + 1) : Int) - 1).toNat) []).getD (0 + 1) .any) - 1)]))) ++ [encG (i, (fs.getD i default).kids)] = _
         rw [hx1, hx2, show splice (encG (a, k)) (0 + 1) [.int .i64 (asI ((encG (a, k)).getD (0 + 1) .any) - 1)] = encG (a, k - 1) from rfl, hset]
         have htk : List.take (t.length + 1) (((a, k - 1) :: t).reverse.map encG ++ junk1) = ((a, k - 1) :: t).reverse.map encG := by
          rw [show t.length + 1 = (((a, k - 1) :: t).reverse.map encG).length by simp]; exact List.take_left
         rw [List.drop_zero, htk]
         simp
       ·intro p hp
        simp at hp
        rcases hp with rfl | rfl | hp
        ·exact hk i
        ·show k - 1 ≤ _; omega
        ·exact hb1 p (List.mem_cons_of_mem _ hp)
      ·refine ⟨_, wC fs (i + 1) ((a, k - 1) :: t) (out ++ [a]) junk1, reb_num [0, 7, 2] rfl ?_ ?_, ⟨i + 1, _, _, ⟨by omega, rfl, by simp [ho], by have := out_next (st := st) (st' := (a, k - 1) :: t) (by omega) hw (by rw [hpz, pushS, if_neg (show ¬ (fs.getD i default).kind = 0 from ‹_›)]; rfl); rw [hpz] at this; exact this, ?_, by simp; omega⟩, .inr (.inr ⟨junk1, hj1, rfl⟩)⟩, by omega⟩
       ·exact ⟨.refl _, .refl _, .refl _, .refl _, .refl _, .refl _, .refl _, trivial⟩
       ·refine ⟨⟨by decide, _, rfl, .refl _⟩, ⟨by decide, _, rfl, wkB_eq ?_ (fI _)⟩, ⟨by decide, _, rfl, wkB_eq ?_ (flat_append (fG _) hj1)⟩, trivial⟩
        ·show List.take i (List.drop 0 (out.map encI)) ++ [[.int .i64 (asI ((R.getD (0 + ((↑(t.length + 1) : Int) - 1).toNat) []).getD (0 + 0) .any))]] = _
         rw [hx1, hx2, ← ho]; simp [encI, encG, asI]; exact List.take_of_length_le (by simp)
        ·show R.set (0 + ((↑(t.length + 1) : Int) - 1).toNat) (splice (R.getD (0 + ((↑(t.length + 1) : Int) - 1).toNat) []) (0 + 1) [.int .i64 (asI ((R.getD (0 + ((↑(t.length + 1) : Int) - 1).toNat) []).getD (0 + 1) .any) - 1)]) = _
         rw [hx1, hx2, show splice (encG (a, k)) (0 + 1) [.int .i64 (asI ((encG (a, k)).getD (0 + 1) .any) - 1)] = encG (a, k - 1) from rfl, hset]
       ·intro p hp
        simp at hp
        rcases hp with rfl | hp
        ·show k - 1 ≤ _; omega
        ·exact hb1 p (List.mem_cons_of_mem _ hp)
  ·refine ⟨fun n s => ∃ (j : Nat) (b : Bool), (j ≤ st.length ∧ n = st.length - j) ∧ s = ⟨[(4, .bool b), (74, wL st), (75, .int .i64 st.length), (76, .int .i64 j)], [(0, some (.cells [[wO i]] false)), (1, some (.cells (out.map encI) false)), (2, some (.cells (st.reverse.map encG ++ junk) false))], 3⟩, ⟨_, _, reb_cut [4, 74, 75, 76], 0, false, ⟨by omega, rfl⟩, rfl⟩, ?_⟩
   rintro n s ⟨j, b, ⟨hj0, rfl⟩, rfl⟩
   generalize hR : st.reverse.map encG ++ junk = R
   have hRl : st.length ≤ R.length := by rw [← hR]; simp
   have hRf : flatRows R := hR ▸ flat_append (fG _) hj
   have hx2 : (j : Int) < st.length → ∃ q, R.getD j [] = encG q := fun h => by
    have h' : j < (st.reverse.map encG).length := by simp; omega
    refine ⟨st.reverse.getD j default, ?_⟩
    rw [← hR, List.getD_eq_getElem?_getD, List.getElem?_append_left h', ← List.getD_eq_getElem?_getD]
    exact row_at encG default (by simp; omega)
   repeat' (first | (refine And.intro ?_ ?_) | (intro h; try simp only [decide_eq_true_eq, decide_eq_false_iff_not, Int.not_lt, Int.not_le, Int.toNat_natCast, ↓reduceIte, Nat.reduceAdd, reduceCtorEq, Int.reduceLT, Int.lt_irrefl, gt_iff_lt, not_true_eq_false, not_false_eq_true, Bool.not_true, Bool.not_false, decide_false, decide_true, Int.reduceLE, Int.reduceSub, Bool.false_eq_true, Bool.true_eq_false, Nat.reduceEqDiff, Nat.one_ne_zero, Nat.reduceLT, and_self, and_true, true_and, Int.natCast_zero, Int.cast_ofNat_Int, List.length_nil, ne_eq, Decidable.not_not] at h))
   all_goals (try first | exact PlanIs.mk (by kernel_rfl) | omega | (show (_ : Int) * ((32 : Nat) : Int) ≤ _; omega) | (show (_ : Int) * ((8 : Nat) : Int) ≤ _; omega) | (show (_ : Int) * ((24 : Nat) : Int) ≤ _; omega) | exact rfl | exact Nat.le_of_ble_eq_true rfl | (show (_ : Nat) ≤ (_ : Nat); simp; done) | (show (_ : Nat) ≤ (_ : Nat); simp; omega))
   ·rename_i h
    obtain ⟨q, hq⟩ := hx2 h
    rw [show 0 + (j : Int).toNat = j by simp, hq]
    rfl
   ·refine ⟨_, ⟨[(4, .bool true), (74, wL st), (75, .int .i64 st.length), (76, .int .i64 ((j + 1 : Nat) : Int))], [(0, some (.cells [[wO i]] false)), (1, some (.cells (out.map encI) false)), (2, some (.cells R false))], 3⟩, reb_num [0, 1, 2] rfl ⟨.refl _, .refl _, .refl _, .refl _, trivial⟩ ⟨⟨by decide, _, rfl, .refl _⟩, ⟨by decide, _, rfl, wkB_same (fI _)⟩, ⟨by decide, _, rfl, wkB_same hRf⟩, trivial⟩, ⟨j + 1, _, ⟨by omega, rfl⟩, rfl⟩, by omega⟩
   ·refine ⟨_, ⟨[(4, .bool _), (74, wL st), (75, .int .i64 st.length), (76, .int .i64 ((j + 1 : Nat) : Int))], [(0, some (.cells [[wO i]] false)), (1, some (.cells (out.map encI) false)), (2, some (.cells R false))], 3⟩, reb_num [0, 1, 2] rfl ⟨.refl _, .refl _, .refl _, .refl _, trivial⟩ ⟨⟨by decide, _, rfl, .refl _⟩, ⟨by decide, _, rfl, wkB_same (fI _)⟩, ⟨by decide, _, rfl, wkB_same hRf⟩, trivial⟩, ⟨j + 1, _, ⟨by omega, rfl⟩, rfl⟩, by omega⟩
   ·refine ⟨_, .refl _ _ _, _, rfl, ?_⟩
    repeat' (first | (refine And.intro ?_ ?_) | (intro h; try simp only [decide_eq_true_eq, decide_eq_false_iff_not, Int.not_lt, Int.not_le, Int.toNat_natCast, ↓reduceIte, Nat.reduceAdd, reduceCtorEq, Int.reduceLT, Int.lt_irrefl, gt_iff_lt, not_true_eq_false, not_false_eq_true, Bool.not_true, Bool.not_false, decide_false, decide_true, Int.reduceLE, Int.reduceSub, Bool.false_eq_true, Bool.true_eq_false, Nat.reduceEqDiff, Nat.one_ne_zero, Nat.reduceLT, and_self, and_true, true_and, Int.natCast_zero, Int.cast_ofNat_Int, List.length_nil, ne_eq, Decidable.not_not] at h))
    all_goals (try first | exact PlanIs.mk (by kernel_rfl) | omega | (show (_ : Int) * ((32 : Nat) : Int) ≤ _; omega) | (show (_ : Int) * ((8 : Nat) : Int) ≤ _; omega) | (show (_ : Int) * ((24 : Nat) : Int) ≤ _; omega) | exact rfl | exact Nat.le_of_ble_eq_true rfl | (show (_ : Nat) ≤ (_ : Nat); simp; done) | (show (_ : Nat) ≤ (_ : Nat); simp; omega))
    ·exact aI _ _ _
    ·refine ⟨_, .refl _ _ _, _, rfl, ?_⟩
     refine ⟨_, reb_nil (k := 2) 1 encI 0 rfl, _, rfl, ?_, rfl⟩
     have h0 : fs = [] := List.eq_nil_of_length_eq_zero (by omega)
     subst h0
     rfl
    ·refine ⟨_, .refl _ _ _, _, rfl, ?_⟩
     refine ⟨_, reb_own (enc := encI) (k := 2) 0 (l := out) rfl rfl (flat_append flat_nil (flat_take (fI _))) ?_ ?_, _, rfl, ?_, rfl⟩
     ·show List.take (0 + i) ([] ++ List.take i (List.drop 0 (out.map encI))) = _
      rw [← ho, List.nil_append, List.drop_zero, Nat.zero_add, List.take_take, Nat.min_self]
      exact List.take_of_length_le (Nat.le_of_eq (List.length_map ..))
     ·show 0 + i ≤ ([] ++ List.take i (List.drop 0 (out.map encI))).length
      simp
      omega
     ·rw [List.drop_of_length_le (by omega)] at hw
      simp [wrun] at hw
      exact congrArg vI hw
end Go.Proofs.Ytajieadpaeggcaa

end
section
set_option linter.unusedVariables false
set_option linter.unusedSimpArgs false
namespace Go.Proofs.Ytajieadpaeggcaa
open Go Go.Av
set_option maxRecDepth 100000
set_option maxHeartbeats 4000000

/-! ### Plain -/
theorem popZ_mem {st : Stk} {p : Int × Int} (h : p ∈ popZ st) : p ∈ st := by
 induction st with
 | nil => simp [popZ] at h
 | cons q t ih =>
   obtain ⟨a, k⟩ := q
   rw [popZ] at h
   split at h
   ·exact List.mem_cons_of_mem _ (ih h)
   ·exact h
theorem wrun_lt : ∀ (fs : List Fd) (i : Nat) (st : Stk), (∀ p ∈ st, 0 ≤ p.1 ∧ p.1 < i) → ∀ j, j < fs.length → -1 ≤ ((wrun fs i st).map (·.1)).getD j 0 ∧ ((wrun fs i st).map (·.1)).getD j 0 < i + j
 | [], _, _, _, j, h => by simp at h
 | f :: fs, i, st, hst, j, h => by
   cases j with
   | zero =>
     show -1 ≤ parOf (popZ st) ∧ parOf (popZ st) < _
     cases hp : popZ st with
     | nil => simp only [parOf]; omega
     | cons q t =>
       have := hst q (popZ_mem (by rw [hp]; exact List.mem_cons_self ..))
       simp only [parOf]; omega
   | succ j =>
     have := wrun_lt fs (i + 1) (pushS i f (decS (popZ st))) (fun p hp => ?_) j (by simpa using h)
     ·simp only [wrun, List.map_cons, List.getD_cons_succ]
      omega
     ·have hd : p ∈ decS (popZ st) → 0 ≤ p.1 ∧ p.1 < ((i + 1 : Nat) : Int) := by
       intro hp
       cases hq : popZ st with
       | nil => rw [hq] at hp; simp [decS] at hp
       | cons q t =>
         rw [hq] at hp
         have hall : ∀ r ∈ q :: t, 0 ≤ r.1 ∧ r.1 < (i : Int) := fun r hr => hst r (popZ_mem (by rw [hq]; exact hr))
         simp only [decS, List.mem_cons] at hp
         rcases hp with rfl | hp
         ·have := hall q (List.mem_cons_self ..); exact ⟨this.1, by have := this.2; show q.1 < _; omega⟩
         ·have := hall p (List.mem_cons_of_mem _ hp); exact ⟨this.1, by omega⟩
      unfold pushS at hp
      split at hp
      ·rcases List.mem_cons.1 hp with rfl | hp
       ·exact ⟨by show (0 : Int) ≤ (i : Int); omega, by show (i : Int) < _; omega⟩
       ·exact hd hp
      ·exact hd hp
theorem parents_length (fs : List Fd) : (parentsF fs).length = fs.length := by simp [parentsF, wrun_length]
theorem parents_lt (fs : List Fd) (j : Nat) (h : j < fs.length) : -1 ≤ (parentsF fs).getD j 0 ∧ (parentsF fs).getD j 0 < j := by
 have := wrun_lt fs 0 [] (by simp) j h
 simp only [parentsF]
 omega
/-! ### What is asked of a shape -/
structure FsOk (fs : List Fd) : Prop where
 len : fs.length < 1000
 kids : ∀ i, (fs.getD i default).kids ≤ 9223372036854775807
 name : ∀ i, (fs.getD i default).name.length ≤ 1000
def S_par : SpecI := fun args K => ∃ fs, args = [vF fs] ∧ FsOk fs ∧ K (vI (parentsF fs))
theorem par_ok [Syms] : ImmOk Try.prog 73 S_par := by
 rintro args K ⟨fs, rfl, h, hk⟩
 exact ⟨rfl, _, rfl, hk, fnI tys_ok fns_ok noneT_det (pickT_ok (bodyT_ok tys_ok fns_ok noneT_det (pickT_ok (bodyT_ok tys_ok fns_ok noneT_det noneT_ok mixed) noneT_ok) mixed) (pickT_ok (bodyT_ok tys_ok fns_ok noneT_det noneT_ok mixed) noneT_ok)) mixed (parents_t fs h.len h.kids)⟩
end Go.Proofs.Ytajieadpaeggcaa

end
section
set_option linter.unusedVariables false
set_option linter.unusedSimpArgs false
namespace Go.Proofs.Ytajieadpaeggcaa
open Go Go.Av
set_option maxRecDepth 100000
set_option maxHeartbeats 4000000

/-! ### Plain -/
def popM (fs : List Fd) : Nat → List Int → List Int
 | k + 1, a :: b :: t => if 0 < (fs.getD a.toNat default).kids then popM fs k (b :: t) else a :: b :: t
 | _, op => op
def incK (fs : List Fd) (a : Nat) : List Fd := fs.set a { fs.getD a default with kids := (fs.getD a default).kids + 1 }
def kindM (op : List Int) (x : Int) : Int := if 4 < op.length ∧ (wi x 8).tmod 5 = 0 then 2 else (wi x 8).tmod 5
def nmM (i : Nat) : List UInt8 := [UInt8.ofNat (97 + i)]
def fldM (op : List Int) (i : Nat) (x : Int) : Fd := ⟨nmM i, wi (wr .i64 (x.tdiv 8)) 3, kindM op x, 0⟩
def topM (op : List Int) : Int := op.headD 0
/-- One field more. -/
def stepM (fs : List Fd) (op : List Int) (i : Nat) (x : Int) : List Fd × List Int :=
 let o := popM fs (wi (wr .i64 (x.tdiv 64)) 3).toNat op
 let f := fldM o i x
 (incK fs (topM o).toNat ++ [f], if f.kind = 0 then (fs.length : Int) :: o else o)
def runM (ns : List Int) : Nat → Nat → List Fd → List Int → List Fd × List Int
 | 0, _, fs, op => (fs, op)
 | n + 1, i, fs, op => if i < ns.length ∧ i < 12 then let r := stepM fs op i (ns.getD i 0); runM ns n (i + 1) r.1 r.2 else (fs, op)
def endM (fs : List Fd) (op : List Int) : List Fd :=
 if (fs.getD (topM op).toNat default).kids = 0 then incK fs (topM op).toNat ++ [⟨[122], 0, 4, 0⟩] else fs
def makeF (ns : List Int) : List Fd := let r := runM ns 12 0 [⟨[109], 0, 0, 0⟩] [0]; endM r.1 r.2

abbrev fs0 : List Fd := [⟨[109], 0, 0, 0⟩]
theorem nm_eq : ∀ i, i < 12 → bytesOf [[.int .u8 (wr .u8 (97 + (i : Nat)))]] = nmM i := by decide
theorem incK_length (fs : List Fd) (a : Nat) : (incK fs a).length = fs.length := by simp [incK]
theorem incK_map {fs : List Fd} {a : Nat} (h : a < fs.length) : (fs.map encF).set a [.str (fs.getD a default).name, .int .i64 (fs.getD a default).rep, .int .i64 (fs.getD a default).kind, .int .i64 ((fs.getD a default).kids + 1)] = (incK fs a).map encF := by simp [incK, encF, List.map_set]
theorem incK_kids {fs : List Fd} {a : Nat} {i : Nat} (h : ∀ f ∈ fs, 0 ≤ f.kids ∧ f.kids ≤ i) (ha : a < fs.length) : ∀ f ∈ incK fs a, 0 ≤ f.kids ∧ f.kids ≤ (i + 1 : Nat) := by
 intro f hf
 rcases List.mem_or_eq_of_mem_set hf with hf | rfl
 ·have := h f hf; omega
 ·have := h (fs.getD a default) (by simp [List.getD_eq_getElem?_getD, ha])
  simp only; omega
theorem inv_step {ns : List Int} {i : Nat} {fs : List Fd} {op : List Int} {k0 : Nat} {a : Int} {t : List Int} (hrun : runM ns (12 - i) i fs op = runM ns 12 0 fs0 [0]) (hlen : fs.length = i + 1)
 (hkid : ∀ f ∈ fs, 0 ≤ f.kids ∧ f.kids ≤ i) (hin : (i : Int) < ns.length) (h12 : (i : Int) < 12) (hk0 : wi (wr .i64 ((ns.getD i 0).tdiv 64)) 3 = (k0 : Int)) (hp : popM fs k0 op = a :: t)
 (hop1 : ∀ p ∈ a :: t, 0 ≤ p ∧ p < fs.length) (hol2 : t.length + 1 ≤ i + 1) (kd : Int) (hkd : kindM (a :: t) (ns.getD i 0) = kd) (op' : List Int) (hop' : op' = if kd = 0 then (fs.length : Int) :: a :: t else a :: t)
 (fs' : List Fd) (hfs' : fs' = incK fs a.toNat ++ [⟨nmM i, wi (wr .i64 ((ns.getD i 0).tdiv 8)) 3, kd, 0⟩]) :
 runM ns (12 - (i + 1)) (i + 1) fs' op' = runM ns 12 0 fs0 [0] ∧ fs'.length = i + 1 + 1 ∧ op' ≠ [] ∧ (∀ p ∈ op', 0 ≤ p ∧ p < fs'.length) ∧ (∀ f ∈ fs', 0 ≤ f.kids ∧ f.kids ≤ (i + 1 : Nat)) ∧ op'.length ≤ i + 1 + 1 := by
 have ha := hop1 a (List.mem_cons_self ..)
 have hl' : fs'.length = i + 1 + 1 := by rw [hfs']; simp [incK_length, hlen]
 refine ⟨?_, hl', ?_, ?_, ?_, ?_⟩
 ·rw [← hrun, show 12 - i = 12 - (i + 1) + 1 by omega, runM, if_pos (by omega)]
  simp only [stepM, hk0, Int.toNat_natCast, hp, topM, List.headD_cons, fldM, hkd, ← hfs', ← hop']
 ·rw [hop']; split <;> simp
 ·intro p hp'
  rw [hl']
  have : p = (fs.length : Int) ∨ p ∈ a :: t := by
   rw [hop'] at hp'
   split at hp'
   ·exact List.mem_cons.1 hp'
   ·exact .inr hp'
  rcases this with rfl | h
  ·omega
  ·have := hop1 p h; omega
 ·intro f hf
  rw [hfs'] at hf
  rcases List.mem_append.1 hf with hf | hf
  ·exact incK_kids hkid (by omega) f hf
  ·simp only [List.mem_singleton] at hf; subst hf; simp only; omega
 ·rw [hop']; split <;> simp only [List.length_cons] <;> omega
theorem runM_stop {ns : List Int} {n i : Nat} {fs : List Fd} {op : List Int} (h : ¬ (i < ns.length ∧ i < 12)) : runM ns n i fs op = (fs, op) := by
 cases n with
 | zero => rfl
 | succ n => simp only [runM, h, if_false]
end Go.Proofs.Ytajieadpaeggcaa

end
