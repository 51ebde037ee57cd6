/-
  'Parents': the places of fields' groups.
-/
import Derived.Test.YtjffmehcbaechaaSchTwin
set_option linter.unusedVariables false
set_option linter.unusedSimpArgs false
namespace Go.Proofs.Ytjffmehcbaechaa
open Go Go.Av
set_option maxRecDepth 100000
set_option maxHeartbeats 4000000
abbrev tB [Syms] (c ci : CallT) : CallT := bodyT c ci (fnTab fns) (tyTab tys) (plTab plt) 100
def wE (fs : List Fd) (i : Nat) (l : AVal) : Env := [(0, vF fs), (1, .func 57 [.ptr 0 0 0]), (4, .bool false), (5, l), (12, vF fs), (13, .int .i64 fs.length), (14, .int .i64 i)]
def wO (n : Nat) : AVal := .slice 1 0 n 1 none
def wL (st : Stk) : AVal := .slice 2 0 st.length 2 none
def wA (fs : List Fd) : St := ⟨wE fs 0 .nils, [(0, some (.cells [[.nils]] false))], 1⟩
def wB (fs : List Fd) (i : Nat) (out : List Int) : St := ⟨wE fs i .nils, [(0, some (.cells [[wO i]] false)), (1, some (.cells (out.map encI) false))], 2⟩
def wC (fs : List Fd) (i : Nat) (st : Stk) (out : List Int) (junk : List (List AVal)) : St := ⟨wE fs i (wL st), [(0, some (.cells [[wO i]] false)), (1, some (.cells (out.map encI) false)), (2, some (.cells (st.reverse.map encG ++ junk) false))], 3⟩
def wSt (fs : List Fd) (i : Nat) (st : Stk) (out : List Int) (s : St) : Prop :=
  (i = 0 ∧ st = [] ∧ out = [] ∧ s = wA fs) ∨ (st = [] ∧ s = wB fs i out) ∨ (∃ junk, flatRows junk ∧ s = wC fs i st out junk)
def wInv (fs : List Fd) (n : Nat) (s : St) : Prop := ∃ (i : Nat) (st : Stk) (out : List Int), (i ≤ fs.length ∧ n = fs.length - i ∧ out.length = i ∧ out ++ (wrun (fs.drop i) i st).map (·.1) = parentsF fs ∧ (∀ p ∈ st, p.2 ≤ 9223372036854775807) ∧ st.length ≤ i) ∧ wSt fs i st out s
def wCi (fs : List Fd) (i n : Nat) (out : List Int) (R : List (List AVal)) : St := ⟨[(0, vF fs), (1, .func 57 [.ptr 0 0 0]), (4, .bool false), (5, .slice 2 0 n 2 none), (6, .int .i64 i), (7, .ptr 3 0 0), (12, vF fs), (13, .int .i64 fs.length), (14, .int .i64 i), (15, .bool (decide ((i : Int) < fs.length)))], [(0, some (.cells [[wO i]] false)), (1, some (.cells (out.map encI) false)), (2, some (.cells R false)), (3, some (.cells [encF (fs.getD i default)] false))], 5⟩
theorem drop_at {α : Type} [Inhabited α] {l : List α} {i : Nat} (h : i < l.length) : l.drop i = l.getD i default :: l.drop (i + 1) := by
  rw [List.drop_eq_getElem_cons h]; simp [h]
theorem wrun_at {fs : List Fd} {i : Nat} {st : Stk} (h : i < fs.length) : wrun (fs.drop i) i st = (parOf (popZ st), ((popZ st).length : Int)) :: wrun (fs.drop (i + 1)) (i + 1) (pushS i (fs.getD i default) (decS (popZ st))) := by
  rw [drop_at h]; rfl
theorem out_next {fs : List Fd} {i : Nat} {st st' : Stk} {out : List Int} (h : i < fs.length) (hw : out ++ (wrun (fs.drop i) i st).map (·.1) = parentsF fs) (hs : st' = pushS i (fs.getD i default) (decS (popZ st))) :
    (out ++ [parOf (popZ st)]) ++ (wrun (fs.drop (i + 1)) (i + 1) st').map (·.1) = parentsF fs := by
  rw [← hw, wrun_at h, hs]; simp
theorem parents_t [Syms] (fs : List Fd) (hl : fs.length < 1000) (hk : ∀ i, (fs.getD i default).kids ≤ 9223372036854775807) :
    fnT noneT (pickT 44 (tB noneT (pickT 57 (tB noneT noneT) noneT)) (pickT 58 (tB noneT noneT) noneT)) (fnTab fns) (tyTab tys) (plTab plt) 100 43 [vF fs] [] 0 (fun v H _ => v = vI (parentsF fs) ∧ H = []) := by
  refine ⟨wInv fs, ⟨_, wA fs, ?_, 0, [], [], ⟨by omega, rfl, rfl, rfl, by simp, by simp⟩, .inl ⟨rfl, rfl, rfl, rfl⟩⟩, ?_⟩
  · exact .refl _ _ _
  rintro n s ⟨i, st, out, ⟨hi, rfl, ho, hw, hb, hsl⟩, (⟨rfl, rfl, rfl, rfl⟩ | ⟨rfl, rfl⟩ | ⟨junk, hj, rfl⟩)⟩
  · repeat' (first | (refine And.intro ?_ ?_) | (intro h; try simp only [decide_eq_true_eq, decide_eq_false_iff_not, Int.not_lt, Int.not_le, Int.toNat_natCast, ↓reduceIte, Nat.reduceAdd, reduceCtorEq, Int.reduceLT, Int.lt_irrefl, gt_iff_lt, not_true_eq_false, not_false_eq_true, Bool.not_true, Bool.not_false, decide_false, decide_true, Int.reduceLE, Int.reduceSub, Bool.false_eq_true, Bool.true_eq_false, Nat.reduceEqDiff, Nat.one_ne_zero, Nat.reduceLT, and_self, and_true, true_and, Int.natCast_zero, Int.cast_ofNat_Int, List.length_nil, ne_eq, Decidable.not_not] at h))
    all_goals (try first | exact PlanIs.mk (by kernel_rfl) | omega | (show (_ : Int) * ((32 : Nat) : Int) ≤ _; omega) | (show (_ : Int) * ((8 : Nat) : Int) ≤ _; omega) | (show (_ : Int) * ((24 : Nat) : Int) ≤ _; omega) | exact rfl | exact Nat.le_of_ble_eq_true rfl | (show (_ : Nat) ≤ (_ : Nat); simp; done) | (show (_ : Nat) ≤ (_ : Nat); simp; omega))
    · refine loop_once ?_
      repeat' (first | (refine And.intro ?_ ?_) | (intro h; try simp only [decide_eq_true_eq, decide_eq_false_iff_not, Int.not_lt, Int.not_le, Int.toNat_natCast, ↓reduceIte, Nat.reduceAdd, reduceCtorEq, Int.reduceLT, Int.lt_irrefl, gt_iff_lt, not_true_eq_false, not_false_eq_true, Bool.not_true, Bool.not_false, decide_false, decide_true, Int.reduceLE, Int.reduceSub, Bool.false_eq_true, Bool.true_eq_false, Nat.reduceEqDiff, Nat.one_ne_zero, Nat.reduceLT, and_self, and_true, true_and, Int.natCast_zero, Int.cast_ofNat_Int, List.length_nil, ne_eq, Decidable.not_not] at h))
      all_goals (try first | exact PlanIs.mk (by kernel_rfl) | omega | (show (_ : Int) * ((32 : Nat) : Int) ≤ _; omega) | (show (_ : Int) * ((8 : Nat) : Int) ≤ _; omega) | (show (_ : Int) * ((24 : Nat) : Int) ≤ _; omega) | exact rfl | exact Nat.le_of_ble_eq_true rfl | (show (_ : Nat) ≤ (_ : Nat); simp; done) | (show (_ : Nat) ≤ (_ : Nat); simp; omega))
      refine ⟨_, .refl _ _ _, _, rfl, ?_⟩
      repeat' (first | (refine And.intro ?_ ?_) | (intro h; try simp only [decide_eq_true_eq, decide_eq_false_iff_not, Int.not_lt, Int.not_le, Int.toNat_natCast, ↓reduceIte, Nat.reduceAdd, reduceCtorEq, Int.reduceLT, Int.lt_irrefl, gt_iff_lt, not_true_eq_false, not_false_eq_true, Bool.not_true, Bool.not_false, decide_false, decide_true, Int.reduceLE, Int.reduceSub, Bool.false_eq_true, Bool.true_eq_false, Nat.reduceEqDiff, Nat.one_ne_zero, Nat.reduceLT, and_self, and_true, true_and, Int.natCast_zero, Int.cast_ofNat_Int, List.length_nil, ne_eq, Decidable.not_not] at h))
      all_goals (try first | exact PlanIs.mk (by kernel_rfl) | omega | (show (_ : Int) * ((32 : Nat) : Int) ≤ _; omega) | (show (_ : Int) * ((8 : Nat) : Int) ≤ _; omega) | (show (_ : Int) * ((24 : Nat) : Int) ≤ _; omega) | exact rfl | exact Nat.le_of_ble_eq_true rfl | (show (_ : Nat) ≤ (_ : Nat); simp; done) | (show (_ : Nat) ≤ (_ : Nat); simp; omega))
      · refine ⟨_, wC fs 1 [(0, (fs.getD 0 default).kids)] [-1] [], reb_num [0, 4, 7] rfl ?_ ?_, ⟨1, _, [-1], ⟨by omega, rfl, rfl, out_next (st := []) (by omega) hw (by rw [pushS, if_pos (show (fs.getD 0 default).kind = 0 from ‹_›)]; rfl), ?_, by simp⟩, .inr (.inr ⟨[], by simp [flatRows], rfl⟩)⟩, by omega⟩
        · exact ⟨.refl _, .refl _, .refl _, .refl _, .refl _, .refl _, .refl _, trivial⟩
        · exact ⟨⟨by decide, _, rfl, .refl _⟩, ⟨by decide, _, rfl, .refl _⟩, ⟨by decide, _, rfl, wkB_eq rfl (flat_append (fG _) flat_nil)⟩, trivial⟩
        · intro p hp; simp at hp; subst hp; exact hk 0
      · refine ⟨_, wB fs 1 [-1], reb_num [0, 4] rfl ?_ ?_, ⟨1, _, [-1], ⟨by omega, rfl, rfl, out_next (st := []) (by omega) hw (by rw [pushS, if_neg (show ¬ (fs.getD 0 default).kind = 0 from ‹_›)]; rfl), ?_, by simp⟩, .inr (.inl ⟨rfl, rfl⟩)⟩, by omega⟩
        · exact ⟨.refl _, .refl _, .refl _, .refl _, .refl _, .refl _, .refl _, trivial⟩
        · exact ⟨⟨by decide, _, rfl, .refl _⟩, ⟨by decide, _, rfl, .refl _⟩, trivial⟩
        · intro p hp; simp at hp
    · refine loop_once ?_
      repeat' (first | (refine And.intro ?_ ?_) | (intro h; try simp only [decide_eq_true_eq, decide_eq_false_iff_not, Int.not_lt, Int.not_le, Int.toNat_natCast, ↓reduceIte, Nat.reduceAdd, reduceCtorEq, Int.reduceLT, Int.lt_irrefl, gt_iff_lt, not_true_eq_false, not_false_eq_true, Bool.not_true, Bool.not_false, decide_false, decide_true, Int.reduceLE, Int.reduceSub, Bool.false_eq_true, Bool.true_eq_false, Nat.reduceEqDiff, Nat.one_ne_zero, Nat.reduceLT, and_self, and_true, true_and, Int.natCast_zero, Int.cast_ofNat_Int, List.length_nil, ne_eq, Decidable.not_not] at h))
      all_goals (try first | exact PlanIs.mk (by kernel_rfl) | omega | (show (_ : Int) * ((32 : Nat) : Int) ≤ _; omega) | (show (_ : Int) * ((8 : Nat) : Int) ≤ _; omega) | (show (_ : Int) * ((24 : Nat) : Int) ≤ _; omega) | exact rfl | exact Nat.le_of_ble_eq_true rfl | (show (_ : Nat) ≤ (_ : Nat); simp; done) | (show (_ : Nat) ≤ (_ : Nat); simp; omega))
      refine ⟨_, .refl _ _ _, _, rfl, ?_⟩
      repeat' (first | (refine And.intro ?_ ?_) | (intro h; try simp only [decide_eq_true_eq, decide_eq_false_iff_not, Int.not_lt, Int.not_le, Int.toNat_natCast, ↓reduceIte, Nat.reduceAdd, reduceCtorEq, Int.reduceLT, Int.lt_irrefl, gt_iff_lt, not_true_eq_false, not_false_eq_true, Bool.not_true, Bool.not_false, decide_false, decide_true, Int.reduceLE, Int.reduceSub, Bool.false_eq_true, Bool.true_eq_false, Nat.reduceEqDiff, Nat.one_ne_zero, Nat.reduceLT, and_self, and_true, true_and, Int.natCast_zero, Int.cast_ofNat_Int, List.length_nil, ne_eq, Decidable.not_not] at h))
      all_goals (try first | exact PlanIs.mk (by kernel_rfl) | omega | (show (_ : Int) * ((32 : Nat) : Int) ≤ _; omega) | (show (_ : Int) * ((8 : Nat) : Int) ≤ _; omega) | (show (_ : Int) * ((24 : Nat) : Int) ≤ _; omega) | exact rfl | exact Nat.le_of_ble_eq_true rfl | (show (_ : Nat) ≤ (_ : Nat); simp; done) | (show (_ : Nat) ≤ (_ : Nat); simp; omega))
      refine ⟨_, .refl _ _ _, _, rfl, ?_⟩
      refine ⟨_, reb_nil (k := 2) 1 encI 0 rfl, _, rfl, ?_, rfl⟩
      have h0 : fs = [] := List.eq_nil_of_length_eq_zero (by omega)
      subst h0
      rfl
  · repeat' (first | (refine And.intro ?_ ?_) | (intro h; try simp only [decide_eq_true_eq, decide_eq_false_iff_not, Int.not_lt, Int.not_le, Int.toNat_natCast, ↓reduceIte, Nat.reduceAdd, reduceCtorEq, Int.reduceLT, Int.lt_irrefl, gt_iff_lt, not_true_eq_false, not_false_eq_true, Bool.not_true, Bool.not_false, decide_false, decide_true, Int.reduceLE, Int.reduceSub, Bool.false_eq_true, Bool.true_eq_false, Nat.reduceEqDiff, Nat.one_ne_zero, Nat.reduceLT, and_self, and_true, true_and, Int.natCast_zero, Int.cast_ofNat_Int, List.length_nil, ne_eq, Decidable.not_not] at h))
    all_goals (try first | exact PlanIs.mk (by kernel_rfl) | omega | (show (_ : Int) * ((32 : Nat) : Int) ≤ _; omega) | (show (_ : Int) * ((8 : Nat) : Int) ≤ _; omega) | (show (_ : Int) * ((24 : Nat) : Int) ≤ _; omega) | exact rfl | exact Nat.le_of_ble_eq_true rfl | (show (_ : Nat) ≤ (_ : Nat); simp; done) | (show (_ : Nat) ≤ (_ : Nat); simp; omega))
    · refine loop_once ?_
      repeat' (first | (refine And.intro ?_ ?_) | (intro h; try simp only [decide_eq_true_eq, decide_eq_false_iff_not, Int.not_lt, Int.not_le, Int.toNat_natCast, ↓reduceIte, Nat.reduceAdd, reduceCtorEq, Int.reduceLT, Int.lt_irrefl, gt_iff_lt, not_true_eq_false, not_false_eq_true, Bool.not_true, Bool.not_false, decide_false, decide_true, Int.reduceLE, Int.reduceSub, Bool.false_eq_true, Bool.true_eq_false, Nat.reduceEqDiff, Nat.one_ne_zero, Nat.reduceLT, and_self, and_true, true_and, Int.natCast_zero, Int.cast_ofNat_Int, List.length_nil, ne_eq, Decidable.not_not] at h))
      all_goals (try first | exact PlanIs.mk (by kernel_rfl) | omega | (show (_ : Int) * ((32 : Nat) : Int) ≤ _; omega) | (show (_ : Int) * ((8 : Nat) : Int) ≤ _; omega) | (show (_ : Int) * ((24 : Nat) : Int) ≤ _; omega) | exact rfl | exact Nat.le_of_ble_eq_true rfl | (show (_ : Nat) ≤ (_ : Nat); simp; done) | (show (_ : Nat) ≤ (_ : Nat); simp; omega))
      refine ⟨_, .refl _ _ _, _, rfl, ?_⟩
      repeat' (first | (refine And.intro ?_ ?_) | (intro h; try simp only [decide_eq_true_eq, decide_eq_false_iff_not, Int.not_lt, Int.not_le, Int.toNat_natCast, ↓reduceIte, Nat.reduceAdd, reduceCtorEq, Int.reduceLT, Int.lt_irrefl, gt_iff_lt, not_true_eq_false, not_false_eq_true, Bool.not_true, Bool.not_false, decide_false, decide_true, Int.reduceLE, Int.reduceSub, Bool.false_eq_true, Bool.true_eq_false, Nat.reduceEqDiff, Nat.one_ne_zero, Nat.reduceLT, and_self, and_true, true_and, Int.natCast_zero, Int.cast_ofNat_Int, List.length_nil, ne_eq, Decidable.not_not] at h))
      all_goals (try first | exact PlanIs.mk (by kernel_rfl) | omega | (show (_ : Int) * ((32 : Nat) : Int) ≤ _; omega) | (show (_ : Int) * ((8 : Nat) : Int) ≤ _; omega) | (show (_ : Int) * ((24 : Nat) : Int) ≤ _; omega) | exact rfl | exact Nat.le_of_ble_eq_true rfl | (show (_ : Nat) ≤ (_ : Nat); simp; done) | (show (_ : Nat) ≤ (_ : Nat); simp; omega))
      · refine ⟨_, wC fs (i + 1) [(i, (fs.getD i default).kids)] (out ++ [-1]) [], reb_num [0, 5, 8] rfl ?_ ?_, ⟨i + 1, _, _, ⟨by omega, rfl, by simp [ho], out_next (st := []) (by omega) hw (by rw [pushS, if_pos (show (fs.getD i default).kind = 0 from ‹_›)]; rfl), ?_, by simp⟩, .inr (.inr ⟨[], by simp [flatRows], rfl⟩)⟩, by omega⟩
        · exact ⟨.refl _, .refl _, .refl _, .refl _, .refl _, .refl _, .refl _, trivial⟩
        · exact ⟨⟨by decide, _, rfl, .refl _⟩, ⟨by decide, _, rfl, wkB_eq (by show List.take i (List.drop 0 (out.map encI)) ++ [[.int .i64 (-1)]] = _; rw [← ho]; simp [encI]; exact List.take_of_length_le (by simp)) (fI _)⟩, ⟨by decide, _, rfl, wkB_eq rfl (flat_append (fG _) flat_nil)⟩, trivial⟩
        · intro p hp; simp at hp; subst hp; exact hk i
      · refine ⟨_, wB fs (i + 1) (out ++ [-1]), reb_num [0, 5] rfl ?_ ?_, ⟨i + 1, _, _, ⟨by omega, rfl, by simp [ho], out_next (st := []) (by omega) hw (by rw [pushS, if_neg (show ¬ (fs.getD i default).kind = 0 from ‹_›)]; rfl), ?_, by simp⟩, .inr (.inl ⟨rfl, rfl⟩)⟩, by omega⟩
        · exact ⟨.refl _, .refl _, .refl _, .refl _, .refl _, .refl _, .refl _, trivial⟩
        · exact ⟨⟨by decide, _, rfl, .refl _⟩, ⟨by decide, _, rfl, wkB_eq (by show List.take i (List.drop 0 (out.map encI)) ++ [[.int .i64 (-1)]] = _; rw [← ho]; simp [encI]; exact List.take_of_length_le (by simp)) (fI _)⟩, trivial⟩
        · intro p hp; simp at hp
    · refine loop_once ?_
      repeat' (first | (refine And.intro ?_ ?_) | (intro h; try simp only [decide_eq_true_eq, decide_eq_false_iff_not, Int.not_lt, Int.not_le, Int.toNat_natCast, ↓reduceIte, Nat.reduceAdd, reduceCtorEq, Int.reduceLT, Int.lt_irrefl, gt_iff_lt, not_true_eq_false, not_false_eq_true, Bool.not_true, Bool.not_false, decide_false, decide_true, Int.reduceLE, Int.reduceSub, Bool.false_eq_true, Bool.true_eq_false, Nat.reduceEqDiff, Nat.one_ne_zero, Nat.reduceLT, and_self, and_true, true_and, Int.natCast_zero, Int.cast_ofNat_Int, List.length_nil, ne_eq, Decidable.not_not] at h))
      all_goals (try first | exact PlanIs.mk (by kernel_rfl) | omega | (show (_ : Int) * ((32 : Nat) : Int) ≤ _; omega) | (show (_ : Int) * ((8 : Nat) : Int) ≤ _; omega) | (show (_ : Int) * ((24 : Nat) : Int) ≤ _; omega) | exact rfl | exact Nat.le_of_ble_eq_true rfl | (show (_ : Nat) ≤ (_ : Nat); simp; done) | (show (_ : Nat) ≤ (_ : Nat); simp; omega))
      refine ⟨_, .refl _ _ _, _, rfl, ?_⟩
      repeat' (first | (refine And.intro ?_ ?_) | (intro h; try simp only [decide_eq_true_eq, decide_eq_false_iff_not, Int.not_lt, Int.not_le, Int.toNat_natCast, ↓reduceIte, Nat.reduceAdd, reduceCtorEq, Int.reduceLT, Int.lt_irrefl, gt_iff_lt, not_true_eq_false, not_false_eq_true, Bool.not_true, Bool.not_false, decide_false, decide_true, Int.reduceLE, Int.reduceSub, Bool.false_eq_true, Bool.true_eq_false, Nat.reduceEqDiff, Nat.one_ne_zero, Nat.reduceLT, and_self, and_true, true_and, Int.natCast_zero, Int.cast_ofNat_Int, List.length_nil, ne_eq, Decidable.not_not] at h))
      all_goals (try first | exact PlanIs.mk (by kernel_rfl) | omega | (show (_ : Int) * ((32 : Nat) : Int) ≤ _; omega) | (show (_ : Int) * ((8 : Nat) : Int) ≤ _; omega) | (show (_ : Int) * ((24 : Nat) : Int) ≤ _; omega) | exact rfl | exact Nat.le_of_ble_eq_true rfl | (show (_ : Nat) ≤ (_ : Nat); simp; done) | (show (_ : Nat) ≤ (_ : Nat); simp; omega))
      · exact aI _ _ _
      · refine ⟨_, .refl _ _ _, _, rfl, ?_⟩
        refine ⟨_, reb_nil (k := 2) 1 encI 0 rfl, _, rfl, ?_, rfl⟩
        have h0 : fs = [] := List.eq_nil_of_length_eq_zero (by omega)
        subst h0
        rfl
      · refine ⟨_, .refl _ _ _, _, rfl, ?_⟩
        refine ⟨_, reb_own (enc := encI) (k := 2) 0 (l := out) rfl rfl (flat_append flat_nil (flat_take (fI _))) ?_ ?_, _, rfl, ?_, rfl⟩
        · show List.take (0 + i) ([] ++ List.take i (List.drop 0 (out.map encI))) = _
          rw [← ho, List.nil_append, List.drop_zero, Nat.zero_add, List.take_take, Nat.min_self]
          exact List.take_of_length_le (Nat.le_of_eq (List.length_map ..))
        · show 0 + i ≤ ([] ++ List.take i (List.drop 0 (out.map encI))).length
          simp
          omega
        · rw [List.drop_of_length_le (by omega)] at hw
          simp [wrun] at hw
          exact congrArg vI hw
  · repeat' (first | (refine And.intro ?_ ?_) | (intro h; try simp only [decide_eq_true_eq, decide_eq_false_iff_not, Int.not_lt, Int.not_le, Int.toNat_natCast, ↓reduceIte, Nat.reduceAdd, reduceCtorEq, Int.reduceLT, Int.lt_irrefl, gt_iff_lt, not_true_eq_false, not_false_eq_true, Bool.not_true, Bool.not_false, decide_false, decide_true, Int.reduceLE, Int.reduceSub, Bool.false_eq_true, Bool.true_eq_false, Nat.reduceEqDiff, Nat.one_ne_zero, Nat.reduceLT, and_self, and_true, true_and, Int.natCast_zero, Int.cast_ofNat_Int, List.length_nil, ne_eq, Decidable.not_not] at h))
    all_goals (try first | exact PlanIs.mk (by kernel_rfl) | omega | (show (_ : Int) * ((32 : Nat) : Int) ≤ _; omega) | (show (_ : Int) * ((8 : Nat) : Int) ≤ _; omega) | (show (_ : Int) * ((24 : Nat) : Int) ≤ _; omega) | exact rfl | exact Nat.le_of_ble_eq_true rfl | (show (_ : Nat) ≤ (_ : Nat); simp; done) | (show (_ : Nat) ≤ (_ : Nat); simp; omega))
    · refine ⟨fun n s => ∃ (st1 : Stk) (junk1 : List (List AVal)) (m : Nat), (n = m ∧ m = st1.length ∧ popZ st1 = popZ st ∧ st1.reverse.map encG ++ junk1 = st.reverse.map encG ++ junk ∧ flatRows junk1 ∧ (∀ p ∈ st1, p.2 ≤ 9223372036854775807) ∧ st1.length ≤ st.length) ∧ s = wCi fs i m out (st.reverse.map encG ++ junk), ⟨_, wCi fs i st.length out (st.reverse.map encG ++ junk), .refl _ _ _, st, junk, st.length, ⟨rfl, rfl, rfl, rfl, hj, hb, Nat.le_refl _⟩, rfl⟩, ?_⟩
      rintro n s ⟨st1, junk1, m, ⟨rfl, hm, hp1, hR, hj1, hb1, hl1⟩, rfl⟩
      generalize st.reverse.map encG ++ junk = R at hR ⊢
      cases st1 with
      | nil =>
        obtain rfl : n = 0 := hm
        have hst : popZ st = [] := hp1.symm
        have hRf : flatRows R := hR ▸ flat_append (fG []) hj1
        repeat' (first | (refine And.intro ?_ ?_) | (intro h; try simp only [decide_eq_true_eq, decide_eq_false_iff_not, Int.not_lt, Int.not_le, Int.toNat_natCast, ↓reduceIte, Nat.reduceAdd, reduceCtorEq, Int.reduceLT, Int.lt_irrefl, gt_iff_lt, not_true_eq_false, not_false_eq_true, Bool.not_true, Bool.not_false, decide_false, decide_true, Int.reduceLE, Int.reduceSub, Bool.false_eq_true, Bool.true_eq_false, Nat.reduceEqDiff, Nat.one_ne_zero, Nat.reduceLT, and_self, and_true, true_and, Int.natCast_zero, Int.cast_ofNat_Int, List.length_nil, ne_eq, Decidable.not_not] at h))
        all_goals (try first | exact PlanIs.mk (by kernel_rfl) | omega | (show (_ : Int) * ((32 : Nat) : Int) ≤ _; omega) | (show (_ : Int) * ((8 : Nat) : Int) ≤ _; omega) | (show (_ : Int) * ((24 : Nat) : Int) ≤ _; omega) | exact rfl | exact Nat.le_of_ble_eq_true rfl | (show (_ : Nat) ≤ (_ : Nat); simp; done) | (show (_ : Nat) ≤ (_ : Nat); simp; omega))
        refine ⟨_, .refl _ _ _, _, rfl, ?_⟩
        repeat' (first | (refine And.intro ?_ ?_) | (intro h; try simp only [decide_eq_true_eq, decide_eq_false_iff_not, Int.not_lt, Int.not_le, Int.toNat_natCast, ↓reduceIte, Nat.reduceAdd, reduceCtorEq, Int.reduceLT, Int.lt_irrefl, gt_iff_lt, not_true_eq_false, not_false_eq_true, Bool.not_true, Bool.not_false, decide_false, decide_true, Int.reduceLE, Int.reduceSub, Bool.false_eq_true, Bool.true_eq_false, Nat.reduceEqDiff, Nat.one_ne_zero, Nat.reduceLT, and_self, and_true, true_and, Int.natCast_zero, Int.cast_ofNat_Int, List.length_nil, ne_eq, Decidable.not_not] at h))
        all_goals (try first | exact PlanIs.mk (by kernel_rfl) | omega | (show (_ : Int) * ((32 : Nat) : Int) ≤ _; omega) | (show (_ : Int) * ((8 : Nat) : Int) ≤ _; omega) | (show (_ : Int) * ((24 : Nat) : Int) ≤ _; omega) | exact rfl | exact Nat.le_of_ble_eq_true rfl | (show (_ : Nat) ≤ (_ : Nat); simp; done) | (show (_ : Nat) ≤ (_ : Nat); simp; omega))
        · refine ⟨_, wC fs (i + 1) [(i, (fs.getD i default).kids)] (out ++ [-1]) [], reb_num [0, 6, 9] rfl ?_ ?_, ⟨i + 1, _, _, ⟨by omega, rfl, by simp [ho], by have := out_next (st := st) (st' := [(i, (fs.getD i default).kids)]) (by omega) hw (by rw [hst, pushS, if_pos (show (fs.getD i default).kind = 0 from ‹_›)]; rfl); rw [hst] at this; exact this, ?_, by simp⟩, .inr (.inr ⟨[], flat_nil, rfl⟩)⟩, by omega⟩
          · exact ⟨.refl _, .refl _, .refl _, .refl _, .refl _, .refl _, .refl _, trivial⟩
          · exact ⟨⟨by decide, _, rfl, .refl _⟩, ⟨by decide, _, rfl, wkB_eq (by show List.take i (List.drop 0 (out.map encI)) ++ [[.int .i64 (-1)]] = _; rw [← ho]; simp [encI]; exact List.take_of_length_le (by simp)) (fI _)⟩, ⟨by decide, _, rfl, wkB_eq rfl (flat_append (fG _) flat_nil)⟩, trivial⟩
          · intro p hp; simp at hp; subst hp; exact hk i
        · refine ⟨_, wC fs (i + 1) [] (out ++ [-1]) R, reb_num [0, 6, 2] rfl ?_ ?_, ⟨i + 1, _, _, ⟨by omega, rfl, by simp [ho], by have := out_next (st := st) (st' := []) (by omega) hw (by rw [hst, pushS, if_neg (show ¬ (fs.getD i default).kind = 0 from ‹_›)]; rfl); rw [hst] at this; exact this, ?_, by simp⟩, .inr (.inr ⟨R, hRf, rfl⟩)⟩, by omega⟩
          · exact ⟨.refl _, .refl _, .refl _, .refl _, .refl _, .refl _, .refl _, trivial⟩
          · exact ⟨⟨by decide, _, rfl, .refl _⟩, ⟨by decide, _, rfl, wkB_eq (by show List.take i (List.drop 0 (out.map encI)) ++ [[.int .i64 (-1)]] = _; rw [← ho]; simp [encI]; exact List.take_of_length_le (by simp)) (fI _)⟩, ⟨by decide, _, rfl, wkB_eq rfl (flat_append (fG _) hRf)⟩, trivial⟩
          · intro p hp; simp at hp
      | cons q t =>
        obtain ⟨a, k⟩ := q
        obtain rfl : n = t.length + 1 := hm
        have hx1 : 0 + ((↑(t.length + 1) : Int) - 1).toNat = t.length := by omega
        have hx2 : R.getD t.length [] = encG (a, k) := by rw [← hR]; simp [List.getElem?_append, List.getElem?_map]
        have hRl : t.length < R.length := by rw [← hR]; simp
        have hRf : flatRows R := hR ▸ flat_append (fG _) hj1
        have hkb : k ≤ 9223372036854775807 := hb1 (a, k) (List.mem_cons_self ..)
        have htl : t.length + 1 ≤ st.length := hl1
        have hset : ∀ x, R.set t.length (encG x) = (x :: t).reverse.map encG ++ junk1 := fun x => by rw [← hR]; simp [List.set_append]
        repeat' (first | (refine And.intro ?_ ?_) | (intro h; try simp only [decide_eq_true_eq, decide_eq_false_iff_not, Int.not_lt, Int.not_le, Int.toNat_natCast, ↓reduceIte, Nat.reduceAdd, reduceCtorEq, Int.reduceLT, Int.lt_irrefl, gt_iff_lt, not_true_eq_false, not_false_eq_true, Bool.not_true, Bool.not_false, decide_false, decide_true, Int.reduceLE, Int.reduceSub, Bool.false_eq_true, Bool.true_eq_false, Nat.reduceEqDiff, Nat.one_ne_zero, Nat.reduceLT, and_self, and_true, true_and, Int.natCast_zero, Int.cast_ofNat_Int, List.length_nil, ne_eq, Decidable.not_not, hx1, hx2] at h))
        all_goals (try first | exact PlanIs.mk (by kernel_rfl) | omega | exact rfl | exact Nat.le_of_ble_eq_true rfl | (show (_ : Nat) ≤ (_ : Nat); simp; done) | (show (_ : Nat) ≤ (_ : Nat); simp; omega) | (rw [hx1, hx2]; exact rfl) | (rw [hx1, hx2]; show (-9223372036854775808 : Int) ≤ k - 1; have hk0 : (0 : Int) < k := ‹_›; omega) | (rw [hx1, hx2]; show k - 1 ≤ (9223372036854775807 : Int); omega) | (show (_ : Nat) ≤ (_ : Nat); rw [hx1, hx2]; exact Nat.le_of_ble_eq_true rfl))
        · refine ⟨t.length, wCi fs i t.length out R, reb_num [0, 1, 2, 3, 4] rfl ?_ ?_, ⟨t, encG (a, k) :: junk1, t.length, ⟨rfl, rfl, ?_, ?_, ?_, fun p hp => hb1 p (List.mem_cons_of_mem _ hp), by omega⟩, rfl⟩, by omega⟩
          · refine ⟨.refl _, .refl _, .refl _, ?_, .refl _, .refl _, .refl _, .refl _, .refl _, .refl _, trivial⟩
            show WkV (.slice 2 (0 + 0) (((↑(t.length + 1) : Int) - 1).toNat - 0) 2 none) _
            rw [show ((↑(t.length + 1) : Int) - 1).toNat - 0 = t.length by omega]
            exact .refl _
          · exact ⟨⟨by decide, _, rfl, .refl _⟩, ⟨by decide, _, rfl, wkB_same (fI _)⟩, ⟨by decide, _, rfl, wkB_same hRf⟩, ⟨by decide, _, rfl, .refl _⟩, trivial⟩
          · rw [← hp1, popZ, if_pos (show k ≤ 0 from ‹_›)]
          · rw [← hR]; simp
          · exact flat_cons (fun x hx => by simp [encG] at hx; rcases hx with rfl | rfl <;> rfl) hj1
        · have hk0 : (0 : Int) < k := ‹_›
          have hpz : popZ st = (a, k) :: t := by rw [← hp1, popZ, if_neg (by omega)]
          refine ⟨_, .refl _ _ _, _, rfl, ?_⟩
          repeat' (first | (refine And.intro ?_ ?_) | (intro h; try simp only [decide_eq_true_eq, decide_eq_false_iff_not, Int.not_lt, Int.not_le, Int.toNat_natCast, ↓reduceIte, Nat.reduceAdd, reduceCtorEq, Int.reduceLT, Int.lt_irrefl, gt_iff_lt, not_true_eq_false, not_false_eq_true, Bool.not_true, Bool.not_false, decide_false, decide_true, Int.reduceLE, Int.reduceSub, Bool.false_eq_true, Bool.true_eq_false, Nat.reduceEqDiff, Nat.one_ne_zero, Nat.reduceLT, and_self, and_true, true_and, Int.natCast_zero, Int.cast_ofNat_Int, List.length_nil, ne_eq, Decidable.not_not, hx1, hx2] at h))
          all_goals (try first | exact PlanIs.mk (by kernel_rfl) | omega | exact rfl | exact Nat.le_of_ble_eq_true rfl | (show (_ : Nat) ≤ (_ : Nat); simp; done) | (show (_ : Nat) ≤ (_ : Nat); simp; omega) | (rw [hx1, hx2]; exact rfl) | (rw [hx1, hx2]; show (-9223372036854775808 : Int) ≤ k - 1; have hk0 : (0 : Int) < k := ‹_›; omega) | (rw [hx1, hx2]; show k - 1 ≤ (9223372036854775807 : Int); omega) | (show (_ : Nat) ≤ (_ : Nat); rw [hx1, hx2]; exact Nat.le_of_ble_eq_true rfl))
          · refine ⟨_, wC fs (i + 1) ((i, (fs.getD i default).kids) :: (a, k - 1) :: t) (out ++ [a]) [], reb_num [0, 7, 10] rfl ?_ ?_, ⟨i + 1, _, _, ⟨by omega, rfl, by simp [ho], by have := out_next (st := st) (st' := (i, (fs.getD i default).kids) :: (a, k - 1) :: t) (by omega) hw (by rw [hpz, pushS, if_pos (show (fs.getD i default).kind = 0 from ‹_›)]; rfl); rw [hpz] at this; exact this, ?_, by simp; omega⟩, .inr (.inr ⟨[], flat_nil, rfl⟩)⟩, by omega⟩
            · exact ⟨.refl _, .refl _, .refl _, .refl _, .refl _, .refl _, .refl _, trivial⟩
            · refine ⟨⟨by decide, _, rfl, .refl _⟩, ⟨by decide, _, rfl, wkB_eq ?_ (fI _)⟩, ⟨by decide, _, rfl, wkB_eq ?_ (flat_append (fG _) flat_nil)⟩, trivial⟩
              · show List.take i (List.drop 0 (out.map encI)) ++ [[.int .i64 (asI ((R.getD (0 + ((↑(t.length + 1) : Int) - 1).toNat) []).getD (0 + 0) .any))]] = _
                rw [hx1, hx2, ← ho]; simp [encI, encG, asI]; exact List.take_of_length_le (by simp)
              · show List.take (t.length + 1) (List.drop 0 (R.set (0 + ((↑(t.length + 1) : Int) - 1).toNat) (splice (R.getD (0 + ((↑(t.length + 1) : Int) - 1).toNat) []) (0 + 1) [.int .i64 (asI ((R.getD (0 + ((↑(t.length + 1) : Int) - 1).toNat) []).getD (0 + 1) .any) - 1)]))) ++ [encG (i, (fs.getD i default).kids)] = _
                rw [hx1, hx2, show splice (encG (a, k)) (0 + 1) [.int .i64 (asI ((encG (a, k)).getD (0 + 1) .any) - 1)] = encG (a, k - 1) from rfl, hset]
                have htk : List.take (t.length + 1) (((a, k - 1) :: t).reverse.map encG ++ junk1) = ((a, k - 1) :: t).reverse.map encG := by
                  rw [show t.length + 1 = (((a, k - 1) :: t).reverse.map encG).length by simp]; exact List.take_left
                rw [List.drop_zero, htk]
                simp
            · intro p hp
              simp at hp
              rcases hp with rfl | rfl | hp
              · exact hk i
              · show k - 1 ≤ _; omega
              · exact hb1 p (List.mem_cons_of_mem _ hp)
          · refine ⟨_, wC fs (i + 1) ((a, k - 1) :: t) (out ++ [a]) junk1, reb_num [0, 7, 2] rfl ?_ ?_, ⟨i + 1, _, _, ⟨by omega, rfl, by simp [ho], by have := out_next (st := st) (st' := (a, k - 1) :: t) (by omega) hw (by rw [hpz, pushS, if_neg (show ¬ (fs.getD i default).kind = 0 from ‹_›)]; rfl); rw [hpz] at this; exact this, ?_, by simp; omega⟩, .inr (.inr ⟨junk1, hj1, rfl⟩)⟩, by omega⟩
            · exact ⟨.refl _, .refl _, .refl _, .refl _, .refl _, .refl _, .refl _, trivial⟩
            · refine ⟨⟨by decide, _, rfl, .refl _⟩, ⟨by decide, _, rfl, wkB_eq ?_ (fI _)⟩, ⟨by decide, _, rfl, wkB_eq ?_ (flat_append (fG _) hj1)⟩, trivial⟩
              · show List.take i (List.drop 0 (out.map encI)) ++ [[.int .i64 (asI ((R.getD (0 + ((↑(t.length + 1) : Int) - 1).toNat) []).getD (0 + 0) .any))]] = _
                rw [hx1, hx2, ← ho]; simp [encI, encG, asI]; exact List.take_of_length_le (by simp)
              · show R.set (0 + ((↑(t.length + 1) : Int) - 1).toNat) (splice (R.getD (0 + ((↑(t.length + 1) : Int) - 1).toNat) []) (0 + 1) [.int .i64 (asI ((R.getD (0 + ((↑(t.length + 1) : Int) - 1).toNat) []).getD (0 + 1) .any) - 1)]) = _
                rw [hx1, hx2, show splice (encG (a, k)) (0 + 1) [.int .i64 (asI ((encG (a, k)).getD (0 + 1) .any) - 1)] = encG (a, k - 1) from rfl, hset]
            · intro p hp
              simp at hp
              rcases hp with rfl | hp
              · show k - 1 ≤ _; omega
              · exact hb1 p (List.mem_cons_of_mem _ hp)
    · refine ⟨fun n s => ∃ (j : Nat) (b : Bool), (j ≤ st.length ∧ n = st.length - j) ∧ s = ⟨[(4, .bool b), (74, wL st), (75, .int .i64 st.length), (76, .int .i64 j)], [(0, some (.cells [[wO i]] false)), (1, some (.cells (out.map encI) false)), (2, some (.cells (st.reverse.map encG ++ junk) false))], 3⟩, ⟨_, _, reb_cut [4, 74, 75, 76], 0, false, ⟨by omega, rfl⟩, rfl⟩, ?_⟩
      rintro n s ⟨j, b, ⟨hj0, rfl⟩, rfl⟩
      generalize hR : st.reverse.map encG ++ junk = R
      have hRl : st.length ≤ R.length := by rw [← hR]; simp
      have hRf : flatRows R := hR ▸ flat_append (fG _) hj
      have hx2 : (j : Int) < st.length → ∃ q, R.getD j [] = encG q := fun h => by
        have h' : j < (st.reverse.map encG).length := by simp; omega
        refine ⟨st.reverse.getD j default, ?_⟩
        rw [← hR, List.getD_eq_getElem?_getD, List.getElem?_append_left h', ← List.getD_eq_getElem?_getD]
        exact row_at encG default (by simp; omega)
      repeat' (first | (refine And.intro ?_ ?_) | (intro h; try simp only [decide_eq_true_eq, decide_eq_false_iff_not, Int.not_lt, Int.not_le, Int.toNat_natCast, ↓reduceIte, Nat.reduceAdd, reduceCtorEq, Int.reduceLT, Int.lt_irrefl, gt_iff_lt, not_true_eq_false, not_false_eq_true, Bool.not_true, Bool.not_false, decide_false, decide_true, Int.reduceLE, Int.reduceSub, Bool.false_eq_true, Bool.true_eq_false, Nat.reduceEqDiff, Nat.one_ne_zero, Nat.reduceLT, and_self, and_true, true_and, Int.natCast_zero, Int.cast_ofNat_Int, List.length_nil, ne_eq, Decidable.not_not] at h))
      all_goals (try first | exact PlanIs.mk (by kernel_rfl) | omega | (show (_ : Int) * ((32 : Nat) : Int) ≤ _; omega) | (show (_ : Int) * ((8 : Nat) : Int) ≤ _; omega) | (show (_ : Int) * ((24 : Nat) : Int) ≤ _; omega) | exact rfl | exact Nat.le_of_ble_eq_true rfl | (show (_ : Nat) ≤ (_ : Nat); simp; done) | (show (_ : Nat) ≤ (_ : Nat); simp; omega))
      · rename_i h
        obtain ⟨q, hq⟩ := hx2 h
        rw [show 0 + (j : Int).toNat = j by simp, hq]
        rfl
      · refine ⟨_, ⟨[(4, .bool true), (74, wL st), (75, .int .i64 st.length), (76, .int .i64 ((j + 1 : Nat) : Int))], [(0, some (.cells [[wO i]] false)), (1, some (.cells (out.map encI) false)), (2, some (.cells R false))], 3⟩, reb_num [0, 1, 2] rfl ⟨.refl _, .refl _, .refl _, .refl _, trivial⟩ ⟨⟨by decide, _, rfl, .refl _⟩, ⟨by decide, _, rfl, wkB_same (fI _)⟩, ⟨by decide, _, rfl, wkB_same hRf⟩, trivial⟩, ⟨j + 1, _, ⟨by omega, rfl⟩, rfl⟩, by omega⟩
      · refine ⟨_, ⟨[(4, .bool _), (74, wL st), (75, .int .i64 st.length), (76, .int .i64 ((j + 1 : Nat) : Int))], [(0, some (.cells [[wO i]] false)), (1, some (.cells (out.map encI) false)), (2, some (.cells R false))], 3⟩, reb_num [0, 1, 2] rfl ⟨.refl _, .refl _, .refl _, .refl _, trivial⟩ ⟨⟨by decide, _, rfl, .refl _⟩, ⟨by decide, _, rfl, wkB_same (fI _)⟩, ⟨by decide, _, rfl, wkB_same hRf⟩, trivial⟩, ⟨j + 1, _, ⟨by omega, rfl⟩, rfl⟩, by omega⟩
      · refine ⟨_, .refl _ _ _, _, rfl, ?_⟩
        repeat' (first | (refine And.intro ?_ ?_) | (intro h; try simp only [decide_eq_true_eq, decide_eq_false_iff_not, Int.not_lt, Int.not_le, Int.toNat_natCast, ↓reduceIte, Nat.reduceAdd, reduceCtorEq, Int.reduceLT, Int.lt_irrefl, gt_iff_lt, not_true_eq_false, not_false_eq_true, Bool.not_true, Bool.not_false, decide_false, decide_true, Int.reduceLE, Int.reduceSub, Bool.false_eq_true, Bool.true_eq_false, Nat.reduceEqDiff, Nat.one_ne_zero, Nat.reduceLT, and_self, and_true, true_and, Int.natCast_zero, Int.cast_ofNat_Int, List.length_nil, ne_eq, Decidable.not_not] at h))
        all_goals (try first | exact PlanIs.mk (by kernel_rfl) | omega | (show (_ : Int) * ((32 : Nat) : Int) ≤ _; omega) | (show (_ : Int) * ((8 : Nat) : Int) ≤ _; omega) | (show (_ : Int) * ((24 : Nat) : Int) ≤ _; omega) | exact rfl | exact Nat.le_of_ble_eq_true rfl | (show (_ : Nat) ≤ (_ : Nat); simp; done) | (show (_ : Nat) ≤ (_ : Nat); simp; omega))
        · exact aI _ _ _
        · refine ⟨_, .refl _ _ _, _, rfl, ?_⟩
          refine ⟨_, reb_nil (k := 2) 1 encI 0 rfl, _, rfl, ?_, rfl⟩
          have h0 : fs = [] := List.eq_nil_of_length_eq_zero (by omega)
          subst h0
          rfl
        · refine ⟨_, .refl _ _ _, _, rfl, ?_⟩
          refine ⟨_, reb_own (enc := encI) (k := 2) 0 (l := out) rfl rfl (flat_append flat_nil (flat_take (fI _))) ?_ ?_, _, rfl, ?_, rfl⟩
          · show List.take (0 + i) ([] ++ List.take i (List.drop 0 (out.map encI))) = _
            rw [← ho, List.nil_append, List.drop_zero, Nat.zero_add, List.take_take, Nat.min_self]
            exact List.take_of_length_le (Nat.le_of_eq (List.length_map ..))
          · show 0 + i ≤ ([] ++ List.take i (List.drop 0 (out.map encI))).length
            simp
            omega
          · rw [List.drop_of_length_le (by omega)] at hw
            simp [wrun] at hw
            exact congrArg vI hw
end Go.Proofs.Ytjffmehcbaechaa
