/-
  Small facts of rows, for the symbolic runs. Plain.
-/
import Derived.Test.YtjffmehcbaechaaSchMake
set_option linter.unusedVariables false
set_option linter.unusedSimpArgs false
namespace Go.Proofs.Ytjffmehcbaechaa
open Go Go.Av
theorem asS_str (s : List UInt8) : asS (.str s) = s := rfl
theorem asB_bool (b : Bool) : asB (.bool b) = b := rfl
theorem encI_00 (a : Int) : (encI a).getD (0 + 0) .any = .int .i64 a := rfl
theorem encF_0 (f : Fd) : (encF f).getD 0 .any = .str f.name := rfl
theorem encF_1 (f : Fd) : (encF f).getD 1 .any = .int .i64 f.rep := rfl
theorem encF_2 (f : Fd) : (encF f).getD 2 .any = .int .i64 f.kind := rfl
theorem encF_00 (f : Fd) : (encF f).getD (0 + 0) .any = .str f.name := rfl
theorem encF_01 (f : Fd) : (encF f).getD (0 + 1) .any = .int .i64 f.rep := rfl
theorem encF_02 (f : Fd) : (encF f).getD (0 + 2) .any = .int .i64 f.kind := rfl
theorem encL_0 (l : Lf) : (encL l).getD 0 .any = .int .i64 l.field := rfl
theorem encL_1 (l : Lf) : (encL l).getD 1 .any = .int .i64 l.r := rfl
theorem encL_2 (l : Lf) : (encL l).getD 2 .any = .int .i64 l.d := rfl
theorem encL_3 (l : Lf) : (encL l).getD 3 .any = .int .i64 l.kind := rfl
theorem encL_00 (l : Lf) : (encL l).getD (0 + 0) .any = .int .i64 l.field := rfl
theorem encL_01 (l : Lf) : (encL l).getD (0 + 1) .any = .int .i64 l.r := rfl
theorem encL_02 (l : Lf) : (encL l).getD (0 + 2) .any = .int .i64 l.d := rfl
theorem encL_03 (l : Lf) : (encL l).getD (0 + 3) .any = .int .i64 l.kind := rfl
theorem encL_len (l : Lf) : (encL l).length = 4 := rfl
theorem encI_len (a : Int) : (encI a).length = 1 := rfl
theorem fin_rows {rows rows' : List (List AVal)} {ro : Bool} {ρ : Nat → Nat} (h : rows = rows') (hf : flatRows rows') : WkB (.cells rows ro) ((Blk.cells rows' ro).ren ρ) := wkB_eq h hf
/-- What is read of rows, at once. -/
theorem sg : (∀ (k : IntKind) (n : Int), asI (.int k n) = n) ∧ (∀ s, asS (.str s) = s) ∧ (∀ b, asB (.bool b) = b) ∧ (∀ a, (encI a).getD 0 .any = .int .i64 a) ∧ (∀ a, (encI a).getD (0 + 0) .any = .int .i64 a) ∧
    (∀ f, (encF f).getD 0 .any = .str f.name) ∧ (∀ f, (encF f).getD 1 .any = .int .i64 f.rep) ∧ (∀ f, (encF f).getD 2 .any = .int .i64 f.kind) ∧ (∀ f, (encF f).getD 3 .any = .int .i64 f.kids) ∧
    (∀ f, (encF f).getD (0 + 0) .any = .str f.name) ∧ (∀ f, (encF f).getD (0 + 1) .any = .int .i64 f.rep) ∧ (∀ f, (encF f).getD (0 + 2) .any = .int .i64 f.kind) ∧ (∀ f, (encF f).getD (0 + 3) .any = .int .i64 f.kids) ∧
    (∀ l, (encL l).getD 0 .any = .int .i64 l.field) ∧ (∀ l, (encL l).getD 1 .any = .int .i64 l.r) ∧ (∀ l, (encL l).getD 2 .any = .int .i64 l.d) ∧ (∀ l, (encL l).getD 3 .any = .int .i64 l.kind) ∧
    (∀ l, (encL l).getD (0 + 0) .any = .int .i64 l.field) ∧ (∀ l, (encL l).getD (0 + 1) .any = .int .i64 l.r) ∧ (∀ l, (encL l).getD (0 + 2) .any = .int .i64 l.d) ∧ (∀ l, (encL l).getD (0 + 3) .any = .int .i64 l.kind) ∧
    (∀ n : Nat, 0 + n = n) ∧ (∀ n : Nat, n + 0 = n) ∧ (∀ n : Nat, ((n : Nat) : Int).toNat = n) ∧ ((0 : Int).toNat = 0) ∧
    (∀ (x d : AVal) (l : List AVal), (x :: l).getD 0 d = x) ∧ (∀ (x d : AVal) (l : List AVal) (n : Nat), (x :: l).getD (n + 1) d = l.getD n d) ∧ (∀ (x d : List AVal) (l : List (List AVal)), (x :: l).getD 0 d = x) ∧ (∀ (x d : List AVal) (l : List (List AVal)) (n : Nat), (x :: l).getD (n + 1) d = l.getD n d) :=
  ⟨fun _ _ => rfl, fun _ => rfl, fun _ => rfl, fun _ => rfl, fun _ => rfl, fun _ => rfl, fun _ => rfl, fun _ => rfl, fun _ => rfl, fun _ => rfl, fun _ => rfl, fun _ => rfl, fun _ => rfl, fun _ => rfl, fun _ => rfl, fun _ => rfl, fun _ => rfl, fun _ => rfl, fun _ => rfl, fun _ => rfl, fun _ => rfl,
   Nat.zero_add, Nat.add_zero, Int.toNat_natCast, Int.toNat_zero, fun _ _ _ => rfl, fun _ _ _ _ => rfl, fun _ _ _ => rfl, fun _ _ _ _ => rfl⟩
/-- What tests say, at once. -/
theorem sx : (∀ (p : Prop) [Decidable p], (decide p = true) = p) ∧ (∀ (p : Prop) [Decidable p], (decide p = false) = ¬p) ∧ (∀ a b : Int, (¬a < b) = (b ≤ a)) ∧ (∀ a b : Int, (¬a ≤ b) = (b < a)) ∧ (∀ n : Nat, ((n : Nat) : Int).toNat = n) ∧ (∀ a : Int, (a < a) = False) ∧
    (∀ a b : Int, (a > b) = (b < a)) ∧ (∀ a b : Nat, (a > b) = (b < a)) ∧ ((¬True) = False) ∧ ((¬False) = True) ∧ ((!true) = false) ∧ ((!false) = true) ∧ (decide False = false) ∧ (decide True = true) ∧ ((false = true) = False) ∧ ((true = false) = False) ∧ ((1 : Nat) = 0) = False ∧
    (∀ p : Prop, (p ∧ p) = p) ∧ (∀ p : Prop, (p ∧ True) = p) ∧ (∀ p : Prop, (True ∧ p) = p) ∧ (((0 : Nat) : Int) = 0) ∧ (∀ α : Type, ([] : List α).length = 0) ∧ (∀ (α : Type) (a b : α), (a ≠ b) = ¬(a = b)) ∧ (∀ (p : Prop) [Decidable p], (¬¬p) = p) ∧
    (∀ b : Bool, ((!b) = true) = (b = false)) ∧ (∀ b : Bool, ((!b) = false) = (b = true)) ∧ (∀ (α β : Type) (f : α → β) (l : List α), (l.map f).length = l.length) := by
  refine ⟨fun p _ => decide_eq_true_eq, fun p _ => propext decide_eq_false_iff_not, fun a b => propext Int.not_lt, fun a b => propext Int.not_le, Int.toNat_natCast, fun a => eq_false (Int.lt_irrefl a), fun a b => rfl, fun a b => rfl, not_true_eq_false, not_false_eq_true, rfl, rfl, rfl, rfl, by simp, by simp, by simp, and_self, and_true, true_and, rfl, fun _ => rfl, fun _ _ _ => rfl, fun p _ => propext Decidable.not_not, fun b => by cases b <;> simp, fun b => by cases b <;> simp, fun _ _ f l => List.length_map ..⟩
/-- What closes a small condition. -/
theorem cz {P : Prop} (h : P := by first | ((with_reducible refine PlanIs.mk ?_); kernel_rfl) | ((with_reducible refine NoSel.mk ?_); kernel_rfl) | ((with_reducible refine Apart.mk ?_); kernel_rfl) | ((with_reducible first | show (_ : Nat) ≤ _ | show (_ : Nat) < _); first | omega | (simp only [sg, List.length_map]; omega) | exact Nat.le_of_ble_eq_true rfl) | ((with_reducible first | show (_ : Int) ≤ _ | show (_ : Int) < _); first | omega | (simp only [sg, List.length_map]; omega)) | ((with_reducible show _ = _); exact rfl)) : P := h
/-- What cannot be. -/
theorem nz {p q : Prop} (h : p) (k : ¬p := by omega) : q := absurd h k
end Go.Proofs.Ytjffmehcbaechaa
