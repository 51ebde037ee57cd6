/-
  Shapes of records as plain data, and how they are laid out; what it is to walk over one. Plain.
-/
import Derived.Test.YtjffmehcbaechaaSxOne
import Derived.Test.YtjffmehcbaechaaTab
set_option linter.unusedVariables false
set_option linter.unusedSimpArgs false
namespace Go.Proofs.Ytjffmehcbaechaa
open Go Go.Av

structure Fd where
  name : List UInt8
  rep : Int
  kind : Int
  kids : Int
  deriving Inhabited
structure Lf where
  field : Int
  r : Int
  d : Int
  kind : Int
  deriving Inhabited
def encF (f : Fd) : List AVal := [.str f.name, .int .i64 f.rep, .int .i64 f.kind, .int .i64 f.kids]
def encI (p : Int) : List AVal := [.int .i64 p]
def encL (l : Lf) : List AVal := [.int .i64 l.field, .int .i64 l.r, .int .i64 l.d, .int .i64 l.kind]
def encG (p : Int × Int) : List AVal := [.int .i64 p.1, .int .i64 p.2]
abbrev vF (fs : List Fd) : AVal := vT 4 encF default fs
abbrev vI (l : List Int) : AVal := vT 1 encI 0 l
abbrev vL (l : List Lf) : AVal := vT 4 encL default l

theorem fF (l : List Fd) : flatRows (l.map encF) := flat_map (fun a x hx => by simp [encF] at hx; rcases hx with rfl | rfl | rfl | rfl <;> rfl) l
theorem fI (l : List Int) : flatRows (l.map encI) := flat_map (fun a x hx => by simp [encI] at hx; subst hx; rfl) l
theorem fL (l : List Lf) : flatRows (l.map encL) := flat_map (fun a x hx => by simp [encL] at hx; rcases hx with rfl | rfl | rfl | rfl <;> rfl) l
theorem fG (l : List (Int × Int)) : flatRows (l.map encG) := flat_map (fun a x hx => by simp [encG] at hx; rcases hx with rfl | rfl <;> rfl) l

theorem allLen_cut {α : Type} {enc : α → List AVal} {z : Nat} (h : ∀ a, (enc a).length = z) (l : List α) (a b : Nat) : allLen z (((l.map enc).drop a).take b) = true := by
  rw [allLen, List.all_eq_true]
  intro r hr
  obtain ⟨x, _, rfl⟩ := List.mem_map.1 (List.mem_of_mem_drop (List.mem_of_mem_take hr))
  rw [h]; exact Nat.beq_refl z
theorem aI (l : List Int) (a b : Nat) : allLen 1 (((l.map encI).drop a).take b) = true := allLen_cut (enc := encI) (z := 1) (fun _ => rfl) l a b

/-! ### Walking over a shape -/
/-- The groups that are open, the innermost ahead: its place, how many it lacks. -/
abbrev Stk := List (Int × Int)
def popZ : Stk → Stk
  | [] => []
  | (a, k) :: t => if k ≤ 0 then popZ t else (a, k) :: t
def parOf : Stk → Int
  | [] => -1
  | (a, _) :: _ => a
def decS : Stk → Stk
  | [] => []
  | (a, k) :: t => (a, k - 1) :: t
def pushS (i : Nat) (f : Fd) (st : Stk) : Stk := if f.kind = 0 then ((i : Int), f.kids) :: st else st
/-- Of each field its group, and how deep it is. -/
def wrun : List Fd → Nat → Stk → List (Int × Int)
  | [], _, _ => []
  | f :: fs, i, st => (parOf (popZ st), ((popZ st).length : Int)) :: wrun fs (i + 1) (pushS i f (decS (popZ st)))
def parentsF (fs : List Fd) : List Int := (wrun fs 0 []).map (·.1)
theorem wrun_length : ∀ (fs : List Fd) (i : Nat) (st : Stk), (wrun fs i st).length = fs.length
  | [], _, _ => rfl
  | f :: fs, i, st => by simp [wrun, wrun_length fs]
end Go.Proofs.Ytjffmehcbaechaa
