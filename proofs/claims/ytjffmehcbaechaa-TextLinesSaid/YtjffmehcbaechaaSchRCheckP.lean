/-
  The document's 'Check'. Plain.
-/
import Derived.Test.YtjffmehcbaechaaSchCheckP
set_option linter.unusedVariables false
set_option linter.unusedSimpArgs false
namespace Go.Proofs.Ytjffmehcbaechaa
open Go Go.Av
def chkD (fs : List Fd) (i : Nat) : Int := chkAt fs (parentsF fs) i ((depthsF fs).getD i 0)
/-- A group has more fields than can be: what the fields behind it say first. -/
def lacksF (fs : List Fd) : Nat → Nat → Int
  | _, 0 => 1
  | i, n + 1 => if chkD fs i ≠ 0 then chkD fs i else lacksF fs (i + 1) n
def rFrom (fs : List Fd) : Nat → Nat → Int → Int
  | _, 0, kids => if kids ≠ fs.length - 1 then 1 else 0
  | i, n + 1, kids => if chkD fs i ≠ 0 then chkD fs i else if 40 < (fs.getD i default).kids then lacksF fs (i + 1) n else rFrom fs (i + 1) n (kids + (fs.getD i default).kids)
def rcheckF (fs : List Fd) : Int := if fs.length < 1 ∨ 40 < fs.length then 4 else rFrom fs 0 fs.length 0
theorem lacksF_step {fs : List Fd} {i : Nat} (h : i < fs.length) : lacksF fs i (fs.length - i) = if chkD fs i ≠ 0 then chkD fs i else lacksF fs (i + 1) (fs.length - (i + 1)) := by
  rw [show fs.length - i = (fs.length - (i + 1)) + 1 by omega, lacksF]
theorem rFrom_step {fs : List Fd} {i : Nat} {kids : Int} (h : i < fs.length) : rFrom fs i (fs.length - i) kids = if chkD fs i ≠ 0 then chkD fs i else if 40 < (fs.getD i default).kids then lacksF fs (i + 1) (fs.length - (i + 1)) else rFrom fs (i + 1) (fs.length - (i + 1)) (kids + (fs.getD i default).kids) := by
  rw [show fs.length - i = (fs.length - (i + 1)) + 1 by omega, rFrom]
theorem chk1_zero {f : Fd} {i : Nat} {par dep : Int} {nm tw : Bool} (h : chk1 f i par dep nm tw = 0) : (0 < i → 0 ≤ par) ∧ dep ≤ 8 ∧ nm = true ∧ tw = false ∧ 0 ≤ f.rep ∧ f.rep ≤ 2 ∧ 0 ≤ f.kind ∧ f.kind ≤ 4 ∧ (i = 0 → f.rep = 0 ∧ f.kind = 0) ∧ (f.kind = 0 → 1 ≤ f.kids) ∧ (f.kind ≠ 0 → f.kids = 0) := by
  unfold chk1 at h
  repeat' split at h
  all_goals first
    | omega
    | (cases nm <;> cases tw <;> simp at * <;> omega)
theorem chkD_zero {fs : List Fd} {i : Nat} (h : chkD fs i = 0) : 0 ≤ (fs.getD i default).kids := by
  obtain ⟨_, _, _, _, _, _, _, _, _, h1, h2⟩ := chk1_zero h
  by_cases hk : (fs.getD i default).kind = 0
  · have := h1 hk; omega
  · have := h2 hk; omega
end Go.Proofs.Ytjffmehcbaechaa
