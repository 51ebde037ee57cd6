/-
  What is wrong with a shape. Plain.
-/
import Derived.Test.YtjffmehcbaechaaSchRefP
import Derived.Test.YtjffmehcbaechaaSchTwin
set_option linter.unusedVariables false
set_option linter.unusedSimpArgs false
namespace Go.Proofs.Ytjffmehcbaechaa
open Go Go.Av
def letterF (c : UInt8) : Bool := decide (97 ≤ c.toNat) && decide (c.toNat ≤ 122)
def signF (c : UInt8) : Bool := letterF c || (decide (48 ≤ c.toNat) && decide (c.toNat ≤ 57)) || decide (c.toNat = 95)
def nameF (s : List UInt8) : Bool := decide (1 ≤ s.length) && decide (s.length ≤ 12) && letterF (s.headD 0) && s.all signF
/-- What is wrong with one field. -/
def chk1 (f : Fd) (i : Nat) (par dep : Int) (nm tw : Bool) : Int :=
  if 0 < i ∧ par < 0 then 1 else if 8 < dep then 11 else if nm = false ∨ tw = true then 7
  else if f.rep < 0 ∨ 2 < f.rep ∨ f.kind < 0 ∨ 4 < f.kind then 3 else if i = 0 ∧ (f.rep ≠ 0 ∨ f.kind ≠ 0) then 3
  else if (f.kind = 0 ∧ f.kids < 1) ∨ (f.kind ≠ 0 ∧ f.kids ≠ 0) then 1 else 0
def chkAt (fs : List Fd) (ps : List Int) (i : Nat) (dep : Int) : Int :=
  chk1 (fs.getD i default) i (ps.getD i 0) dep (nameF (fs.getD i default).name) (twinF fs ps i)
theorem chk1_range (f : Fd) (i : Nat) (par dep : Int) (nm tw : Bool) : 0 ≤ chk1 f i par dep nm tw ∧ chk1 f i par dep nm tw ≤ 11 := by
  unfold chk1
  repeat' split
  all_goals omega
def chkFrom (fs : List Fd) : Nat → Nat → Int
  | _, 0 => 0
  | i, n + 1 => if chkAt fs (parentsF fs) i ((depthsF fs).getD i 0) ≠ 0 then chkAt fs (parentsF fs) i ((depthsF fs).getD i 0) else chkFrom fs (i + 1) n
/-- The groups that are open at the end. -/
def wfin : List Fd → Nat → Stk → Stk
  | [], _, st => st
  | f :: fs, i, st => wfin fs (i + 1) (pushS i f (decS (popZ st)))
def openS (st : Stk) : Bool := st.any fun p => decide (0 < p.2)
def checkF (fs : List Fd) : Int :=
  if fs.length < 1 ∨ 40 < fs.length then 4 else if chkFrom fs 0 fs.length ≠ 0 then chkFrom fs 0 fs.length else if openS (wfin fs 0 []) = true then 1 else 0
theorem chkFrom_range (fs : List Fd) : ∀ i n, 0 ≤ chkFrom fs i n ∧ chkFrom fs i n ≤ 11
  | _, 0 => by simp [chkFrom]
  | i, n + 1 => by
    rw [chkFrom]
    split
    · exact chk1_range ..
    · exact chkFrom_range fs (i + 1) n
theorem chkFrom_step {fs : List Fd} {i : Nat} (h : i < fs.length) : chkFrom fs i (fs.length - i) = if chkAt fs (parentsF fs) i ((depthsF fs).getD i 0) ≠ 0 then chkAt fs (parentsF fs) i ((depthsF fs).getD i 0) else chkFrom fs (i + 1) (fs.length - (i + 1)) := by
  rw [show fs.length - i = (fs.length - (i + 1)) + 1 by omega, chkFrom]
end Go.Proofs.Ytjffmehcbaechaa
