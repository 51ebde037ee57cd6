/-
  QueryRefuses, where the first number is 9.
-/
import Derived.Test.YtpbbcakepfojkaaGreatQRef
set_option linter.unusedVariables false
noncomputable section
namespace Go.Proofs.YtpbbcakepfojkaaGreat
open Go.Av
set_option maxRecDepth 1000000
def cR9 (r : Int) : CallF := orCall (conCall 5 (.bool true)) (orCall (symCon 7 0 10 (9 : Nat)) (orCall (symCon 7 1 9 r) (orCall (qBase) (orCall (rwC) (roC)))))
def xR9 (r : Int) : Option (AVal × Heap × Nat) := fnRunQ (cR9 r) (puMask 1024) (puMask 56542955475833507266105290444041190424528126610383631550720) (fnTab fns) (tyTab tys) 300 3 [.sym 0, .sym 1] [] 0
theorem xR9_0 : isTrue (xR9 (0 : Nat)) = true := by kernel_rfl
theorem xR9_1 : isTrue (xR9 (1 : Nat)) = true := by kernel_rfl
theorem xR9_2 : isTrue (xR9 (2 : Nat)) = true := by kernel_rfl
theorem xR9_3 : isTrue (xR9 (3 : Nat)) = true := by kernel_rfl
theorem xR9_4 : isTrue (xR9 (4 : Nat)) = true := by kernel_rfl
theorem xR9_5 : isTrue (xR9 (5 : Nat)) = true := by kernel_rfl
theorem xR9_6 : isTrue (xR9 (6 : Nat)) = true := by kernel_rfl
theorem xR9_7 : isTrue (xR9 (7 : Nat)) = true := by kernel_rfl
theorem xR9_8 : isTrue (xR9 (8 : Nat)) = true := by kernel_rfl
theorem gR9 [Syms] (r : Nat) (h : r < 9) (c0 : (symCon 7 0 10 ((9 : Nat) : Int)).ok Tryz.prog) (c1 : (symCon 7 1 9 (r : Int)).ok Tryz.prog) : ∃ H' nx', ACalls Tryz.prog 3 [.sym 0, .sym 1] [] 0 (.bool true) H' nx' := by
  have hc : (cR9 r).ok Tryz.prog := orCall_ok (known_ok) (orCall_ok (c0) (orCall_ok (c1) (orCall_ok (qBase_ok) (orCall_ok (rw_ok) (ro_ok)))))
  refine acalls_true (fnRunQ_ok (pu := puMask 1024) (gc := puMask 56542955475833507266105290444041190424528126610383631550720) hc tys_ok fns_ok mixed 300) ?_
  rcases (show r = 0 ∨ r = 1 ∨ r = 2 ∨ r = 3 ∨ r = 4 ∨ r = 5 ∨ r = 6 ∨ r = 7 ∨ r = 8 by omega) with rfl | rfl | rfl | rfl | rfl | rfl | rfl | rfl | rfl
  · exact xR9_0
  · exact xR9_1
  · exact xR9_2
  · exact xR9_3
  · exact xR9_4
  · exact xR9_5
  · exact xR9_6
  · exact xR9_7
  · exact xR9_8
end Go.Proofs.YtpbbcakepfojkaaGreat
