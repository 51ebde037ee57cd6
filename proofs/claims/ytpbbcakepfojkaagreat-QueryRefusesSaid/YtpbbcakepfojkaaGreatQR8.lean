/-
  QueryRefuses, where the first number is 8.
-/
import Derived.Test.YtpbbcakepfojkaaGreatQRef
set_option linter.unusedVariables false
noncomputable section
namespace Go.Proofs.YtpbbcakepfojkaaGreat
open Go.Av
set_option maxRecDepth 1000000
def h8A : List AVal := [.slice 0 0 5 4 (some 5), .agg [.int .i64 0, .str [], .slice 274877906992 0 4 1 none], .slice 373662154806 0 1 4 (some 1)]
def h8K : Heap := [(0, some (.cells [[.str [109], .int .i64 0, .int .i64 0, .int .i64 4], [.str [97], .int .i64 0, .int .i64 1, .int .i64 0], [.str [98], .int .i64 2, .int .i64 3, .int .i64 0], [.str [99], .int .i64 1, .int .i64 2, .int .i64 0], [.str [100], .int .i64 0, .int .i64 4, .int .i64 0]] false)), (146028888097, some (.cells [[.int .i64 0, .str [], .nils]] false)), (274877906990, some (.cells [[.int .i64 0, .str [], .nils]] false)), (274877906992, some (.cells [[.slice 146028888097 0 1 3 none], [.nils], [.nils], [.slice 274877906990 0 1 3 none]] false)), (373662154806, some (.cells [[.str [], .int .i64 5, .int .i64 0, .str []]] false))]
def h8V : AVal := .tup [.bool false, .int .i64 2]
def h8H : Heap := [(0, some (.cells [[.str [109], .int .i64 0, .int .i64 0, .int .i64 4], [.str [97], .int .i64 0, .int .i64 1, .int .i64 0], [.str [98], .int .i64 2, .int .i64 3, .int .i64 0], [.str [99], .int .i64 1, .int .i64 2, .int .i64 0], [.str [100], .int .i64 0, .int .i64 4, .int .i64 0]] false)), (146028888097, some (.cells [[.int .i64 0, .str [], .nils]] false)), (274877906990, some (.cells [[.int .i64 0, .str [], .nils]] false)), (274877906992, some (.cells [[.slice 146028888097 0 1 3 none], [.nils], [.nils], [.slice 274877906990 0 1 3 none]] false)), (373662154806, some (.cells [[.str [], .int .i64 5, .int .i64 0, .str []]] false))]
theorem h8_run : resB (qRun 300 10 h8A h8K 506806140983) h8K h8V h8H 506806140983 = true := by kernel_rfl
def h8C : CallF := memoCall 10 h8A h8K 506806140983 h8V h8H 506806140983
theorem h8_ok [Syms] : h8C.ok Tryz.prog := memoCall_ok (qRun_ok 300) h8_run
def r8A : List AVal := [.slice 429496729655 0 133 1 none, .nils, .slice 373662154806 0 1 4 (some 1), .bool true]
def r8K : Heap := [(373662154806, some (.cells [[.str [], .int .i64 5, .int .i64 0, .str []]] false)), (429496729655, some (.cells [[.int .u8 83], [.int .u8 72], [.int .u8 82], [.int .u8 49], [.int .u8 102], [.int .u8 0], [.int .u8 0], [.int .u8 0], [.int .u8 0], [.int .u8 2], [.int .u8 0], [.int .u8 2], [.int .u8 0], [.int .u8 2], [.int .u8 0], [.int .u8 0], [.int .u8 0], [.int .u8 0], [.int .u8 0], [.int .u8 26], [.int .u8 5], [.int .u8 0], [.int .u8 0], [.int .u8 4], [.int .u8 1], [.int .u8 109], [.int .u8 0], [.int .u8 1], [.int .u8 0], [.int .u8 1], [.int .u8 97], [.int .u8 2], [.int .u8 3], [.int .u8 0], [.int .u8 1], [.int .u8 98], [.int .u8 1], [.int .u8 2], [.int .u8 0], [.int .u8 1], [.int .u8 99], [.int .u8 0], [.int .u8 4], [.int .u8 0], [.int .u8 1], [.int .u8 100], [.int .u8 1], [.int .u8 1], [.int .u8 1], [.int .u8 0], [.int .u8 0], [.int .u8 0], [.int .u8 0], [.int .u8 0], [.int .u8 0], [.int .u8 1], [.int .u8 1], [.int .u8 1], [.int .u8 0], [.int .u8 0], [.int .u8 0], [.int .u8 1], [.int .u8 141], [.int .u8 239], [.int .u8 2], [.int .u8 210], [.int .u8 0], [.int .u8 0], [.int .u8 0], [.int .u8 0], [.int .u8 0], [.int .u8 0], [.int .u8 0], [.int .u8 1], [.int .u8 1], [.int .u8 1], [.int .u8 0], [.int .u8 2], [.int .u8 2], [.int .u8 0], [.int .u8 21], [.int .u8 117], [.int .u8 123], [.int .u8 185], [.int .u8 0], [.int .u8 0], [.int .u8 0], [.int .u8 0], [.int .u8 0], [.int .u8 0], [.int .u8 0], [.int .u8 1], [.int .u8 1], [.int .u8 1], [.int .u8 0], [.int .u8 0], [.int .u8 2], [.int .u8 0], [.int .u8 125], [.int .u8 112], [.int .u8 239], [.int .u8 115], [.int .u8 0], [.int .u8 0], [.int .u8 0], [.int .u8 0], [.int .u8 0], [.int .u8 0], [.int .u8 0], [.int .u8 1], [.int .u8 1], [.int .u8 1], [.int .u8 0], [.int .u8 0], [.int .u8 0], [.int .u8 4], [.int .u8 28], [.int .u8 223], [.int .u8 68], [.int .u8 33], [.int .u8 0], [.int .u8 25], [.int .u8 9], [.int .u8 3], [.int .u8 120], [.int .u8 102], [.int .u8 0], [.int .u8 0], [.int .u8 0], [.int .u8 83], [.int .u8 72], [.int .u8 82], [.int .u8 49]] false))]
def r8V : AVal := .tup [.nils, .int .i64 0, .int .i64 2]
def r8H : Heap := [(373662154806, some (.cells [[.str [], .int .i64 5, .int .i64 0, .str []]] false)), (429496729655, some (.cells [[.int .u8 83], [.int .u8 72], [.int .u8 82], [.int .u8 49], [.int .u8 102], [.int .u8 0], [.int .u8 0], [.int .u8 0], [.int .u8 0], [.int .u8 2], [.int .u8 0], [.int .u8 2], [.int .u8 0], [.int .u8 2], [.int .u8 0], [.int .u8 0], [.int .u8 0], [.int .u8 0], [.int .u8 0], [.int .u8 26], [.int .u8 5], [.int .u8 0], [.int .u8 0], [.int .u8 4], [.int .u8 1], [.int .u8 109], [.int .u8 0], [.int .u8 1], [.int .u8 0], [.int .u8 1], [.int .u8 97], [.int .u8 2], [.int .u8 3], [.int .u8 0], [.int .u8 1], [.int .u8 98], [.int .u8 1], [.int .u8 2], [.int .u8 0], [.int .u8 1], [.int .u8 99], [.int .u8 0], [.int .u8 4], [.int .u8 0], [.int .u8 1], [.int .u8 100], [.int .u8 1], [.int .u8 1], [.int .u8 1], [.int .u8 0], [.int .u8 0], [.int .u8 0], [.int .u8 0], [.int .u8 0], [.int .u8 0], [.int .u8 1], [.int .u8 1], [.int .u8 1], [.int .u8 0], [.int .u8 0], [.int .u8 0], [.int .u8 1], [.int .u8 141], [.int .u8 239], [.int .u8 2], [.int .u8 210], [.int .u8 0], [.int .u8 0], [.int .u8 0], [.int .u8 0], [.int .u8 0], [.int .u8 0], [.int .u8 0], [.int .u8 1], [.int .u8 1], [.int .u8 1], [.int .u8 0], [.int .u8 2], [.int .u8 2], [.int .u8 0], [.int .u8 21], [.int .u8 117], [.int .u8 123], [.int .u8 185], [.int .u8 0], [.int .u8 0], [.int .u8 0], [.int .u8 0], [.int .u8 0], [.int .u8 0], [.int .u8 0], [.int .u8 1], [.int .u8 1], [.int .u8 1], [.int .u8 0], [.int .u8 0], [.int .u8 2], [.int .u8 0], [.int .u8 125], [.int .u8 112], [.int .u8 239], [.int .u8 115], [.int .u8 0], [.int .u8 0], [.int .u8 0], [.int .u8 0], [.int .u8 0], [.int .u8 0], [.int .u8 0], [.int .u8 1], [.int .u8 1], [.int .u8 1], [.int .u8 0], [.int .u8 0], [.int .u8 0], [.int .u8 4], [.int .u8 28], [.int .u8 223], [.int .u8 68], [.int .u8 33], [.int .u8 0], [.int .u8 25], [.int .u8 9], [.int .u8 3], [.int .u8 120], [.int .u8 102], [.int .u8 0], [.int .u8 0], [.int .u8 0], [.int .u8 83], [.int .u8 72], [.int .u8 82], [.int .u8 49]] false))]
theorem r8_run : resB (qRun 300 11 r8A r8K 506806140983) r8K r8V r8H 2937757631385 = true := by kernel_rfl
def r8C : CallF := memoCall 11 r8A r8K 506806140983 r8V r8H 2937757631385
theorem r8_ok [Syms] : r8C.ok Tryz.prog := memoCall_ok (qRun_ok 300) r8_run
def cR8 (r : Int) : CallF := orCall (conCall 5 (.bool true)) (orCall (symCon 7 0 10 (8 : Nat)) (orCall (symCon 7 1 9 r) (orCall (qBase) (orCall (rwC) (orCall (roC) (orCall (h8C) (r8C)))))))
def xR8 (r : Int) : Option (AVal × Heap × Nat) := fnRunQ (cR8 r) (puMask 1024) (puMask 56542955475833507266105290444041190424528126610383631550720) (fnTab fns) (tyTab tys) 300 3 [.sym 0, .sym 1] [] 0
theorem xR8_0 : isTrue (xR8 (0 : Nat)) = true := by kernel_rfl
theorem xR8_1 : isTrue (xR8 (1 : Nat)) = true := by kernel_rfl
theorem xR8_2 : isTrue (xR8 (2 : Nat)) = true := by kernel_rfl
theorem xR8_3 : isTrue (xR8 (3 : Nat)) = true := by kernel_rfl
theorem xR8_4 : isTrue (xR8 (4 : Nat)) = true := by kernel_rfl
theorem xR8_5 : isTrue (xR8 (5 : Nat)) = true := by kernel_rfl
theorem xR8_6 : isTrue (xR8 (6 : Nat)) = true := by kernel_rfl
theorem xR8_7 : isTrue (xR8 (7 : Nat)) = true := by kernel_rfl
theorem xR8_8 : isTrue (xR8 (8 : Nat)) = true := by kernel_rfl
theorem gR8 [Syms] (r : Nat) (h : r < 9) (c0 : (symCon 7 0 10 ((8 : Nat) : Int)).ok Tryz.prog) (c1 : (symCon 7 1 9 (r : Int)).ok Tryz.prog) : ∃ H' nx', ACalls Tryz.prog 3 [.sym 0, .sym 1] [] 0 (.bool true) H' nx' := by
  have hc : (cR8 r).ok Tryz.prog := orCall_ok (known_ok) (orCall_ok (c0) (orCall_ok (c1) (orCall_ok (qBase_ok) (orCall_ok (rw_ok) (orCall_ok (ro_ok) (orCall_ok (h8_ok) (r8_ok)))))))
  refine acalls_true (fnRunQ_ok (pu := puMask 1024) (gc := puMask 56542955475833507266105290444041190424528126610383631550720) hc tys_ok fns_ok mixed 300) ?_
  rcases (show r = 0 ∨ r = 1 ∨ r = 2 ∨ r = 3 ∨ r = 4 ∨ r = 5 ∨ r = 6 ∨ r = 7 ∨ r = 8 by omega) with rfl | rfl | rfl | rfl | rfl | rfl | rfl | rfl | rfl
  · exact xR8_0
  · exact xR8_1
  · exact xR8_2
  · exact xR8_3
  · exact xR8_4
  · exact xR8_5
  · exact xR8_6
  · exact xR8_7
  · exact xR8_8
end Go.Proofs.YtpbbcakepfojkaaGreat
