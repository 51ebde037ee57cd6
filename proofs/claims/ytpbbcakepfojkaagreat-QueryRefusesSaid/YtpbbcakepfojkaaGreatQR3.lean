/-
  QueryRefuses, where the first number is 3.
-/
import Derived.Test.YtpbbcakepfojkaaGreatQRef
set_option linter.unusedVariables false
noncomputable section
namespace Go.Proofs.YtpbbcakepfojkaaGreat
open Go.Av
set_option maxRecDepth 1000000
def h3A : List AVal := [.slice 0 0 5 4 (some 5), .agg [.int .i64 0, .str [], .slice 274877906992 0 4 1 none], .slice 322122547254 0 1 4 (some 1)]
def h3K : Heap := [(0, some (.cells [[.str [109], .int .i64 0, .int .i64 0, .int .i64 4], [.str [97], .int .i64 0, .int .i64 1, .int .i64 0], [.str [98], .int .i64 2, .int .i64 3, .int .i64 0], [.str [99], .int .i64 1, .int .i64 2, .int .i64 0], [.str [100], .int .i64 0, .int .i64 4, .int .i64 0]] false)), (146028888097, some (.cells [[.int .i64 0, .str [], .nils]] false)), (274877906990, some (.cells [[.int .i64 0, .str [], .nils]] false)), (274877906992, some (.cells [[.slice 146028888097 0 1 3 none], [.nils], [.nils], [.slice 274877906990 0 1 3 none]] false)), (322122547254, some (.cells [[.str [97], .int .i64 2, .int .i64 2, .str []]] false))]
def h3V : AVal := .tup [.bool false, .int .i64 3]
def h3H : Heap := [(0, some (.cells [[.str [109], .int .i64 0, .int .i64 0, .int .i64 4], [.str [97], .int .i64 0, .int .i64 1, .int .i64 0], [.str [98], .int .i64 2, .int .i64 3, .int .i64 0], [.str [99], .int .i64 1, .int .i64 2, .int .i64 0], [.str [100], .int .i64 0, .int .i64 4, .int .i64 0]] false)), (146028888097, some (.cells [[.int .i64 0, .str [], .nils]] false)), (274877906990, some (.cells [[.int .i64 0, .str [], .nils]] false)), (274877906992, some (.cells [[.slice 146028888097 0 1 3 none], [.nils], [.nils], [.slice 274877906990 0 1 3 none]] false)), (322122547254, some (.cells [[.str [97], .int .i64 2, .int .i64 2, .str []]] false))]
theorem h3_run : resB (qRun 300 10 h3A h3K 506806140983) h3K h3V h3H 506806140983 = true := by kernel_rfl
def h3C : CallF := memoCall 10 h3A h3K 506806140983 h3V h3H 506806140983
theorem h3_ok [Syms] : h3C.ok Tryz.prog := memoCall_ok (qRun_ok 300) h3_run
def r3A : List AVal := [.slice 429496729655 0 133 1 none, .nils, .slice 322122547254 0 1 4 (some 1), .bool true]
def r3K : Heap := [(322122547254, some (.cells [[.str [97], .int .i64 2, .int .i64 2, .str []]] false)), (429496729655, some (.cells [[.int .u8 83], [.int .u8 72], [.int .u8 82], [.int .u8 49], [.int .u8 102], [.int .u8 0], [.int .u8 0], [.int .u8 0], [.int .u8 0], [.int .u8 2], [.int .u8 0], [.int .u8 2], [.int .u8 0], [.int .u8 2], [.int .u8 0], [.int .u8 0], [.int .u8 0], [.int .u8 0], [.int .u8 0], [.int .u8 26], [.int .u8 5], [.int .u8 0], [.int .u8 0], [.int .u8 4], [.int .u8 1], [.int .u8 109], [.int .u8 0], [.int .u8 1], [.int .u8 0], [.int .u8 1], [.int .u8 97], [.int .u8 2], [.int .u8 3], [.int .u8 0], [.int .u8 1], [.int .u8 98], [.int .u8 1], [.int .u8 2], [.int .u8 0], [.int .u8 1], [.int .u8 99], [.int .u8 0], [.int .u8 4], [.int .u8 0], [.int .u8 1], [.int .u8 100], [.int .u8 1], [.int .u8 1], [.int .u8 1], [.int .u8 0], [.int .u8 0], [.int .u8 0], [.int .u8 0], [.int .u8 0], [.int .u8 0], [.int .u8 1], [.int .u8 1], [.int .u8 1], [.int .u8 0], [.int .u8 0], [.int .u8 0], [.int .u8 1], [.int .u8 141], [.int .u8 239], [.int .u8 2], [.int .u8 210], [.int .u8 0], [.int .u8 0], [.int .u8 0], [.int .u8 0], [.int .u8 0], [.int .u8 0], [.int .u8 0], [.int .u8 1], [.int .u8 1], [.int .u8 1], [.int .u8 0], [.int .u8 2], [.int .u8 2], [.int .u8 0], [.int .u8 21], [.int .u8 117], [.int .u8 123], [.int .u8 185], [.int .u8 0], [.int .u8 0], [.int .u8 0], [.int .u8 0], [.int .u8 0], [.int .u8 0], [.int .u8 0], [.int .u8 1], [.int .u8 1], [.int .u8 1], [.int .u8 0], [.int .u8 0], [.int .u8 2], [.int .u8 0], [.int .u8 125], [.int .u8 112], [.int .u8 239], [.int .u8 115], [.int .u8 0], [.int .u8 0], [.int .u8 0], [.int .u8 0], [.int .u8 0], [.int .u8 0], [.int .u8 0], [.int .u8 1], [.int .u8 1], [.int .u8 1], [.int .u8 0], [.int .u8 0], [.int .u8 0], [.int .u8 4], [.int .u8 28], [.int .u8 223], [.int .u8 68], [.int .u8 33], [.int .u8 0], [.int .u8 25], [.int .u8 9], [.int .u8 3], [.int .u8 120], [.int .u8 102], [.int .u8 0], [.int .u8 0], [.int .u8 0], [.int .u8 83], [.int .u8 72], [.int .u8 82], [.int .u8 49]] false))]
def r3V : AVal := .tup [.nils, .int .i64 0, .int .i64 3]
def r3H : Heap := [(322122547254, some (.cells [[.str [97], .int .i64 2, .int .i64 2, .str []]] false)), (429496729655, some (.cells [[.int .u8 83], [.int .u8 72], [.int .u8 82], [.int .u8 49], [.int .u8 102], [.int .u8 0], [.int .u8 0], [.int .u8 0], [.int .u8 0], [.int .u8 2], [.int .u8 0], [.int .u8 2], [.int .u8 0], [.int .u8 2], [.int .u8 0], [.int .u8 0], [.int .u8 0], [.int .u8 0], [.int .u8 0], [.int .u8 26], [.int .u8 5], [.int .u8 0], [.int .u8 0], [.int .u8 4], [.int .u8 1], [.int .u8 109], [.int .u8 0], [.int .u8 1], [.int .u8 0], [.int .u8 1], [.int .u8 97], [.int .u8 2], [.int .u8 3], [.int .u8 0], [.int .u8 1], [.int .u8 98], [.int .u8 1], [.int .u8 2], [.int .u8 0], [.int .u8 1], [.int .u8 99], [.int .u8 0], [.int .u8 4], [.int .u8 0], [.int .u8 1], [.int .u8 100], [.int .u8 1], [.int .u8 1], [.int .u8 1], [.int .u8 0], [.int .u8 0], [.int .u8 0], [.int .u8 0], [.int .u8 0], [.int .u8 0], [.int .u8 1], [.int .u8 1], [.int .u8 1], [.int .u8 0], [.int .u8 0], [.int .u8 0], [.int .u8 1], [.int .u8 141], [.int .u8 239], [.int .u8 2], [.int .u8 210], [.int .u8 0], [.int .u8 0], [.int .u8 0], [.int .u8 0], [.int .u8 0], [.int .u8 0], [.int .u8 0], [.int .u8 1], [.int .u8 1], [.int .u8 1], [.int .u8 0], [.int .u8 2], [.int .u8 2], [.int .u8 0], [.int .u8 21], [.int .u8 117], [.int .u8 123], [.int .u8 185], [.int .u8 0], [.int .u8 0], [.int .u8 0], [.int .u8 0], [.int .u8 0], [.int .u8 0], [.int .u8 0], [.int .u8 1], [.int .u8 1], [.int .u8 1], [.int .u8 0], [.int .u8 0], [.int .u8 2], [.int .u8 0], [.int .u8 125], [.int .u8 112], [.int .u8 239], [.int .u8 115], [.int .u8 0], [.int .u8 0], [.int .u8 0], [.int .u8 0], [.int .u8 0], [.int .u8 0], [.int .u8 0], [.int .u8 1], [.int .u8 1], [.int .u8 1], [.int .u8 0], [.int .u8 0], [.int .u8 0], [.int .u8 4], [.int .u8 28], [.int .u8 223], [.int .u8 68], [.int .u8 33], [.int .u8 0], [.int .u8 25], [.int .u8 9], [.int .u8 3], [.int .u8 120], [.int .u8 102], [.int .u8 0], [.int .u8 0], [.int .u8 0], [.int .u8 83], [.int .u8 72], [.int .u8 82], [.int .u8 49]] false))]
theorem r3_run : resB (qRun 300 11 r3A r3K 506806140983) r3K r3V r3H 2985002271643 = true := by kernel_rfl
def r3C : CallF := memoCall 11 r3A r3K 506806140983 r3V r3H 2985002271643
theorem r3_ok [Syms] : r3C.ok Tryz.prog := memoCall_ok (qRun_ok 300) r3_run
def cR3 (r : Int) : CallF := orCall (conCall 5 (.bool true)) (orCall (symCon 7 0 10 (3 : Nat)) (orCall (symCon 7 1 9 r) (orCall (qBase) (orCall (rwC) (orCall (roC) (orCall (h3C) (r3C)))))))
def xR3 (r : Int) : Option (AVal × Heap × Nat) := fnRunQ (cR3 r) (puMask 1024) (puMask 56542955475833507266105290444041190424528126610383631550720) (fnTab fns) (tyTab tys) 300 3 [.sym 0, .sym 1] [] 0
theorem xR3_0 : isTrue (xR3 (0 : Nat)) = true := by kernel_rfl
theorem xR3_1 : isTrue (xR3 (1 : Nat)) = true := by kernel_rfl
theorem xR3_2 : isTrue (xR3 (2 : Nat)) = true := by kernel_rfl
theorem xR3_3 : isTrue (xR3 (3 : Nat)) = true := by kernel_rfl
theorem xR3_4 : isTrue (xR3 (4 : Nat)) = true := by kernel_rfl
theorem xR3_5 : isTrue (xR3 (5 : Nat)) = true := by kernel_rfl
theorem xR3_6 : isTrue (xR3 (6 : Nat)) = true := by kernel_rfl
theorem xR3_7 : isTrue (xR3 (7 : Nat)) = true := by kernel_rfl
theorem xR3_8 : isTrue (xR3 (8 : Nat)) = true := by kernel_rfl
theorem gR3 [Syms] (r : Nat) (h : r < 9) (c0 : (symCon 7 0 10 ((3 : Nat) : Int)).ok Tryz.prog) (c1 : (symCon 7 1 9 (r : Int)).ok Tryz.prog) : ∃ H' nx', ACalls Tryz.prog 3 [.sym 0, .sym 1] [] 0 (.bool true) H' nx' := by
  have hc : (cR3 r).ok Tryz.prog := orCall_ok (known_ok) (orCall_ok (c0) (orCall_ok (c1) (orCall_ok (qBase_ok) (orCall_ok (rw_ok) (orCall_ok (ro_ok) (orCall_ok (h3_ok) (r3_ok)))))))
  refine acalls_true (fnRunQ_ok (pu := puMask 1024) (gc := puMask 56542955475833507266105290444041190424528126610383631550720) hc tys_ok fns_ok mixed 300) ?_
  rcases (show r = 0 ∨ r = 1 ∨ r = 2 ∨ r = 3 ∨ r = 4 ∨ r = 5 ∨ r = 6 ∨ r = 7 ∨ r = 8 by omega) with rfl | rfl | rfl | rfl | rfl | rfl | rfl | rfl | rfl
  · exact xR3_0
  · exact xR3_1
  · exact xR3_2
  · exact xR3_3
  · exact xR3_4
  · exact xR3_5
  · exact xR3_6
  · exact xR3_7
  · exact xR3_8
end Go.Proofs.YtpbbcakepfojkaaGreat
