/-
  QueryRefuses, where the first number is 5.
-/
import Derived.Test.YtpbbcakepfojkaaGreatQRef
set_option linter.unusedVariables false
noncomputable section
namespace Go.Proofs.YtpbbcakepfojkaaGreat
open Go.Av
set_option maxRecDepth 1000000
def h5A : List AVal := [.slice 0 0 5 4 (some 5), .agg [.int .i64 0, .str [], .slice 274877906992 0 4 1 none], .slice 347892351030 0 1 4 (some 1)]
def h5K : Heap := [(0, some (.cells [[.str [109], .int .i64 0, .int .i64 0, .int .i64 4], [.str [97], .int .i64 0, .int .i64 1, .int .i64 0], [.str [98], .int .i64 2, .int .i64 3, .int .i64 0], [.str [99], .int .i64 1, .int .i64 2, .int .i64 0], [.str [100], .int .i64 0, .int .i64 4, .int .i64 0]] false)), (146028888097, some (.cells [[.int .i64 0, .str [], .nils]] false)), (274877906990, some (.cells [[.int .i64 0, .str [], .nils]] false)), (274877906992, some (.cells [[.slice 146028888097 0 1 3 none], [.nils], [.nils], [.slice 274877906990 0 1 3 none]] false)), (347892351030, some (.cells [[.str [100], .int .i64 3, .int .i64 1, .str []]] false))]
def h5V : AVal := .tup [.bool false, .int .i64 3]
def h5H : Heap := [(0, some (.cells [[.str [109], .int .i64 0, .int .i64 0, .int .i64 4], [.str [97], .int .i64 0, .int .i64 1, .int .i64 0], [.str [98], .int .i64 2, .int .i64 3, .int .i64 0], [.str [99], .int .i64 1, .int .i64 2, .int .i64 0], [.str [100], .int .i64 0, .int .i64 4, .int .i64 0]] false)), (146028888097, some (.cells [[.int .i64 0, .str [], .nils]] false)), (274877906990, some (.cells [[.int .i64 0, .str [], .nils]] false)), (274877906992, some (.cells [[.slice 146028888097 0 1 3 none], [.nils], [.nils], [.slice 274877906990 0 1 3 none]] false)), (347892351030, some (.cells [[.str [100], .int .i64 3, .int .i64 1, .str []]] false))]
theorem h5_run : resB (qRun 300 10 h5A h5K 506806140983) h5K h5V h5H 506806140983 = true := by kernel_rfl
def h5C : CallF := memoCall 10 h5A h5K 506806140983 h5V h5H 506806140983
theorem h5_ok [Syms] : h5C.ok Tryz.prog := memoCall_ok (qRun_ok 300) h5_run
def r5A : List AVal := [.slice 429496729655 0 133 1 none, .nils, .slice 347892351030 0 1 4 (some 1), .bool true]
def r5K : Heap := [(347892351030, some (.cells [[.str [100], .int .i64 3, .int .i64 1, .str []]] false)), (429496729655, some (.cells [[.int .u8 83], [.int .u8 72], [.int .u8 82], [.int .u8 49], [.int .u8 102], [.int .u8 0], [.int .u8 0], [.int .u8 0], [.int .u8 0], [.int .u8 2], [.int .u8 0], [.int .u8 2], [.int .u8 0], [.int .u8 2], [.int .u8 0], [.int .u8 0], [.int .u8 0], [.int .u8 0], [.int .u8 0], [.int .u8 26], [.int .u8 5], [.int .u8 0], [.int .u8 0], [.int .u8 4], [.int .u8 1], [.int .u8 109], [.int .u8 0], [.int .u8 1], [.int .u8 0], [.int .u8 1], [.int .u8 97], [.int .u8 2], [.int .u8 3], [.int .u8 0], [.int .u8 1], [.int .u8 98], [.int .u8 1], [.int .u8 2], [.int .u8 0], [.int .u8 1], [.int .u8 99], [.int .u8 0], [.int .u8 4], [.int .u8 0], [.int .u8 1], [.int .u8 100], [.int .u8 1], [.int .u8 1], [.int .u8 1], [.int .u8 0], [.int .u8 0], [.int .u8 0], [.int .u8 0], [.int .u8 0], [.int .u8 0], [.int .u8 1], [.int .u8 1], [.int .u8 1], [.int .u8 0], [.int .u8 0], [.int .u8 0], [.int .u8 1], [.int .u8 141], [.int .u8 239], [.int .u8 2], [.int .u8 210], [.int .u8 0], [.int .u8 0], [.int .u8 0], [.int .u8 0], [.int .u8 0], [.int .u8 0], [.int .u8 0], [.int .u8 1], [.int .u8 1], [.int .u8 1], [.int .u8 0], [.int .u8 2], [.int .u8 2], [.int .u8 0], [.int .u8 21], [.int .u8 117], [.int .u8 123], [.int .u8 185], [.int .u8 0], [.int .u8 0], [.int .u8 0], [.int .u8 0], [.int .u8 0], [.int .u8 0], [.int .u8 0], [.int .u8 1], [.int .u8 1], [.int .u8 1], [.int .u8 0], [.int .u8 0], [.int .u8 2], [.int .u8 0], [.int .u8 125], [.int .u8 112], [.int .u8 239], [.int .u8 115], [.int .u8 0], [.int .u8 0], [.int .u8 0], [.int .u8 0], [.int .u8 0], [.int .u8 0], [.int .u8 0], [.int .u8 1], [.int .u8 1], [.int .u8 1], [.int .u8 0], [.int .u8 0], [.int .u8 0], [.int .u8 4], [.int .u8 28], [.int .u8 223], [.int .u8 68], [.int .u8 33], [.int .u8 0], [.int .u8 25], [.int .u8 9], [.int .u8 3], [.int .u8 120], [.int .u8 102], [.int .u8 0], [.int .u8 0], [.int .u8 0], [.int .u8 83], [.int .u8 72], [.int .u8 82], [.int .u8 49]] false))]
def r5V : AVal := .tup [.nils, .int .i64 0, .int .i64 3]
def r5H : Heap := [(347892351030, some (.cells [[.str [100], .int .i64 3, .int .i64 1, .str []]] false)), (429496729655, some (.cells [[.int .u8 83], [.int .u8 72], [.int .u8 82], [.int .u8 49], [.int .u8 102], [.int .u8 0], [.int .u8 0], [.int .u8 0], [.int .u8 0], [.int .u8 2], [.int .u8 0], [.int .u8 2], [.int .u8 0], [.int .u8 2], [.int .u8 0], [.int .u8 0], [.int .u8 0], [.int .u8 0], [.int .u8 0], [.int .u8 26], [.int .u8 5], [.int .u8 0], [.int .u8 0], [.int .u8 4], [.int .u8 1], [.int .u8 109], [.int .u8 0], [.int .u8 1], [.int .u8 0], [.int .u8 1], [.int .u8 97], [.int .u8 2], [.int .u8 3], [.int .u8 0], [.int .u8 1], [.int .u8 98], [.int .u8 1], [.int .u8 2], [.int .u8 0], [.int .u8 1], [.int .u8 99], [.int .u8 0], [.int .u8 4], [.int .u8 0], [.int .u8 1], [.int .u8 100], [.int .u8 1], [.int .u8 1], [.int .u8 1], [.int .u8 0], [.int .u8 0], [.int .u8 0], [.int .u8 0], [.int .u8 0], [.int .u8 0], [.int .u8 1], [.int .u8 1], [.int .u8 1], [.int .u8 0], [.int .u8 0], [.int .u8 0], [.int .u8 1], [.int .u8 141], [.int .u8 239], [.int .u8 2], [.int .u8 210], [.int .u8 0], [.int .u8 0], [.int .u8 0], [.int .u8 0], [.int .u8 0], [.int .u8 0], [.int .u8 0], [.int .u8 1], [.int .u8 1], [.int .u8 1], [.int .u8 0], [.int .u8 2], [.int .u8 2], [.int .u8 0], [.int .u8 21], [.int .u8 117], [.int .u8 123], [.int .u8 185], [.int .u8 0], [.int .u8 0], [.int .u8 0], [.int .u8 0], [.int .u8 0], [.int .u8 0], [.int .u8 0], [.int .u8 1], [.int .u8 1], [.int .u8 1], [.int .u8 0], [.int .u8 0], [.int .u8 2], [.int .u8 0], [.int .u8 125], [.int .u8 112], [.int .u8 239], [.int .u8 115], [.int .u8 0], [.int .u8 0], [.int .u8 0], [.int .u8 0], [.int .u8 0], [.int .u8 0], [.int .u8 0], [.int .u8 1], [.int .u8 1], [.int .u8 1], [.int .u8 0], [.int .u8 0], [.int .u8 0], [.int .u8 4], [.int .u8 28], [.int .u8 223], [.int .u8 68], [.int .u8 33], [.int .u8 0], [.int .u8 25], [.int .u8 9], [.int .u8 3], [.int .u8 120], [.int .u8 102], [.int .u8 0], [.int .u8 0], [.int .u8 0], [.int .u8 83], [.int .u8 72], [.int .u8 82], [.int .u8 49]] false))]
theorem r5_run : resB (qRun 300 11 r5A r5K 506806140983) r5K r5V r5H 3075196584862 = true := by kernel_rfl
def r5C : CallF := memoCall 11 r5A r5K 506806140983 r5V r5H 3075196584862
theorem r5_ok [Syms] : r5C.ok Tryz.prog := memoCall_ok (qRun_ok 300) r5_run
def cR5 (r : Int) : CallF := orCall (conCall 5 (.bool true)) (orCall (symCon 7 0 10 (5 : Nat)) (orCall (symCon 7 1 9 r) (orCall (qBase) (orCall (rwC) (orCall (roC) (orCall (h5C) (r5C)))))))
def xR5 (r : Int) : Option (AVal × Heap × Nat) := fnRunQ (cR5 r) (puMask 1024) (puMask 56542955475833507266105290444041190424528126610383631550720) (fnTab fns) (tyTab tys) 300 3 [.sym 0, .sym 1] [] 0
theorem xR5_0 : isTrue (xR5 (0 : Nat)) = true := by kernel_rfl
theorem xR5_1 : isTrue (xR5 (1 : Nat)) = true := by kernel_rfl
theorem xR5_2 : isTrue (xR5 (2 : Nat)) = true := by kernel_rfl
theorem xR5_3 : isTrue (xR5 (3 : Nat)) = true := by kernel_rfl
theorem xR5_4 : isTrue (xR5 (4 : Nat)) = true := by kernel_rfl
theorem xR5_5 : isTrue (xR5 (5 : Nat)) = true := by kernel_rfl
theorem xR5_6 : isTrue (xR5 (6 : Nat)) = true := by kernel_rfl
theorem xR5_7 : isTrue (xR5 (7 : Nat)) = true := by kernel_rfl
theorem xR5_8 : isTrue (xR5 (8 : Nat)) = true := by kernel_rfl
theorem gR5 [Syms] (r : Nat) (h : r < 9) (c0 : (symCon 7 0 10 ((5 : Nat) : Int)).ok Tryz.prog) (c1 : (symCon 7 1 9 (r : Int)).ok Tryz.prog) : ∃ H' nx', ACalls Tryz.prog 3 [.sym 0, .sym 1] [] 0 (.bool true) H' nx' := by
  have hc : (cR5 r).ok Tryz.prog := orCall_ok (known_ok) (orCall_ok (c0) (orCall_ok (c1) (orCall_ok (qBase_ok) (orCall_ok (rw_ok) (orCall_ok (ro_ok) (orCall_ok (h5_ok) (r5_ok)))))))
  refine acalls_true (fnRunQ_ok (pu := puMask 1024) (gc := puMask 56542955475833507266105290444041190424528126610383631550720) hc tys_ok fns_ok mixed 300) ?_
  rcases (show r = 0 ∨ r = 1 ∨ r = 2 ∨ r = 3 ∨ r = 4 ∨ r = 5 ∨ r = 6 ∨ r = 7 ∨ r = 8 by omega) with rfl | rfl | rfl | rfl | rfl | rfl | rfl | rfl | rfl
  · exact xR5_0
  · exact xR5_1
  · exact xR5_2
  · exact xR5_3
  · exact xR5_4
  · exact xR5_5
  · exact xR5_6
  · exact xR5_7
  · exact xR5_8
end Go.Proofs.YtpbbcakepfojkaaGreat
