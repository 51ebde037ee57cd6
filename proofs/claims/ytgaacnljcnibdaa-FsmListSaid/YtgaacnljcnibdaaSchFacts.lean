/-
  Small facts of rows, for the symbolic runs. Plain.
-/
import Derived.Test.YtgaacnljcnibdaaSchMake
set_option linter.unusedVariables false
set_option linter.unusedSimpArgs false
namespace Go.Proofs.Ytgaacnljcnibdaa
open Go Go.Av
theorem asS_str (s : List UInt8) : asS (.str s) = s := rfl
theorem asB_bool (b : Bool) : asB (.bool b) = b := rfl
theorem encI_00 (a : Int) : (encI a).getD (0 + 0) .any = .int .i64 a := rfl
theorem encF_0 (f : Fd) : (encF f).getD 0 .any = .str f.name := rfl
theorem encF_1 (f : Fd) : (encF f).getD 1 .any = .int .i64 f.rep := rfl
theorem encF_2 (f : Fd) : (encF f).getD 2 .any = .int .i64 f.kind := rfl
theorem encF_00 (f : Fd) : (encF f).getD (0 + 0) .any = .str f.name := rfl
theorem encF_01 (f : Fd) : (encF f).getD (0 + 1) .any = .int .i64 f.rep := rfl
theorem encF_02 (f : Fd) : (encF f).getD (0 + 2) .any = .int .i64 f.kind := rfl
theorem encL_0 (l : Lf) : (encL l).getD 0 .any = .int .i64 l.field := rfl
theorem encL_1 (l : Lf) : (encL l).getD 1 .any = .int .i64 l.r := rfl
theorem encL_2 (l : Lf) : (encL l).getD 2 .any = .int .i64 l.d := rfl
theorem encL_3 (l : Lf) : (encL l).getD 3 .any = .int .i64 l.kind := rfl
theorem encL_00 (l : Lf) : (encL l).getD (0 + 0) .any = .int .i64 l.field := rfl
theorem encL_01 (l : Lf) : (encL l).getD (0 + 1) .any = .int .i64 l.r := rfl
theorem encL_02 (l : Lf) : (encL l).getD (0 + 2) .any = .int .i64 l.d := rfl
theorem encL_03 (l : Lf) : (encL l).getD (0 + 3) .any = .int .i64 l.kind := rfl
theorem encL_len (l : Lf) : (encL l).length = 4 := rfl
theorem encI_len (a : Int) : (encI a).length = 1 := rfl
theorem fin_rows {rows rows' : List (List AVal)} {ro : Bool} {ρ : Nat → Nat} (h : rows = rows') (hf : flatRows rows') : WkB (.cells rows ro) ((Blk.cells rows' ro).ren ρ) := wkB_eq h hf
end Go.Proofs.Ytgaacnljcnibdaa
