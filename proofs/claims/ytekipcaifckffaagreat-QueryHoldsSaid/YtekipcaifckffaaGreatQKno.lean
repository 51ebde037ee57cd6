/-
 The chapter's example is so.
-/
import Derived.Test.YtekipcaifckffaaGreatQKna
set_option linter.unusedVariables false
set_option linter.unusedSimpArgs false
noncomputable section
namespace Go.Proofs.YtekipcaifckffaaGreat
open Go.Av
set_option maxRecDepth 1000000
def qKn:CallF:=V9 Q02 (V9 kwC (V9 koC kgC))
theorem P9[Syms]:qKn.ok Tryz.prog:=WR B5 (WR S3 (WR S5 S6))
theorem HE:CD (UR qKn (FV 2048) (FV 3496791343898865935435950111470453162092881663076611098658803904) (QK fns) (QH tys) 300 5 [] [] 0)=true:=by kernel_rfl
end Go.Proofs.YtekipcaifckffaaGreat