/-
 The chapter's example is so.
-/
import Derived.Test.YtekipcaifckffaaGreatQKna
set_option linter.unusedVariables false
set_option linter.unusedSimpArgs false
noncomputable section
namespace Go.Proofs.YtekipcaifckffaaGreat
open Go.Av
set_option maxRecDepth 1000000
def qKn:CallF:=WQ H6 (WQ kwC (WQ koC kgC))
theorem LN[Syms]:qKn.ok Tryz.prog:=Ww Db (Ww On (Ww Oo Oq))
theorem Ee:Bx (Uh qKn (MX 2048) (MX 3496791343898865935435950111470453162092881663076611098658803904) (QW fns) (QP tys) 300 5 [] [] 0)=true:=by kernel_rfl
end Go.Proofs.YtekipcaifckffaaGreat