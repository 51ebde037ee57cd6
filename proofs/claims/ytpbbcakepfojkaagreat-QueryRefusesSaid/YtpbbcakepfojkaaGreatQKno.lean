/-
  The chapter's example is so.
-/
import Derived.Test.YtpbbcakepfojkaaGreatQKna
set_option linter.unusedVariables false
noncomputable section
namespace Go.Proofs.YtpbbcakepfojkaaGreat
open Go.Av
set_option maxRecDepth 1000000
def qKn : CallF := orCall qBase (orCall kwC (orCall koC kgC))
theorem qKn_ok [Syms] : qKn.ok Tryz.prog := orCall_ok qBase_ok (orCall_ok kw_ok (orCall_ok ko_ok kg_ok))
theorem known_run : isTrue (fnRunQ qKn (puMask 1024) (puMask 56542955475833507266105290444041190424528126610383631550720) (fnTab fns) (tyTab tys) 300 5 [] [] 0) = true := by kernel_rfl
theorem known_ok [Syms] : (conCall 5 (.bool true)).ok Tryz.prog := by
  obtain ⟨H', nx', hc⟩ := acalls_true (fnRunQ_ok qKn_ok tys_ok fns_ok mixed 300) (args := []) known_run
  exact conCall_ok (fns_ok.fnOk (f := 5) rfl) hc rfl
end Go.Proofs.YtpbbcakepfojkaaGreat
