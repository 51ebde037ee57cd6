/-
  The statements' arguments:numbers,conditions.
-/
import Derived.Test.YtekipcaifckffaaGreatSxOne
import Derived.Test.YtekipcaifckffaaGreatL17
set_option linter.unusedVariables false
set_option linter.unusedSimpArgs false
namespace Go.Proofs.YtekipcaifckffaaGreat
open Go Go.Av
abbrev kI:Shp:=.slice (.int .i64)
abbrev kR:Shp:=.slice (.struct (.pair (.int .i64) (.pair (.int .i64) (.pair (.struct (.pair (.int .i64) (.pair .str .unit))) .unit))))
theorem Sq[Syms]{ι:Inj}{x:AVal}{v:Value}(h:kI.ok [x])(hr:RelV ι x v):∃l:List Int,RelV ι (vI l) v∧l.length≤9223372036854775807∧ ∀a∈l,I64 a:=
 Shp.slice_of (enc:=encI) (G:=I64) 0 (fun r h=>by obtain⟨z,rfl,hz⟩:=h;exact⟨z,rfl,OX hz⟩) h hr
theorem Rq[Syms]{ι:Inj}{x:AVal}{v:Value}(h:kR.ok [x])(hr:RelV ι x v):∃l:List Rc,RelV ι (vRc l) v∧l.length≤9223372036854775807∧ ∀a∈l,a.v.s.length≤9223372036854775807:=
 Shp.slice_of (enc:=Sf) (G:=fun a=>a.v.s.length≤9223372036854775807) default (fun r h=>by
  obtain⟨_,_,rfl,⟨z1,rfl,h1⟩,_,_,rfl,⟨z2,rfl,h2⟩,_,_,rfl,⟨_,_,rfl,⟨z3,rfl,h3⟩,_,_,rfl,⟨s,rfl,hs⟩,rfl⟩,rfl⟩:=h
  exact⟨⟨z1,z2,⟨z3,s⟩⟩,rfl,hs⟩) h hr
abbrev kQ:Shp:=.slice (.struct (.pair .str (.pair (.int .i64) (.pair (.struct (.pair (.int .i64) (.pair .str .unit))) .unit))))
theorem So[Syms]{ι:Inj}{x:AVal}{v:Value}(h:kQ.ok [x])(hr:RelV ι x v):∃l:List Cd,RelV ι (vC l) v∧l.length≤9223372036854775807∧ ∀a∈l,a.v.s.length≤9223372036854775807:=
 Shp.slice_of (enc:=encC) (G:=fun a=>a.v.s.length≤9223372036854775807) default (fun r h=>by
  obtain⟨_,_,rfl,⟨p,rfl,h1⟩,_,_,rfl,⟨z2,rfl,h2⟩,_,_,rfl,⟨_,_,rfl,⟨z3,rfl,h3⟩,_,_,rfl,⟨s,rfl,hs⟩,rfl⟩,rfl⟩:=h
  exact⟨⟨p,z2,⟨z3,s⟩⟩,rfl,hs⟩) h hr
end Go.Proofs.YtekipcaifckffaaGreat
