/-
 The functions 'within' at any number:one of 0 .. n-1. By the kit's walk.
-/
import Derived.Test.YtcpikannlnmafaaTab
import Derived.WalkKit
set_option linter.unusedVariables false
set_option linter.unusedSimpArgs false
namespace Go.Proofs.Ytcpikannlnmafaa
open Go.Av
def wi(a n:Int):Int:=if a.tmod n<0 then a.tmod n+n else a.tmod n
theorem ZA{a n:Int}(hn:0<n):0≤wi a n∧wi a n<n:=by
 unfold wi
 have h1:=Int.tmod_lt_of_pos a hn
 have h2:-n<a.tmod n:=by
  have:=Int.tmod_lt_of_pos (-a) hn
  rw[Int.neg_tmod]at this
  omega
 split<;>omega
theorem Kl(a n:Int)(hn:0<n)(hn2:n≤4611686018427387904)(w:World):Calls Try.prog 11 #[.int .i64 a,.int .i64 n] w fun e w'=>e= .returned (.int .i64 (wi a n))∧w'=w:=by
 have h1:=Int.tmod_lt_of_pos a hn
 have h2:-n<a.tmod n:=by
  have:=Int.tmod_lt_of_pos (-a) hn
  rw[Int.neg_tmod]at this
  omega
 go_enter Try.func11,Try.ntmps11
 go_wp2
 all_goals go_ret
 ·rename_i h;exact⟨by rw[wi,if_pos h];rfl,rfl⟩
 ·rename_i h;exact⟨by rw[wi,if_neg (by omega)];rfl,rfl⟩
theorem GQ:UI Try.prog 11:=⟨_,Try.func11,by kernel_rfl,by kernel_rfl⟩
theorem Kk(a n:Int)(hn:0<n)(hn2:n≤4611686018427387904)(w:World):Calls Try.prog 57 #[.int .i64 a,.int .i64 n] w fun e w'=>e= .returned (.int .i64 (wi a n))∧w'=w:=by
 have h1:=Int.tmod_lt_of_pos a hn
 have h2:-n<a.tmod n:=by
  have:=Int.tmod_lt_of_pos (-a) hn
  rw[Int.neg_tmod]at this
  omega
 go_enter Try.func57,Try.ntmps57
 go_wp2
 all_goals go_ret
 ·rename_i h;exact⟨by rw[wi,if_pos h];rfl,rfl⟩
 ·rename_i h;exact⟨by rw[wi,if_neg (by omega)];rfl,rfl⟩
theorem GP:UI Try.prog 57:=⟨_,Try.func57,by kernel_rfl,by kernel_rfl⟩
end Go.Proofs.Ytcpikannlnmafaa
