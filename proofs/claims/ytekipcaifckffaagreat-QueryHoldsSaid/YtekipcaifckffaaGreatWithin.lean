/-
 The functions 'within' at any number:one of 0 .. n-1. By the kit's walk.
-/
import Derived.Test.YtekipcaifckffaaGreatTab
import Derived.WalkKit
set_option linter.unusedVariables false
set_option linter.unusedSimpArgs false
namespace Go.Proofs.YtekipcaifckffaaGreat
open Go.Av
def wi(a n:Int):Int:=if a.tmod n<0 then a.tmod n+n else a.tmod n
theorem Zr{a n:Int}(hn:0<n):0≤wi a n∧wi a n<n:=by
 unfold wi
 have h1:=Int.tmod_lt_of_pos a hn
 have h2:-n<a.tmod n:=by
  have:=Int.tmod_lt_of_pos (-a) hn
  rw[Int.neg_tmod]at this
  omega
 split<;>omega
theorem UB(a n:Int)(hn:0<n)(hn2:n≤4611686018427387904)(w:World):Calls Tryz.prog 11 #[.int .i64 a,.int .i64 n] w fun e w'=>e= .returned (.int .i64 (wi a n))∧w'=w:=by
 have h1:=Int.tmod_lt_of_pos a hn
 have h2:-n<a.tmod n:=by
  have:=Int.tmod_lt_of_pos (-a) hn
  rw[Int.neg_tmod]at this
  omega
 go_enter Tryz.func11,Tryz.ntmps11
 go_wp2
 all_goals go_ret
 ·rename_i h;exact⟨by rw[wi,if_pos h];rfl,rfl⟩
 ·rename_i h;exact⟨by rw[wi,if_neg (by omega)];rfl,rfl⟩
theorem JV:VY Tryz.prog 11:=⟨_,Tryz.func11,by kernel_rfl,by kernel_rfl⟩
theorem K8(a n:Int)(hn:0<n)(hn2:n≤4611686018427387904)(w:World):Calls Tryz.prog 15 #[.int .i64 a,.int .i64 n] w fun e w'=>e= .returned (.int .i64 (wi a n))∧w'=w:=by
 have h1:=Int.tmod_lt_of_pos a hn
 have h2:-n<a.tmod n:=by
  have:=Int.tmod_lt_of_pos (-a) hn
  rw[Int.neg_tmod]at this
  omega
 go_enter Tryz.func15,Tryz.ntmps15
 go_wp2
 all_goals go_ret
 ·rename_i h;exact⟨by rw[wi,if_pos h];rfl,rfl⟩
 ·rename_i h;exact⟨by rw[wi,if_neg (by omega)];rfl,rfl⟩
theorem Gi:VY Tryz.prog 15:=⟨_,Tryz.func15,by kernel_rfl,by kernel_rfl⟩
theorem K7(a n:Int)(hn:0<n)(hn2:n≤4611686018427387904)(w:World):Calls Tryz.prog 42 #[.int .i64 a,.int .i64 n] w fun e w'=>e= .returned (.int .i64 (wi a n))∧w'=w:=by
 have h1:=Int.tmod_lt_of_pos a hn
 have h2:-n<a.tmod n:=by
  have:=Int.tmod_lt_of_pos (-a) hn
  rw[Int.neg_tmod]at this
  omega
 go_enter Tryz.func42,Tryz.ntmps42
 go_wp2
 all_goals go_ret
 ·rename_i h;exact⟨by rw[wi,if_pos h];rfl,rfl⟩
 ·rename_i h;exact⟨by rw[wi,if_neg (by omega)];rfl,rfl⟩
theorem Gh:VY Tryz.prog 42:=⟨_,Tryz.func42,by kernel_rfl,by kernel_rfl⟩
theorem UC(a n:Int)(hn:0<n)(hn2:n≤4611686018427387904)(w:World):Calls Tryz.prog 43 #[.int .i64 a,.int .i64 n] w fun e w'=>e= .returned (.int .i64 (wi a n))∧w'=w:=by
 have h1:=Int.tmod_lt_of_pos a hn
 have h2:-n<a.tmod n:=by
  have:=Int.tmod_lt_of_pos (-a) hn
  rw[Int.neg_tmod]at this
  omega
 go_enter Tryz.func43,Tryz.ntmps43
 go_wp2
 all_goals go_ret
 ·rename_i h;exact⟨by rw[wi,if_pos h];rfl,rfl⟩
 ·rename_i h;exact⟨by rw[wi,if_neg (by omega)];rfl,rfl⟩
theorem JW:VY Tryz.prog 43:=⟨_,Tryz.func43,by kernel_rfl,by kernel_rfl⟩
end Go.Proofs.YtekipcaifckffaaGreat
