/-
  The maker of records:its next raw number;'within' of chapter 8.
-/
import Derived.Test.YtcpikannlnmafaaL7
import Derived.Test.YtcpikannlnmafaaL4
set_option linter.unusedVariables false
set_option linter.unusedSimpArgs false
namespace Go.Proofs.Ytcpikannlnmafaa
open Go Go.Av
section
set_option maxRecDepth 100000
set_option maxHeartbeats 4000000
abbrev PY(fs:List Fd)(ps ns:List Int)(a:Nat):List AVal:=[vF fs,vI ps,vI ns,.int .i64 (a:Nat)]
abbrev Zu(fs:List Fd)(ps ns:List Int)(a:Nat):Option Blk:=some (.cells [PY fs ps ns a] false)
def L9(Post:AVal→Heap→Nat→Prop):AVal→Heap→Nat→Prop:=fun v H nx=>∃K:Heap,K.sub H∧Post v K nx
theorem YZ.forget[Syms]{P:Program}{f:FuncId}{args:List AVal}{H:Heap}{nx:Nat}{Post:AVal→Heap→Nat→Prop}(h:YZ P f args H nx (L9 Post)):YZ P f args H nx Post:=by
 refine⟨h.1,fun ι w vs hv hH hb=>(h.2 ι w vs hv hH hb).mono ?_⟩
 rintro e w' ⟨v,H',nx',r,κ,⟨K,hs,hp⟩,h2,h3,h4,h5,h6,h7⟩
 exact⟨v,K,nx',r,κ,hp,h2,h3,h4.sub hs,⟨h5.keep,h5.fzle,h5.os,h5.tape,h5.output,h5.size,h5.same,fun g hg=>h5.own g (hg.sub hs),h5.fzs,h5.fresh⟩,h6,h7⟩
theorem Du{ρ:Nat→Nat}{row row':List AVal}(h:Jd row' row)(hf:∀x∈row,x.flat=true):WkB (.cells [row'] false) ((Blk.cells [row] false).ren ρ):=by
 rw[Um ρ (Xs hf QG)]
 refine .each _ _ _ rfl fun k r r' h1 h2=>?_
 cases k with
 |zero=>
  cases h1;cases h2
  exact⟨h.at.1.symm,h.at.2⟩
 |succ k=>simp at h1
theorem Hd{b:Option Blk}{l:Heap}:Heap.sub [(0,b)] ((0,b)::l):=fun n c h=>by
 rw[Heap.get_cons]at h ⊢
 by_cases hz:n=0
 ·subst hz;exact h
 ·rw[Qd hz]at h;rw[show(bif false then b else Heap.get [] n)=none from Heap.get_nil n]at h;cases h
theorem Zg{ρ:Nat→Nat}{row row':List AVal}(h:Jd row' (AVal.renL ρ row)):WkB (.cells [row'] false) ((Blk.cells [row] false).ren ρ):=by
 simp only[Blk.ren,List.map_cons,List.map_nil]
 refine .each _ _ _ rfl fun k r r' h1 h2=>?_
 cases k with
 |zero=>
  cases h1;cases h2
  exact⟨h.at.1.symm,h.at.2⟩
 |succ k=>simp at h1
theorem PN{x:Int}(h:-9223372036854775808≤x∧x≤9223372036854775807):wr .i64 x=x:=if_pos h
noncomputable def Rd:Nat→Nat→Pl:=Kz [(56,3)] (ZS plt)
theorem O2[Syms]{Post:AVal→Heap→Nat→Prop}(fs:List Fd)(ps ns:List Int)(a:Nat)(hn:ns.length≤9223372036854775807)(ha:a≤ns.length)(hP:Post (.int .i64 (Z9 ns a).1) [(0,Zu fs ps ns (Z9 ns a).2)] 1):
 fnT Qz Qz (Zc fns) (Z5 tys) Rd 100 56 [.ptr 0 0 0] [(0,Zu fs ps ns a)] 1 Post:=by
 unfold Z9 at hP
 by_cases h:a<ns.length
 ·rw[if_pos h]at hP
  repeat' first|refine And.intro ?_ ?_|(intro h;try first|exact dz|replace h:=cv)
  all_goals try exact cz
  refine⟨⟨[(0,.ptr 0 0 0)],[(0,Zu fs ps ns (a+1))],1⟩,Q1 [0] (by exact rfl) ⟨.refl _,trivial⟩ ⟨⟨by decide,_,rfl,Zg (row:=PY fs ps ns (a+1)) ⟨.refl _,.refl _,.refl _,Q3 (k:=.i64) (show wr .i64 ((a:Int)+1)=((a+1:Nat):Int) from(PN (by omega)).trans (Int.natCast_succ a).symm),trivial⟩⟩,trivial⟩,?_⟩
  repeat' first|refine And.intro ?_ ?_|(intro h;try first|exact dz|replace h:=cv)
  all_goals try exact cz
  exact⟨⟨[(2,.int .i64 (ns.getD a 0))],[(0,Zu fs ps ns (a+1))],1⟩,Q1 [0] (by exact rfl) ⟨Q3 (by show ns.getD (((a+1:Nat):Int)-1).toNat 0=ns.getD a 0;rw[show(((a+1:Nat):Int)-1).toNat=a by omega]),trivial⟩ ⟨⟨by decide,_,rfl,.refl _⟩,trivial⟩,_,rfl,hP⟩
 ·rw[if_neg h]at hP
  repeat' first|refine And.intro ?_ ?_|(intro h;try first|exact dz|replace h:=cv)
  all_goals try exact cz
  exact⟨⟨[(2,.int .i64 0)],[(0,Zu fs ps ns a)],1⟩,Q1 [0] (by exact rfl) ⟨.refl _,trivial⟩ ⟨⟨by decide,_,rfl,.refl _⟩,trivial⟩,_,rfl,hP⟩
def I0:SpecT:=fun args H nx Post=>∃fs ps ns a,args=[.ptr 0 0 0]∧H=[(0,Zu fs ps ns a)]∧nx=1∧ns.length≤9223372036854775807∧a≤ns.length∧Post (.int .i64 (Z9 ns a).1) [(0,Zu fs ps ns (Z9 ns a).2)] 1
theorem LC[Syms]:I0.ok Try.prog 56:=by
 rintro args H nx Post ⟨fs,ps,ns,a,rfl,rfl,rfl,hn,ha,h⟩
 exact QS QN QO Qn Qy Za (O2 fs ps ns a hn ha h)
def G_within8:List AVal→(AVal→Prop)→Prop:=fun args K=>∃a n,args=[.int .i64 a,.int .i64 n]∧(0<n∧n≤4611686018427387904)∧K (.int .i64 (wi a n))
theorem CR[Syms]:HZ Try.prog 57 G_within8:=by
 rintro args K ⟨a,n,rfl,⟨h1,h2⟩,hk⟩
 refine⟨GP,_,hk,fun ι w vs hv=>?_⟩
 obtain⟨v0,vs0,rfl,hv0,hv⟩:=hv.uncons
 obtain⟨v1,vs1,rfl,hv1,hv⟩:=hv.uncons
 obtain rfl:=hv.unnil
 obtain rfl:=hv0.of_int
 obtain rfl:=hv1.of_int
 refine(Kk a n h1 h2 w).mono ?_
 rintro e w' ⟨rfl,rfl⟩
 exact⟨_,rfl,.int _ _,rfl⟩
theorem U9(ns:List Int){a:Nat}(h:a≤ns.length):(Z9 ns a).2≤ns.length:=by
 unfold Z9
 split
 ·exact ‹_›
 ·exact h
end
end Go.Proofs.Ytcpikannlnmafaa
