/-
 'FooterSames' returns true,whatever the input,and its arguments read as they did. Conditions:none but the statement's own.
-/
import Derived.Test.YtajieadpaeggcaaRows
import Derived.Test.YtajieadpaeggcaaL18
import Derived.WalkKit
import Derived.ProofKit
import Derived.OpenShut
import Derived.ShutString
import Derived.ChangeOld
import Derived.Below
namespace Go.Proofs.Ytajieadpaeggcaa.footerSames
open Go.Av Go.ChangeShapes Go.WideShapes Go.ChangeAt Go.RowKit
open Go.ChangeMaps (open_string shut_string)
set_option linter.unusedVariables false
set_option linter.unusedSimpArgs false
theorem own:ownKnob Try.prog.godebug=none:=by kernel_rfl
theorem laidOut:laidOutB Try.prog=true:=by kernel_rfl
theorem fit22:(KG Try.prog (kI)).1 22=true:=by kernel_rfl
theorem fit23:(KG Try.prog (kV)).1 23=true:=by kernel_rfl
theorem fit3:(KG Try.prog (.int .i64)).1 3=true:=by kernel_rfl
set_option maxRecDepth 100000 in
theorem lifted(os:Os)(started:os.Started)(H:Type)(enc:TypeId×Value→H):
 ReturnsInHanded {} Try.checked os 5 .any (Rows.footerSamesSpec.pre6 enc Try.prog Try.f5 Rows.footerSamesRow.domain false) (Rows.footerSamesSpec.post enc Try.prog Try.f5 false true false false):=by
 refine returnsInHanded_of_change (C:=Try.checked) own started (by kernel_rfl) Try.func5
  (ChangeSpec.witness6 (enc:=enc) (C:=Try.checked) false ⟨#[],#[.slice none 0 0,.slice none 0 0,.slice none 0 0,.int .i64 0,.int .i64 0],[]⟩ 5 (by kernel_rfl) (by kernel_rfl) (by kernel_rfl) (by kernel_rfl)) ?_
 intro W base args ds gs before hval0 hW hcnd _
 have hval:∀(j:Nat) t v,Try.f5.params[j]?=some t→args[j]?=some v→Value.okWide Try.prog W .any base t v:=hval0
 have hW':=hW
 obtain⟨p,q,hA0,hV,rfl,hfz,hnd⟩:=hW
 have hA:DataW.TrodAll enc Try.prog W 0 (fun _=>true) true Try.f5.params.toList args.toList ds p:=hA0
 rw[Try.params5]at hA hval
 obtain⟨v0,vs0,d0,ds0,p0,q0,hargs,rfl,rfl,h0,r0⟩:=trodAll_cons hA
 obtain⟨v1,vs1,d1,ds1,p1,q1,rfl,rfl,rfl,h1,r1⟩:=trodAll_cons r0
 obtain⟨v2,vs2,d2,ds2,p2,q2,rfl,rfl,rfl,h2,r2⟩:=trodAll_cons r1
 obtain⟨v3,vs3,d3,ds3,p3,q3,rfl,rfl,rfl,h3,r3⟩:=trodAll_cons r2
 obtain⟨v4,vs4,d4,ds4,p4,q4,rfl,rfl,rfl,h4,r4⟩:=trodAll_cons r3
 obtain⟨rfl,rfl,rfl⟩:=trodAll_nil r4
 obtain rfl:args= #[v0,v1,v2,v3,v4]:=by cases args;simp_all
 obtain⟨rfl,rfl⟩:=trodVars_none hV
 obtain⟨a0,len0,cap0,rfl⟩:=okWide_slice Try.underlying22 (hval 0 22 v0 rfl rfl)
 have lt0:∀x∈p0,x.block<W.heap.size:=by obtain⟨m,hm⟩:=h0;exact DataW.trod_lt m _ _ _ hm
 obtain⟨a1,len1,cap1,rfl⟩:=okWide_slice Try.underlying22 (hval 1 22 v1 rfl rfl)
 have lt1:∀x∈p1,x.block<W.heap.size:=by obtain⟨m,hm⟩:=h1;exact DataW.trod_lt m _ _ _ hm
 obtain⟨a2,len2,cap2,rfl⟩:=okWide_slice Try.underlying23 (hval 2 23 v2 rfl rfl)
 have lt2:∀x∈p2,x.block<W.heap.size:=by obtain⟨m,hm⟩:=h2;exact DataW.trod_lt m _ _ _ hm
 obtain⟨z3,rfl⟩:=okWide_int Try.underlying3 (hval 3 3 v3 rfl rfl)
 have lt3:∀x∈p3,x.block<W.heap.size:=by obtain⟨m,hm⟩:=h3;exact DataW.trod_lt m _ _ _ hm
 obtain⟨z4,rfl⟩:=okWide_int Try.underlying3 (hval 4 3 v4 rfl rfl)
 have lt4:∀x∈p4,x.block<W.heap.size:=by obtain⟨m,hm⟩:=h4;exact DataW.trod_lt m _ _ _ hm
 letI:Syms:=⟨fun _=>.int .i64 0,fun _=>⟨rfl,rfl⟩,fun _=>⟨_,rfl⟩⟩
 obtain⟨x0,hx0,hr0⟩:=Shp.arg1 fit22 rfl h0
 obtain⟨y0,e0,g0_0,g0_1⟩:=P5 hx0 hr0
 obtain⟨x1,hx1,hr1⟩:=Shp.arg1 fit22 rfl h1
 obtain⟨y1,e1,g1_0,g1_1⟩:=P5 hx1 hr1
 obtain⟨x2,hx2,hr2⟩:=Shp.arg1 fit23 rfl h2
 obtain⟨y2,e2,g2_0,g2_1⟩:=P4 hx2 hr2
 obtain⟨x3,hx3,hr3⟩:=Shp.arg1 fit3 rfl h3
 obtain⟨y3,e3,g3_0⟩:=P6 hx3 hr3
 obtain⟨x4,hx4,hr4⟩:=Shp.arg1 fit3 rfl h4
 obtain⟨y4,e4,g4_0⟩:=P6 hx4 hr4
 clear hA0 hval0
 refine((NO y0 y1 y2 y3 y4 g0_0 g0_1 g1_0 g1_1 g2_0 g2_1 g3_0 g4_0).true_calls (.cons e0 (.cons e1 (.cons e2 (.cons e3 (.cons e4 (.nil _))))))).mono fun e W' ⟨he,bel⟩=>?_
 subst he
 exact⟨_,rfl,_,_,_,[],_,[],hW',trodAll_mk1 (shut_bool Try.underlying4 _),(trodAll_cons_mk (Below.trod laidOut (by kernel_rfl) (of_decide_eq_true (by kernel_rfl)) h0 bel lt0) (trodAll_cons_mk (Below.trod laidOut (by kernel_rfl) (of_decide_eq_true (by kernel_rfl)) h1 bel lt1) (trodAll_cons_mk (Below.trod laidOut (by kernel_rfl) (of_decide_eq_true (by kernel_rfl)) h2 bel lt2) (trodAll_cons_mk (Below.trod laidOut (by kernel_rfl) (of_decide_eq_true (by kernel_rfl)) h3 bel lt3) (trodAll_cons_mk (Below.trod laidOut (by kernel_rfl) (of_decide_eq_true (by kernel_rfl)) h4 bel lt4) trodAll_mk0))))),rfl,bel.frame _,fun h=>by cases h⟩
theorem over:Rows.footerSamesRow.holds Try.pinned (OpenSpec.ofChange Rows.footerSamesSpec):=
 OpenClaim.holds_of_wide 5 Try.f5 rfl rfl rfl rfl rfl rfl rfl ⟨rfl,rfl,rfl,rfl,rfl⟩ rfl rfl rfl rfl rfl (by kernel_rfl) Try.func5 (by kernel_rfl)
  (of_decide_eq_true (by kernel_rfl)) (by unfold Func.isWrapper;first|(rw[if_pos (by decide +kernel)];kernel_rfl)|(rw[if_neg (by decide +kernel)];exact⟨rfl,rfl⟩))
  (fun os started H enc _=>lifted os started H enc)
theorem proved:Rows.FooterSamesSaid:=over
#print axioms proved
end Go.Proofs.Ytajieadpaeggcaa.footerSames