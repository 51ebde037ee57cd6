/-
 'FooterReads' returns true,whatever the input,and its arguments read as they did. Conditions:none but the statement's own.
-/
import Derived.Test.YtajieadpaeggcaaRows
import Derived.Test.YtajieadpaeggcaaL9
import Derived.WalkKit
import Derived.ProofKit
import Derived.OpenShut
import Derived.ShutString
import Derived.ChangeOld
import Derived.Below
namespace Go.Proofs.Ytajieadpaeggcaa.footerReads
open Go.Av Go.ChangeShapes Go.WideShapes Go.ChangeAt Go.RowKit
open Go.ChangeMaps (open_string shut_string)
set_option linter.unusedVariables false
theorem own:ownKnob Try.prog.godebug=none:=by kernel_rfl
theorem laidOut:laidOutB Try.prog=true:=by kernel_rfl
theorem fit22:(G3 Try.prog (kI)).1 22=true:=by kernel_rfl
theorem fit23:(G3 Try.prog (kV)).1 23=true:=by kernel_rfl
theorem fit24:(G3 Try.prog (kB)).1 24=true:=by kernel_rfl
theorem fit3:(G3 Try.prog (.int .i64)).1 3=true:=by kernel_rfl
set_option maxRecDepth 100000 in
theorem lifted(os:Os)(started:os.Started)(H:Type)(enc:TypeId×Value→H):
 ReturnsInHanded {} Try.checked os 3 .any (Rows.footerReadsSpec.pre6 enc Try.prog Try.f3 Rows.footerReadsRow.domain false) (Rows.footerReadsSpec.post enc Try.prog Try.f3 false true false false):=by
 refine returnsInHanded_of_change (C:=Try.checked) own started (by kernel_rfl) Try.func3
  (ChangeSpec.witness6 (enc:=enc) (C:=Try.checked) false ⟨#[],#[.slice none 0 0,.slice none 0 0,.slice none 0 0,.slice none 0 0,.slice none 0 0,.int .i64 0,.int .i64 0,.int .i64 0,.slice none 0 0],[]⟩ 3 (by kernel_rfl) (by kernel_rfl) (by kernel_rfl) (by kernel_rfl)) ?_
 intro W base args ds gs before hval0 hW hcnd _
 have hval:∀(j:Nat) t v,Try.f3.params[j]?=some t→args[j]?=some v→Value.okWide Try.prog W .any base t v:=hval0
 have hW':=hW
 obtain⟨p,q,hA0,hV,rfl,hfz,hnd⟩:=hW
 have hA:DataW.TrodAll enc Try.prog W 0 (fun _=>true) true Try.f3.params.toList args.toList ds p:=hA0
 rw[Try.params3]at hA hval
 obtain⟨v0,vs0,d0,ds0,p0,q0,hargs,rfl,rfl,h0,r0⟩:=trodAll_cons hA
 obtain⟨v1,vs1,d1,ds1,p1,q1,rfl,rfl,rfl,h1,r1⟩:=trodAll_cons r0
 obtain⟨v2,vs2,d2,ds2,p2,q2,rfl,rfl,rfl,h2,r2⟩:=trodAll_cons r1
 obtain⟨v3,vs3,d3,ds3,p3,q3,rfl,rfl,rfl,h3,r3⟩:=trodAll_cons r2
 obtain⟨v4,vs4,d4,ds4,p4,q4,rfl,rfl,rfl,h4,r4⟩:=trodAll_cons r3
 obtain⟨v5,vs5,d5,ds5,p5,q5,rfl,rfl,rfl,h5,r5⟩:=trodAll_cons r4
 obtain⟨v6,vs6,d6,ds6,p6,q6,rfl,rfl,rfl,h6,r6⟩:=trodAll_cons r5
 obtain⟨v7,vs7,d7,ds7,p7,q7,rfl,rfl,rfl,h7,r7⟩:=trodAll_cons r6
 obtain⟨v8,vs8,d8,ds8,p8,q8,rfl,rfl,rfl,h8,r8⟩:=trodAll_cons r7
 obtain⟨rfl,rfl,rfl⟩:=trodAll_nil r8
 obtain rfl:args= #[v0,v1,v2,v3,v4,v5,v6,v7,v8]:=by cases args;simp_all
 obtain⟨rfl,rfl⟩:=trodVars_none hV
 obtain⟨a0,len0,cap0,rfl⟩:=okWide_slice Try.underlying22 (hval 0 22 v0 rfl rfl)
 have lt0:∀x∈p0,x.block<W.heap.size:=by obtain⟨m,hm⟩:=h0;exact DataW.trod_lt m _ _ _ hm
 obtain⟨a1,len1,cap1,rfl⟩:=okWide_slice Try.underlying22 (hval 1 22 v1 rfl rfl)
 have lt1:∀x∈p1,x.block<W.heap.size:=by obtain⟨m,hm⟩:=h1;exact DataW.trod_lt m _ _ _ hm
 obtain⟨a2,len2,cap2,rfl⟩:=okWide_slice Try.underlying23 (hval 2 23 v2 rfl rfl)
 have lt2:∀x∈p2,x.block<W.heap.size:=by obtain⟨m,hm⟩:=h2;exact DataW.trod_lt m _ _ _ hm
 obtain⟨a3,len3,cap3,rfl⟩:=okWide_slice Try.underlying22 (hval 3 22 v3 rfl rfl)
 have lt3:∀x∈p3,x.block<W.heap.size:=by obtain⟨m,hm⟩:=h3;exact DataW.trod_lt m _ _ _ hm
 obtain⟨a4,len4,cap4,rfl⟩:=okWide_slice Try.underlying24 (hval 4 24 v4 rfl rfl)
 have lt4:∀x∈p4,x.block<W.heap.size:=by obtain⟨m,hm⟩:=h4;exact DataW.trod_lt m _ _ _ hm
 obtain⟨z5,rfl⟩:=okWide_int Try.underlying3 (hval 5 3 v5 rfl rfl)
 have lt5:∀x∈p5,x.block<W.heap.size:=by obtain⟨m,hm⟩:=h5;exact DataW.trod_lt m _ _ _ hm
 obtain⟨z6,rfl⟩:=okWide_int Try.underlying3 (hval 6 3 v6 rfl rfl)
 have lt6:∀x∈p6,x.block<W.heap.size:=by obtain⟨m,hm⟩:=h6;exact DataW.trod_lt m _ _ _ hm
 obtain⟨z7,rfl⟩:=okWide_int Try.underlying3 (hval 7 3 v7 rfl rfl)
 have lt7:∀x∈p7,x.block<W.heap.size:=by obtain⟨m,hm⟩:=h7;exact DataW.trod_lt m _ _ _ hm
 obtain⟨a8,len8,cap8,rfl⟩:=okWide_slice Try.underlying24 (hval 8 24 v8 rfl rfl)
 have lt8:∀x∈p8,x.block<W.heap.size:=by obtain⟨m,hm⟩:=h8;exact DataW.trod_lt m _ _ _ hm
 letI:Syms:=⟨fun _=>.int .i64 0,fun _=>⟨rfl,rfl⟩,fun _=>⟨_,rfl⟩⟩
 obtain⟨x0,hx0,hr0⟩:=Shp.arg1 fit22 rfl h0
 obtain⟨y0,e0,g0_0,g0_1⟩:=Q13 hx0 hr0
 obtain⟨x1,hx1,hr1⟩:=Shp.arg1 fit22 rfl h1
 obtain⟨y1,e1,g1_0,g1_1⟩:=Q13 hx1 hr1
 obtain⟨x2,hx2,hr2⟩:=Shp.arg1 fit23 rfl h2
 obtain⟨y2,e2,g2_0,g2_1⟩:=Q12 hx2 hr2
 obtain⟨x3,hx3,hr3⟩:=Shp.arg1 fit22 rfl h3
 obtain⟨y3,e3,g3_0,g3_1⟩:=Q13 hx3 hr3
 obtain⟨x4,hx4,hr4⟩:=Shp.arg1 fit24 rfl h4
 obtain⟨y4,e4,g4_0⟩:=Q0g hx4 hr4
 obtain⟨x5,hx5,hr5⟩:=Shp.arg1 fit3 rfl h5
 obtain⟨y5,e5,g5_0⟩:=Q14 hx5 hr5
 obtain⟨x6,hx6,hr6⟩:=Shp.arg1 fit3 rfl h6
 obtain⟨y6,e6,g6_0⟩:=Q14 hx6 hr6
 obtain⟨x7,hx7,hr7⟩:=Shp.arg1 fit3 rfl h7
 obtain⟨y7,e7,g7_0⟩:=Q14 hx7 hr7
 obtain⟨x8,hx8,hr8⟩:=Shp.arg1 fit24 rfl h8
 obtain⟨y8,e8,g8_0⟩:=Q0g hx8 hr8
 clear hA0 hval0
 refine((Tk y0 y1 y2 y3 y4 y5 y6 y7 y8 g0_0 g0_1 g1_0 g1_1 g2_0 g2_1 g3_0 g3_1 g4_0 g5_0 g6_0 g7_0 g8_0).true_calls (.cons e0 (.cons e1 (.cons e2 (.cons e3 (.cons e4 (.cons e5 (.cons e6 (.cons e7 (.cons e8 (.nil _))))))))))).mono fun e W' ⟨he,bel⟩=>?_
 subst he
 exact⟨_,rfl,_,_,_,[],_,[],hW',trodAll_mk1 (shut_bool Try.underlying4 _),(trodAll_cons_mk (Below.trod laidOut (by kernel_rfl) (of_decide_eq_true (by kernel_rfl)) h0 bel lt0) (trodAll_cons_mk (Below.trod laidOut (by kernel_rfl) (of_decide_eq_true (by kernel_rfl)) h1 bel lt1) (trodAll_cons_mk (Below.trod laidOut (by kernel_rfl) (of_decide_eq_true (by kernel_rfl)) h2 bel lt2) (trodAll_cons_mk (Below.trod laidOut (by kernel_rfl) (of_decide_eq_true (by kernel_rfl)) h3 bel lt3) (trodAll_cons_mk (Below.trod laidOut (by kernel_rfl) (of_decide_eq_true (by kernel_rfl)) h4 bel lt4) (trodAll_cons_mk (Below.trod laidOut (by kernel_rfl) (of_decide_eq_true (by kernel_rfl)) h5 bel lt5) (trodAll_cons_mk (Below.trod laidOut (by kernel_rfl) (of_decide_eq_true (by kernel_rfl)) h6 bel lt6) (trodAll_cons_mk (Below.trod laidOut (by kernel_rfl) (of_decide_eq_true (by kernel_rfl)) h7 bel lt7) (trodAll_cons_mk (Below.trod laidOut (by kernel_rfl) (of_decide_eq_true (by kernel_rfl)) h8 bel lt8) trodAll_mk0))))))))),rfl,bel.frame _,fun h=>by cases h⟩
theorem over:Rows.footerReadsRow.holds Try.pinned (OpenSpec.ofChange Rows.footerReadsSpec):=
 OpenClaim.holds_of_wide 3 Try.f3 rfl rfl rfl rfl rfl rfl rfl ⟨rfl,rfl,rfl,rfl,rfl⟩ rfl rfl rfl rfl rfl (by kernel_rfl) Try.func3 (by kernel_rfl)
  (of_decide_eq_true (by kernel_rfl)) (by unfold Func.isWrapper;first|(rw[if_pos (by decide +kernel)];kernel_rfl)|(rw[if_neg (by decide +kernel)];exact⟨rfl,rfl⟩))
  (fun os started H enc _=>lifted os started H enc)
theorem proved:Rows.FooterReadsSaid:=over
#print axioms proved
end Go.Proofs.Ytajieadpaeggcaa.footerReads