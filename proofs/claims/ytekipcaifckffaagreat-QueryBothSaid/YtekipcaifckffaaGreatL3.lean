/-
  'Leaves':the fields that are no groups. What is asked of the function of leaves,and what it answers. The program's. The leaf of a path:the closures of 'asks'. The program's. The maker of records:a field's value. The document's walk over a shape goes as the program's. Plain. What is wrong with a shape. Plain. 'name':is a text a name? The program's;a field's check. A path's names. The program's.
-/
import Derived.Test.YtekipcaifckffaaGreatL2
import Derived.Test.YtekipcaifckffaaGreatSxOne
import Derived.Laws.RangeAny
set_option linter.unusedVariables false
set_option linter.unusedSimpArgs false
namespace Go.Proofs.YtekipcaifckffaaGreat
open Go Go.Av
section
set_option maxRecDepth 100000
set_option maxHeartbeats 4000000
def Z6(lv:List Lf)(n:Nat):List (List AVal):=lv.map QQ++List.replicate (n-lv.length) (QQ lf0)
def lE(fs:List Fd)(ps:List Int)(n i:Nat)(out:AVal):Env:=[(0,vF fs),(3,vI ps),(4,.slice 0 0 n 4 none),(5,out),(15,vF fs),(16,.int .i64 n),(17,.int .i64 i)]
def lA(fs:List Fd)(ps:List Int)(n i:Nat):St:=⟨lE fs ps n i .nils,[(0,some (.cells (Z6 (Qd fs ps i) n) false))],1⟩
def lB(fs:List Fd)(ps:List Int)(n i:Nat):St:=⟨lE fs ps n i (.slice 1 0 (QF fs ps i).length 4 none),[(0,some (.cells (Z6 (Qd fs ps i) n) false)),(1,some (.cells ((QF fs ps i).map QQ) false))],2⟩
theorem Nk(n:Nat):Qg (List.replicate n (QQ lf0)):=fun r hr x hx=>by
 rw[List.eq_of_mem_replicate hr]at hx
 simp[QQ]at hx;rcases hx with rfl|rfl|rfl|rfl<;>rfl
theorem fLR(lv:List Lf)(n:Nat):Qg (Z6 lv n):=QI (fL _) (Nk _)
theorem Mi{lv:List Lf}{n:Nat}(h:lv.length≤n):(Z6 lv n).length=n:=by simp[Z6];omega
theorem Ds{lv:List Lf}{n p:Nat}(h:p<lv.length):(Z6 lv n).getD p []=QQ (lv.getD p default):=by
 simp[Z6,List.getD_eq_getElem?_getD,List.getElem?_append_left,h]
theorem Kw{lv:List Lf}{n:Nat}(h:lv.length<n):(Z6 lv n).getD lv.length []=QQ lf0:=by
 obtain⟨m,hm⟩:∃m,n-lv.length=m+1:=⟨n-lv.length-1,by omega⟩
 simp[Z6,List.getD_eq_getElem?_getD,hm,List.replicate_succ]
theorem Ed{lv:List Lf}{n:Nat}(h:lv.length<n)(x:Lf):(Z6 lv n).set lv.length (QQ x)=Z6 (lv++[x]) n:=by
 obtain⟨m,hm⟩:∃m,n-lv.length=m+1:=⟨n-lv.length-1,by omega⟩
 simp only[Z6,hm,List.replicate_succ]
 rw[List.set_append_right (h:=by simp)]
 simp
 omega
theorem Z0{fs:List Fd}{ps:List Int}{n i:Nat}{x y z w:Int}(h:i<n)(hM:mkL fs ps (Qd fs ps i) i=⟨x,y,z,w⟩):
 (Z6 (Qd fs ps i) n).set (0+i) (Qr ((Z6 (Qd fs ps i) n).getD (0+i) []) 0 [.int .i64 x,.int .i64 y,.int .i64 z,.int .i64 w])=Z6 (Qd fs ps (i+1)) n:=by
 have h1:=Kw (lv:=Qd fs ps i) (n:=n) (by rw[QS];exact h)
 have h2:=Ed (lv:=Qd fs ps i) (n:=n) (by rw[QS];exact h) ⟨x,y,z,w⟩
 rw[QS]at h1 h2
 rw[Nat.zero_add,h1,Qd,hM,←h2]
 rfl
def Qq(fs:List Fd)(ps:List Int)(i:Nat):Lf:=(Qd fs ps i).getD (ps.getD i 0).toNat default
def lS(fs:List Fd)(ps:List Int)(i:Nat)(b:Bool):St:=match b with
 |false=>⟨lE fs ps fs.length i .nils++[(6,.int .i64 i),(7,.ptr 1 0 0),(8,.ptr 2 0 0),(9,.int .i64 (ps.getD i 0))],[(0,some (.cells (Z6 (Qd fs ps i) fs.length) false)),(1,some (.cells [encF (fs.getD i default)] false)),(2,some (.cells [QQ ⟨i,(Qq fs ps i).r,(Qq fs ps i).d,(fs.getD i default).kind⟩] false))],3⟩
 |true=>⟨lE fs ps fs.length i (.slice 1 0 (QF fs ps i).length 4 none)++[(6,.int .i64 i),(7,.ptr 2 0 0),(8,.ptr 3 0 0),(9,.int .i64 (ps.getD i 0))],[(0,some (.cells (Z6 (Qd fs ps i) fs.length) false)),(1,some (.cells ((QF fs ps i).map QQ) false)),(2,some (.cells [encF (fs.getD i default)] false)),(3,some (.cells [QQ ⟨i,(Qq fs ps i).r,(Qq fs ps i).d,(fs.getD i default).kind⟩] false))],4⟩
def P8(fs:List Fd)(ps:List Int)(n:Nat)(m:Nat)(s:St):Prop:=∃i:Nat,(i≤n∧m=n-i)∧((QF fs ps i=[]∧s=lA fs ps n i)∨s=lB fs ps n i)
theorem Hl[Syms](fs:List Fd)(hF:FsOk fs):
 fnT Ql (Qu 76 (ZJ S_par) (Qu 86 (tB Ql Ql) Ql)) (QW fns) (QP tys) (Z1 plt) 100 44 [vF fs] [] 0 (fun v H _=>v=vL (Q2 fs)∧H=[]):=by
 have hl:=hF.len
 refine⟨fs,rfl,hF,?_⟩
 have hpl:=XB fs
 have ha:=VR fs
 unfold Q2
 generalize Q6 fs=ps at *
 repeat' first|refine And.intro ?_ ?_|(intro h;try simp only[decide_eq_true_eq,decide_eq_false_iff_not,Int.not_lt,Int.not_le,Int.toNat_natCast,↓reduceIte,Nat.reduceAdd,reduceCtorEq,Int.reduceLT,Int.lt_irrefl,gt_iff_lt,not_true_eq_false,not_false_eq_true,Bool.not_true,Bool.not_false,decide_false,decide_true,Int.reduceLE,Int.reduceSub,Bool.false_eq_true,Bool.true_eq_false,Nat.reduceEqDiff,Nat.one_ne_zero,Nat.reduceLT,and_self,and_true,true_and,Int.natCast_zero,Int.cast_ofNat_Int,List.length_nil,ne_eq,Decidable.not_not]at h)
 all_goals(try first|exact PlanIs.mk (by kernel_rfl)|omega|(show(_:Int)*((32:Nat):Int)≤_;omega)|(show(_:Int)*((8:Nat):Int)≤_;omega)|(show(_:Int)*((24:Nat):Int)≤_;omega)|exact rfl|exact Nat.le_of_ble_eq_true rfl|(show(_:Nat)≤(_:Nat);simp;done)|(show(_:Nat)≤(_:Nat);simp;omega))
 refine⟨P8 fs ps fs.length,⟨_,lA fs ps fs.length 0,Q0 [0] rfl ?_ ?_,0,⟨by omega,rfl⟩,.inl ⟨rfl,rfl⟩⟩,?_⟩
 ·exact⟨.refl _,.refl _,.cap _ _ _ _ _,.refl _,.refl _,.refl _,.refl _,trivial⟩
 ·exact⟨⟨by decide,_,rfl,Q1 rfl (fLR _ _)⟩,trivial⟩
 rintro m s ⟨i,⟨hi,rfl⟩,(⟨h0,rfl⟩|rfl)⟩
 ·have hol:=ZE fs ps i
  have hll:=QS fs ps i
  by_cases hin:i<fs.length
  ·have hxi:(Z6 (Qd fs ps i) fs.length).getD i []=QQ lf0:=by have:=Kw (lv:=Qd fs ps i) (n:=fs.length) (by rw[QS];exact hin);rwa [QS]at this
   have hq:=ha i hin
   have hln:(Z6 (Qd fs ps i) fs.length).length=fs.length:=Mi (by omega)
   rcases Int.lt_or_le (ps.getD i 0) 0 with hp|hp
   ·have hB:Yr (Qd fs ps i) (ps.getD i 0)=lf0:=by rw[Yr,if_neg (by omega)]
    repeat' first|refine And.intro ?_ ?_|(intro h;(try first|replace h:=of_decide_eq_true h|replace h:=of_decide_eq_false h);(try simp only[Q5,Y6,Xe,Qc,QM,Wo,Wn,Wm,Qv,Y3,Y2,Y1,Qi,Wl,Wk,Wj,Wi,Y0,XZ,XY,XX,Nat.zero_add,Nat.add_zero,Int.toNat_natCast,Int.toNat_zero]at h);try simp only[decide_eq_true_eq,decide_eq_false_iff_not,Int.not_lt,Int.not_le,Int.toNat_natCast,↓reduceIte,Nat.reduceAdd,reduceCtorEq,Int.reduceLT,Int.lt_irrefl,gt_iff_lt,not_true_eq_false,not_false_eq_true,Bool.not_true,Bool.not_false,decide_false,decide_true,Int.reduceLE,Int.reduceSub,Bool.false_eq_true,Bool.true_eq_false,Nat.reduceEqDiff,Nat.one_ne_zero,Nat.reduceLT,and_self,and_true,true_and,Int.natCast_zero,Int.cast_ofNat_Int,List.length_nil,ne_eq,Decidable.not_not]at h)
    all_goals(try first|exact PlanIs.mk (by kernel_rfl)|omega|(show(_:Int)*((32:Nat):Int)≤_;omega)|(show(_:Int)*((8:Nat):Int)≤_;omega)|(show(_:Int)*((24:Nat):Int)≤_;omega)|exact rfl|exact Nat.le_of_ble_eq_true rfl|(show(_:Nat)≤(_:Nat);simp;done)|(show(_:Nat)≤(_:Nat);simp;omega))
    all_goals(try first|(show(-9223372036854775808:Int)≤lf0.r+1;first|decide|omega)|(show(-9223372036854775808:Int)≤lf0.d+1;first|decide|omega)|(show lf0.r+1≤(9223372036854775807:Int);first|decide|omega)|(show lf0.d+1≤(9223372036854775807:Int);first|decide|omega))
    all_goals(try first|(show 0+i<(Z6 (Qd fs ps i) fs.length).length;rw[hln];omega)|(show 0+4≤(List.length ((Z6 (Qd fs ps i) fs.length).getD (0+i) []));rw[Nat.zero_add i,hxi];exact Nat.le_refl 4))
    all_goals first
    |(have hr:(fs.getD i default).rep=2:=by assumption
      have hk:(fs.getD i default).kind=0:=by assumption
      have hM:mkL fs ps (Qd fs ps i) i=⟨i,lf0.r+1,lf0.d+1,(fs.getD i default).kind⟩:=by(simp only[mkL,hB];rw[if_pos hr,if_pos (by omega)])
      refine⟨_,lA fs ps fs.length (i+1),Q0 [0] rfl ?_ ?_,⟨i+1,⟨by omega,rfl⟩,.inl ⟨by rw[Q4,if_neg (by omega)];exact h0,rfl⟩⟩,by omega⟩
      ·exact⟨.refl _,.refl _,.refl _,.refl _,.refl _,.refl _,.refl _,trivial⟩
      ·refine⟨⟨by decide,_,rfl,Q1 ?_ (fLR _ _)⟩,trivial⟩
       ·exact Z0 (x:=i) (y:=lf0.r+1) (z:=lf0.d+1) (w:=(fs.getD i default).kind) hin hM)
    |(have hr:(fs.getD i default).rep=2:=by assumption
      have hk:¬(fs.getD i default).kind=0:=by assumption
      have hM:mkL fs ps (Qd fs ps i) i=⟨i,lf0.r+1,lf0.d+1,(fs.getD i default).kind⟩:=by(simp only[mkL,hB];rw[if_pos hr,if_pos (by omega)])
      refine⟨_,lB fs ps fs.length (i+1),Q0 [0,9] rfl ?_ ?_,⟨i+1,⟨by omega,rfl⟩,.inr rfl⟩,by omega⟩
      ·exact⟨.refl _,.refl _,.refl _,Q3 (by rw[Q4,if_pos hk,h0,List.length_append];rfl),.refl _,.refl _,.refl _,trivial⟩
      ·refine⟨⟨by decide,_,rfl,Q1 ?_ (fLR _ _)⟩,⟨by decide,_,rfl,Q1 ?_ (fL _)⟩,trivial⟩
       ·exact Z0 (x:=i) (y:=lf0.r+1) (z:=lf0.d+1) (w:=(fs.getD i default).kind) hin hM
       ·(rw[Q4,if_pos hk,hM,h0];rfl))
    |(have hr:¬(fs.getD i default).rep=2:=by assumption
      have hz:¬(fs.getD i default).rep=0:=by assumption
      have hk:(fs.getD i default).kind=0:=by assumption
      have hM:mkL fs ps (Qd fs ps i) i=⟨i,lf0.r,lf0.d+1,(fs.getD i default).kind⟩:=by(simp only[mkL,hB];rw[if_neg hr,if_pos hz])
      refine⟨_,lA fs ps fs.length (i+1),Q0 [0] rfl ?_ ?_,⟨i+1,⟨by omega,rfl⟩,.inl ⟨by rw[Q4,if_neg (by omega)];exact h0,rfl⟩⟩,by omega⟩
      ·exact⟨.refl _,.refl _,.refl _,.refl _,.refl _,.refl _,.refl _,trivial⟩
      ·refine⟨⟨by decide,_,rfl,Q1 ?_ (fLR _ _)⟩,trivial⟩
       ·exact Z0 (x:=i) (y:=lf0.r) (z:=lf0.d+1) (w:=(fs.getD i default).kind) hin hM)
    |(have hr:¬(fs.getD i default).rep=2:=by assumption
      have hz:¬(fs.getD i default).rep=0:=by assumption
      have hk:¬(fs.getD i default).kind=0:=by assumption
      have hM:mkL fs ps (Qd fs ps i) i=⟨i,lf0.r,lf0.d+1,(fs.getD i default).kind⟩:=by(simp only[mkL,hB];rw[if_neg hr,if_pos hz])
      refine⟨_,lB fs ps fs.length (i+1),Q0 [0,8] rfl ?_ ?_,⟨i+1,⟨by omega,rfl⟩,.inr rfl⟩,by omega⟩
      ·exact⟨.refl _,.refl _,.refl _,Q3 (by rw[Q4,if_pos hk,h0,List.length_append];rfl),.refl _,.refl _,.refl _,trivial⟩
      ·refine⟨⟨by decide,_,rfl,Q1 ?_ (fLR _ _)⟩,⟨by decide,_,rfl,Q1 ?_ (fL _)⟩,trivial⟩
       ·exact Z0 (x:=i) (y:=lf0.r) (z:=lf0.d+1) (w:=(fs.getD i default).kind) hin hM
       ·(rw[Q4,if_pos hk,hM,h0];rfl))
    |(have hr:(fs.getD i default).rep=0:=by assumption
      have hk:(fs.getD i default).kind=0:=by assumption
      have hM:mkL fs ps (Qd fs ps i) i=⟨i,lf0.r,lf0.d,(fs.getD i default).kind⟩:=by(simp only[mkL,hB];rw[if_neg (by omega),if_neg (by omega)])
      refine⟨_,lA fs ps fs.length (i+1),Q0 [0] rfl ?_ ?_,⟨i+1,⟨by omega,rfl⟩,.inl ⟨by rw[Q4,if_neg (by omega)];exact h0,rfl⟩⟩,by omega⟩
      ·exact⟨.refl _,.refl _,.refl _,.refl _,.refl _,.refl _,.refl _,trivial⟩
      ·refine⟨⟨by decide,_,rfl,Q1 ?_ (fLR _ _)⟩,trivial⟩
       ·exact Z0 (x:=i) (y:=lf0.r) (z:=lf0.d) (w:=(fs.getD i default).kind) hin hM)
    |(have hr:(fs.getD i default).rep=0:=by assumption
      have hk:¬(fs.getD i default).kind=0:=by assumption
      have hM:mkL fs ps (Qd fs ps i) i=⟨i,lf0.r,lf0.d,(fs.getD i default).kind⟩:=by(simp only[mkL,hB];rw[if_neg (by omega),if_neg (by omega)])
      refine⟨_,lB fs ps fs.length (i+1),Q0 [0,7] rfl ?_ ?_,⟨i+1,⟨by omega,rfl⟩,.inr rfl⟩,by omega⟩
      ·exact⟨.refl _,.refl _,.refl _,Q3 (by rw[Q4,if_pos hk,h0,List.length_append];rfl),.refl _,.refl _,.refl _,trivial⟩
      ·refine⟨⟨by decide,_,rfl,Q1 ?_ (fLR _ _)⟩,⟨by decide,_,rfl,Q1 ?_ (fL _)⟩,trivial⟩
       ·exact Z0 (x:=i) (y:=lf0.r) (z:=lf0.d) (w:=(fs.getD i default).kind) hin hM
       ·(rw[Q4,if_pos hk,hM,h0];rfl))
   ·have hB:Yr (Qd fs ps i) (ps.getD i 0)=Qq fs ps i:=by rw[Yr,if_pos hp];rfl
    have hb:=Wx (fs:=fs) ha i (by omega) (ps.getD i 0).toNat (by omega)
    change 0≤(Qq fs ps i).r∧(Qq fs ps i).r≤(Qq fs ps i).d∧(Qq fs ps i).d≤_ at hb
    have hxp:(Z6 (Qd fs ps i) fs.length).getD (0+(ps.getD i 0).toNat) []=QQ (Qq fs ps i):=by rw[Nat.zero_add];exact Ds (by omega)
    repeat' first|refine And.intro ?_ ?_|(intro h;(try first|replace h:=of_decide_eq_true h|replace h:=of_decide_eq_false h);(try simp only[Q5,Y6,Xe,Qc,QM,Wo,Wn,Wm,Qv,Y3,Y2,Y1,Qi,Wl,Wk,Wj,Wi,Y0,XZ,XY,XX,Nat.zero_add,Nat.add_zero,Int.toNat_natCast,Int.toNat_zero]at h);try simp only[decide_eq_true_eq,decide_eq_false_iff_not,Int.not_lt,Int.not_le,Int.toNat_natCast,↓reduceIte,Nat.reduceAdd,reduceCtorEq,Int.reduceLT,Int.lt_irrefl,gt_iff_lt,not_true_eq_false,not_false_eq_true,Bool.not_true,Bool.not_false,decide_false,decide_true,Int.reduceLE,Int.reduceSub,Bool.false_eq_true,Bool.true_eq_false,Nat.reduceEqDiff,Nat.one_ne_zero,Nat.reduceLT,and_self,and_true,true_and,Int.natCast_zero,Int.cast_ofNat_Int,List.length_nil,ne_eq,Decidable.not_not]at h)
    all_goals(try first|exact PlanIs.mk (by kernel_rfl)|omega|(show(_:Int)*((32:Nat):Int)≤_;omega)|(show(_:Int)*((8:Nat):Int)≤_;omega)|(show(_:Int)*((24:Nat):Int)≤_;omega)|exact rfl|exact Nat.le_of_ble_eq_true rfl|(show(_:Nat)≤(_:Nat);simp;done)|(show(_:Nat)≤(_:Nat);simp;omega))
    ·exact NoSel.mk (by kernel_rfl)
    refine⟨lS fs ps i false,?_,?_⟩
    · repeat' first|refine And.intro ?_ ?_|(intro h;(try first|replace h:=of_decide_eq_true h|replace h:=of_decide_eq_false h);(try simp only[Q5,Y6,Xe,Qc,QM,Wo,Wn,Wm,Qv,Y3,Y2,Y1,Qi,Wl,Wk,Wj,Wi,Y0,XZ,XY,XX,Nat.zero_add,Nat.add_zero,Int.toNat_natCast,Int.toNat_zero]at h);try simp only[decide_eq_true_eq,decide_eq_false_iff_not,Int.not_lt,Int.not_le,Int.toNat_natCast,↓reduceIte,Nat.reduceAdd,reduceCtorEq,Int.reduceLT,Int.lt_irrefl,gt_iff_lt,not_true_eq_false,not_false_eq_true,Bool.not_true,Bool.not_false,decide_false,decide_true,Int.reduceLE,Int.reduceSub,Bool.false_eq_true,Bool.true_eq_false,Nat.reduceEqDiff,Nat.one_ne_zero,Nat.reduceLT,and_self,and_true,true_and,Int.natCast_zero,Int.cast_ofNat_Int,List.length_nil,ne_eq,Decidable.not_not]at h)
      all_goals(try first|exact PlanIs.mk (by kernel_rfl)|omega|(show(_:Int)*((32:Nat):Int)≤_;omega)|(show(_:Int)*((8:Nat):Int)≤_;omega)|(show(_:Int)*((24:Nat):Int)≤_;omega)|exact rfl|exact Nat.le_of_ble_eq_true rfl|(show(_:Nat)≤(_:Nat);simp;done)|(show(_:Nat)≤(_:Nat);simp;omega))
      all_goals(try exact Apart.mk (by kernel_rfl))
      all_goals(try first|(show isC _ _ (((Z6 (Qd fs ps i) fs.length).getD (0+(ps.getD i 0).toNat) []).getD _ _)=true;rw[hxp];exact rfl)|(show(0:Int)≤ps.getD i 0;omega)|(show ps.getD i 0<(fs.length:Int);omega))
      all_goals
       refine Exists.intro () ?_
       refine Q0 [0,1,3] (by exact rfl) ?_ ?_
       ·exact⟨.refl _,.refl _,.refl _,.refl _,.refl _,.refl _,.refl _,.refl _,.refl _,.refl _,.refl _,trivial⟩
       ·refine⟨⟨by decide,_,rfl,Q1 rfl (fLR _ _)⟩,⟨by decide,_,rfl,Q1 rfl (fF [fs.getD i default])⟩,⟨by decide,_,rfl,Q1 ?_ (fL [_])⟩,trivial⟩
        show[[AVal.int .i64 i,.int .i64 (asI (((Z6 (Qd fs ps i) fs.length).getD (0+(ps.getD i 0).toNat) []).getD 1 .any)),.int .i64 (asI (((Z6 (Qd fs ps i) fs.length).getD (0+(ps.getD i 0).toNat) []).getD 2 .any)),.int .i64 (fs.getD i default).kind]]=_
        rw[hxp];rfl
    repeat' first|refine And.intro ?_ ?_|(intro h;(try first|replace h:=of_decide_eq_true h|replace h:=of_decide_eq_false h);(try simp only[Q5,Y6,Xe,Qc,QM,Wo,Wn,Wm,Qv,Y3,Y2,Y1,Qi,Wl,Wk,Wj,Wi,Y0,XZ,XY,XX,Nat.zero_add,Nat.add_zero,Int.toNat_natCast,Int.toNat_zero]at h);try simp only[decide_eq_true_eq,decide_eq_false_iff_not,Int.not_lt,Int.not_le,Int.toNat_natCast,↓reduceIte,Nat.reduceAdd,reduceCtorEq,Int.reduceLT,Int.lt_irrefl,gt_iff_lt,not_true_eq_false,not_false_eq_true,Bool.not_true,Bool.not_false,decide_false,decide_true,Int.reduceLE,Int.reduceSub,Bool.false_eq_true,Bool.true_eq_false,Nat.reduceEqDiff,Nat.one_ne_zero,Nat.reduceLT,and_self,and_true,true_and,Int.natCast_zero,Int.cast_ofNat_Int,List.length_nil,ne_eq,Decidable.not_not]at h)
    all_goals(try first|exact PlanIs.mk (by kernel_rfl)|omega|(show(_:Int)*((32:Nat):Int)≤_;omega)|(show(_:Int)*((8:Nat):Int)≤_;omega)|(show(_:Int)*((24:Nat):Int)≤_;omega)|exact rfl|exact Nat.le_of_ble_eq_true rfl|(show(_:Nat)≤(_:Nat);simp;done)|(show(_:Nat)≤(_:Nat);simp;omega))
    all_goals(try first|(show(-9223372036854775808:Int)≤(Qq fs ps i).r+1;first|decide|omega)|(show(-9223372036854775808:Int)≤(Qq fs ps i).d+1;first|decide|omega)|(show(Qq fs ps i).r+1≤(9223372036854775807:Int);first|decide|omega)|(show(Qq fs ps i).d+1≤(9223372036854775807:Int);first|decide|omega))
    all_goals(try first|(show 0+i<(Z6 (Qd fs ps i) fs.length).length;rw[hln];omega)|(show 0+4≤(List.length ((Z6 (Qd fs ps i) fs.length).getD (0+i) []));rw[Nat.zero_add i,hxi];exact Nat.le_refl 4))
    all_goals first
    |(have hr:(fs.getD i default).rep=2:=by assumption
      have hk:(fs.getD i default).kind=0:=by assumption
      have hM:mkL fs ps (Qd fs ps i) i=⟨i,(Qq fs ps i).r+1,(Qq fs ps i).d+1,(fs.getD i default).kind⟩:=by(simp only[mkL,hB];rw[if_pos hr,if_pos (by omega)])
      refine⟨_,lA fs ps fs.length (i+1),Q0 [0] rfl ?_ ?_,⟨i+1,⟨by omega,rfl⟩,.inl ⟨by rw[Q4,if_neg (by omega)];exact h0,rfl⟩⟩,by omega⟩
      ·exact⟨.refl _,.refl _,.refl _,.refl _,.refl _,.refl _,.refl _,trivial⟩
      ·refine⟨⟨by decide,_,rfl,Q1 ?_ (fLR _ _)⟩,trivial⟩
       ·exact Z0 (x:=i) (y:=(Qq fs ps i).r+1) (z:=(Qq fs ps i).d+1) (w:=(fs.getD i default).kind) hin hM)
    |(have hr:(fs.getD i default).rep=2:=by assumption
      have hk:¬(fs.getD i default).kind=0:=by assumption
      have hM:mkL fs ps (Qd fs ps i) i=⟨i,(Qq fs ps i).r+1,(Qq fs ps i).d+1,(fs.getD i default).kind⟩:=by(simp only[mkL,hB];rw[if_pos hr,if_pos (by omega)])
      refine⟨_,lB fs ps fs.length (i+1),Q0 [0,7] rfl ?_ ?_,⟨i+1,⟨by omega,rfl⟩,.inr rfl⟩,by omega⟩
      ·exact⟨.refl _,.refl _,.refl _,Q3 (by rw[Q4,if_pos hk,h0,List.length_append];rfl),.refl _,.refl _,.refl _,trivial⟩
      ·refine⟨⟨by decide,_,rfl,Q1 ?_ (fLR _ _)⟩,⟨by decide,_,rfl,Q1 ?_ (fL _)⟩,trivial⟩
       ·exact Z0 (x:=i) (y:=(Qq fs ps i).r+1) (z:=(Qq fs ps i).d+1) (w:=(fs.getD i default).kind) hin hM
       ·(rw[Q4,if_pos hk,hM,h0];rfl))
    |(have hr:¬(fs.getD i default).rep=2:=by assumption
      have hz:¬(fs.getD i default).rep=0:=by assumption
      have hk:(fs.getD i default).kind=0:=by assumption
      have hM:mkL fs ps (Qd fs ps i) i=⟨i,(Qq fs ps i).r,(Qq fs ps i).d+1,(fs.getD i default).kind⟩:=by(simp only[mkL,hB];rw[if_neg hr,if_pos hz])
      refine⟨_,lA fs ps fs.length (i+1),Q0 [0] rfl ?_ ?_,⟨i+1,⟨by omega,rfl⟩,.inl ⟨by rw[Q4,if_neg (by omega)];exact h0,rfl⟩⟩,by omega⟩
      ·exact⟨.refl _,.refl _,.refl _,.refl _,.refl _,.refl _,.refl _,trivial⟩
      ·refine⟨⟨by decide,_,rfl,Q1 ?_ (fLR _ _)⟩,trivial⟩
       ·exact Z0 (x:=i) (y:=(Qq fs ps i).r) (z:=(Qq fs ps i).d+1) (w:=(fs.getD i default).kind) hin hM)
    |(have hr:¬(fs.getD i default).rep=2:=by assumption
      have hz:¬(fs.getD i default).rep=0:=by assumption
      have hk:¬(fs.getD i default).kind=0:=by assumption
      have hM:mkL fs ps (Qd fs ps i) i=⟨i,(Qq fs ps i).r,(Qq fs ps i).d+1,(fs.getD i default).kind⟩:=by(simp only[mkL,hB];rw[if_neg hr,if_pos hz])
      refine⟨_,lB fs ps fs.length (i+1),Q0 [0,6] rfl ?_ ?_,⟨i+1,⟨by omega,rfl⟩,.inr rfl⟩,by omega⟩
      ·exact⟨.refl _,.refl _,.refl _,Q3 (by rw[Q4,if_pos hk,h0,List.length_append];rfl),.refl _,.refl _,.refl _,trivial⟩
      ·refine⟨⟨by decide,_,rfl,Q1 ?_ (fLR _ _)⟩,⟨by decide,_,rfl,Q1 ?_ (fL _)⟩,trivial⟩
       ·exact Z0 (x:=i) (y:=(Qq fs ps i).r) (z:=(Qq fs ps i).d+1) (w:=(fs.getD i default).kind) hin hM
       ·(rw[Q4,if_pos hk,hM,h0];rfl))
    |(have hr:(fs.getD i default).rep=0:=by assumption
      have hk:(fs.getD i default).kind=0:=by assumption
      have hM:mkL fs ps (Qd fs ps i) i=⟨i,(Qq fs ps i).r,(Qq fs ps i).d,(fs.getD i default).kind⟩:=by(simp only[mkL,hB];rw[if_neg (by omega),if_neg (by omega)])
      refine⟨_,lA fs ps fs.length (i+1),Q0 [0] rfl ?_ ?_,⟨i+1,⟨by omega,rfl⟩,.inl ⟨by rw[Q4,if_neg (by omega)];exact h0,rfl⟩⟩,by omega⟩
      ·exact⟨.refl _,.refl _,.refl _,.refl _,.refl _,.refl _,.refl _,trivial⟩
      ·refine⟨⟨by decide,_,rfl,Q1 ?_ (fLR _ _)⟩,trivial⟩
       ·exact Z0 (x:=i) (y:=(Qq fs ps i).r) (z:=(Qq fs ps i).d) (w:=(fs.getD i default).kind) hin hM)
    |(have hr:(fs.getD i default).rep=0:=by assumption
      have hk:¬(fs.getD i default).kind=0:=by assumption
      have hM:mkL fs ps (Qd fs ps i) i=⟨i,(Qq fs ps i).r,(Qq fs ps i).d,(fs.getD i default).kind⟩:=by(simp only[mkL,hB];rw[if_neg (by omega),if_neg (by omega)])
      refine⟨_,lB fs ps fs.length (i+1),Q0 [0,5] rfl ?_ ?_,⟨i+1,⟨by omega,rfl⟩,.inr rfl⟩,by omega⟩
      ·exact⟨.refl _,.refl _,.refl _,Q3 (by rw[Q4,if_pos hk,h0,List.length_append];rfl),.refl _,.refl _,.refl _,trivial⟩
      ·refine⟨⟨by decide,_,rfl,Q1 ?_ (fLR _ _)⟩,⟨by decide,_,rfl,Q1 ?_ (fL _)⟩,trivial⟩
       ·exact Z0 (x:=i) (y:=(Qq fs ps i).r) (z:=(Qq fs ps i).d) (w:=(fs.getD i default).kind) hin hM
       ·(rw[Q4,if_pos hk,hM,h0];rfl))
  ·obtain rfl:i=fs.length:=by omega
   repeat' first|refine And.intro ?_ ?_|(intro h;(try first|replace h:=of_decide_eq_true h|replace h:=of_decide_eq_false h);(try simp only[Q5,Y6,Xe,Qc,QM,Wo,Wn,Wm,Qv,Y3,Y2,Y1,Qi,Wl,Wk,Wj,Wi,Y0,XZ,XY,XX,Nat.zero_add,Nat.add_zero,Int.toNat_natCast,Int.toNat_zero]at h);(try simp only[decide_eq_true_eq,decide_eq_false_iff_not,Int.not_lt,Int.not_le,Int.toNat_natCast,↓reduceIte,Nat.reduceAdd,reduceCtorEq,Int.reduceLT,Int.lt_irrefl,gt_iff_lt,not_true_eq_false,not_false_eq_true,Bool.not_true,Bool.not_false,decide_false,decide_true,Int.reduceLE,Int.reduceSub,Bool.false_eq_true,Bool.true_eq_false,Nat.reduceEqDiff,Nat.one_ne_zero,Nat.reduceLT,and_self,and_true,true_and,Int.natCast_zero,Int.cast_ofNat_Int,List.length_nil,ne_eq,Decidable.not_not]at h);try(exfalso;omega))
   all_goals(try first|exact PlanIs.mk (by kernel_rfl)|omega|(show(_:Int)*((32:Nat):Int)≤_;omega)|(show(_:Int)*((8:Nat):Int)≤_;omega)|(show(_:Int)*((24:Nat):Int)≤_;omega)|exact rfl|exact Nat.le_of_ble_eq_true rfl|(show(_:Nat)≤(_:Nat);simp;done)|(show(_:Nat)≤(_:Nat);simp;omega))
   all_goals(try first|exact Ut (enc:=QQ) (z:=4) (fun _=>rfl) _ _ _|(show(0+(QF fs ps fs.length).length)*32≤_;omega))
   refine⟨_,.refl _ _ _,_,rfl,?_⟩
   refine⟨_,WN (k:=2) 4 QQ default rfl,_,rfl,?_,rfl⟩
   rw[h0];rfl
 ·have hol:=ZE fs ps i
  have hll:=QS fs ps i
  by_cases hin:i<fs.length
  ·have hxi:(Z6 (Qd fs ps i) fs.length).getD i []=QQ lf0:=by have:=Kw (lv:=Qd fs ps i) (n:=fs.length) (by rw[QS];exact hin);rwa [QS]at this
   have hq:=ha i hin
   have hln:(Z6 (Qd fs ps i) fs.length).length=fs.length:=Mi (by omega)
   rcases Int.lt_or_le (ps.getD i 0) 0 with hp|hp
   ·have hB:Yr (Qd fs ps i) (ps.getD i 0)=lf0:=by rw[Yr,if_neg (by omega)]
    repeat' first|refine And.intro ?_ ?_|(intro h;(try first|replace h:=of_decide_eq_true h|replace h:=of_decide_eq_false h);(try simp only[Q5,Y6,Xe,Qc,QM,Wo,Wn,Wm,Qv,Y3,Y2,Y1,Qi,Wl,Wk,Wj,Wi,Y0,XZ,XY,XX,Nat.zero_add,Nat.add_zero,Int.toNat_natCast,Int.toNat_zero]at h);try simp only[decide_eq_true_eq,decide_eq_false_iff_not,Int.not_lt,Int.not_le,Int.toNat_natCast,↓reduceIte,Nat.reduceAdd,reduceCtorEq,Int.reduceLT,Int.lt_irrefl,gt_iff_lt,not_true_eq_false,not_false_eq_true,Bool.not_true,Bool.not_false,decide_false,decide_true,Int.reduceLE,Int.reduceSub,Bool.false_eq_true,Bool.true_eq_false,Nat.reduceEqDiff,Nat.one_ne_zero,Nat.reduceLT,and_self,and_true,true_and,Int.natCast_zero,Int.cast_ofNat_Int,List.length_nil,ne_eq,Decidable.not_not]at h)
    all_goals(try first|exact PlanIs.mk (by kernel_rfl)|omega|(show(_:Int)*((32:Nat):Int)≤_;omega)|(show(_:Int)*((8:Nat):Int)≤_;omega)|(show(_:Int)*((24:Nat):Int)≤_;omega)|exact rfl|exact Nat.le_of_ble_eq_true rfl|(show(_:Nat)≤(_:Nat);simp;done)|(show(_:Nat)≤(_:Nat);simp;omega))
    all_goals(try first|(show(-9223372036854775808:Int)≤lf0.r+1;first|decide|omega)|(show(-9223372036854775808:Int)≤lf0.d+1;first|decide|omega)|(show lf0.r+1≤(9223372036854775807:Int);first|decide|omega)|(show lf0.d+1≤(9223372036854775807:Int);first|decide|omega))
    all_goals(try first|(show 0+i<(Z6 (Qd fs ps i) fs.length).length;rw[hln];omega)|(show 0+4≤(List.length ((Z6 (Qd fs ps i) fs.length).getD (0+i) []));rw[Nat.zero_add i,hxi];exact Nat.le_refl 4))
    all_goals first
    |(have hr:(fs.getD i default).rep=2:=by assumption
      have hk:(fs.getD i default).kind=0:=by assumption
      have hM:mkL fs ps (Qd fs ps i) i=⟨i,lf0.r+1,lf0.d+1,(fs.getD i default).kind⟩:=by(simp only[mkL,hB];rw[if_pos hr,if_pos (by omega)])
      refine⟨_,lB fs ps fs.length (i+1),Q0 [0,1] rfl ?_ ?_,⟨i+1,⟨by omega,rfl⟩,.inr rfl⟩,by omega⟩
      ·exact⟨.refl _,.refl _,.refl _,Q3 (by rw[Q4,if_neg (by omega)]),.refl _,.refl _,.refl _,trivial⟩
      ·refine⟨⟨by decide,_,rfl,Q1 ?_ (fLR _ _)⟩,⟨by decide,_,rfl,Q1 ?_ (fL _)⟩,trivial⟩
       ·exact Z0 (x:=i) (y:=lf0.r+1) (z:=lf0.d+1) (w:=(fs.getD i default).kind) hin hM
       ·rw[Q4,if_neg (by omega)])
    |(have hr:(fs.getD i default).rep=2:=by assumption
      have hk:¬(fs.getD i default).kind=0:=by assumption
      have hM:mkL fs ps (Qd fs ps i) i=⟨i,lf0.r+1,lf0.d+1,(fs.getD i default).kind⟩:=by(simp only[mkL,hB];rw[if_pos hr,if_pos (by omega)])
      refine⟨_,lB fs ps fs.length (i+1),Q0 [0,10] rfl ?_ ?_,⟨i+1,⟨by omega,rfl⟩,.inr rfl⟩,by omega⟩
      ·exact⟨.refl _,.refl _,.refl _,Q3 (by rw[Q4,if_pos hk,List.length_append];rfl),.refl _,.refl _,.refl _,trivial⟩
      ·refine⟨⟨by decide,_,rfl,Q1 ?_ (fLR _ _)⟩,⟨by decide,_,rfl,Q1 ?_ (fL _)⟩,trivial⟩
       ·exact Z0 (x:=i) (y:=lf0.r+1) (z:=lf0.d+1) (w:=(fs.getD i default).kind) hin hM
       ·(rw[Q4,if_pos hk,hM,List.map_append];show List.take _ (List.drop 0 ((QF fs ps i).map QQ))++[_]=_;rw[List.drop_zero,List.take_of_length_le (by rw[List.length_map];exact Nat.le_refl _)];rfl))
    |(have hr:¬(fs.getD i default).rep=2:=by assumption
      have hz:¬(fs.getD i default).rep=0:=by assumption
      have hk:(fs.getD i default).kind=0:=by assumption
      have hM:mkL fs ps (Qd fs ps i) i=⟨i,lf0.r,lf0.d+1,(fs.getD i default).kind⟩:=by(simp only[mkL,hB];rw[if_neg hr,if_pos hz])
      refine⟨_,lB fs ps fs.length (i+1),Q0 [0,1] rfl ?_ ?_,⟨i+1,⟨by omega,rfl⟩,.inr rfl⟩,by omega⟩
      ·exact⟨.refl _,.refl _,.refl _,Q3 (by rw[Q4,if_neg (by omega)]),.refl _,.refl _,.refl _,trivial⟩
      ·refine⟨⟨by decide,_,rfl,Q1 ?_ (fLR _ _)⟩,⟨by decide,_,rfl,Q1 ?_ (fL _)⟩,trivial⟩
       ·exact Z0 (x:=i) (y:=lf0.r) (z:=lf0.d+1) (w:=(fs.getD i default).kind) hin hM
       ·rw[Q4,if_neg (by omega)])
    |(have hr:¬(fs.getD i default).rep=2:=by assumption
      have hz:¬(fs.getD i default).rep=0:=by assumption
      have hk:¬(fs.getD i default).kind=0:=by assumption
      have hM:mkL fs ps (Qd fs ps i) i=⟨i,lf0.r,lf0.d+1,(fs.getD i default).kind⟩:=by(simp only[mkL,hB];rw[if_neg hr,if_pos hz])
      refine⟨_,lB fs ps fs.length (i+1),Q0 [0,9] rfl ?_ ?_,⟨i+1,⟨by omega,rfl⟩,.inr rfl⟩,by omega⟩
      ·exact⟨.refl _,.refl _,.refl _,Q3 (by rw[Q4,if_pos hk,List.length_append];rfl),.refl _,.refl _,.refl _,trivial⟩
      ·refine⟨⟨by decide,_,rfl,Q1 ?_ (fLR _ _)⟩,⟨by decide,_,rfl,Q1 ?_ (fL _)⟩,trivial⟩
       ·exact Z0 (x:=i) (y:=lf0.r) (z:=lf0.d+1) (w:=(fs.getD i default).kind) hin hM
       ·(rw[Q4,if_pos hk,hM,List.map_append];show List.take _ (List.drop 0 ((QF fs ps i).map QQ))++[_]=_;rw[List.drop_zero,List.take_of_length_le (by rw[List.length_map];exact Nat.le_refl _)];rfl))
    |(have hr:(fs.getD i default).rep=0:=by assumption
      have hk:(fs.getD i default).kind=0:=by assumption
      have hM:mkL fs ps (Qd fs ps i) i=⟨i,lf0.r,lf0.d,(fs.getD i default).kind⟩:=by(simp only[mkL,hB];rw[if_neg (by omega),if_neg (by omega)])
      refine⟨_,lB fs ps fs.length (i+1),Q0 [0,1] rfl ?_ ?_,⟨i+1,⟨by omega,rfl⟩,.inr rfl⟩,by omega⟩
      ·exact⟨.refl _,.refl _,.refl _,Q3 (by rw[Q4,if_neg (by omega)]),.refl _,.refl _,.refl _,trivial⟩
      ·refine⟨⟨by decide,_,rfl,Q1 ?_ (fLR _ _)⟩,⟨by decide,_,rfl,Q1 ?_ (fL _)⟩,trivial⟩
       ·exact Z0 (x:=i) (y:=lf0.r) (z:=lf0.d) (w:=(fs.getD i default).kind) hin hM
       ·rw[Q4,if_neg (by omega)])
    |(have hr:(fs.getD i default).rep=0:=by assumption
      have hk:¬(fs.getD i default).kind=0:=by assumption
      have hM:mkL fs ps (Qd fs ps i) i=⟨i,lf0.r,lf0.d,(fs.getD i default).kind⟩:=by(simp only[mkL,hB];rw[if_neg (by omega),if_neg (by omega)])
      refine⟨_,lB fs ps fs.length (i+1),Q0 [0,8] rfl ?_ ?_,⟨i+1,⟨by omega,rfl⟩,.inr rfl⟩,by omega⟩
      ·exact⟨.refl _,.refl _,.refl _,Q3 (by rw[Q4,if_pos hk,List.length_append];rfl),.refl _,.refl _,.refl _,trivial⟩
      ·refine⟨⟨by decide,_,rfl,Q1 ?_ (fLR _ _)⟩,⟨by decide,_,rfl,Q1 ?_ (fL _)⟩,trivial⟩
       ·exact Z0 (x:=i) (y:=lf0.r) (z:=lf0.d) (w:=(fs.getD i default).kind) hin hM
       ·(rw[Q4,if_pos hk,hM,List.map_append];show List.take _ (List.drop 0 ((QF fs ps i).map QQ))++[_]=_;rw[List.drop_zero,List.take_of_length_le (by rw[List.length_map];exact Nat.le_refl _)];rfl))
   ·have hB:Yr (Qd fs ps i) (ps.getD i 0)=Qq fs ps i:=by rw[Yr,if_pos hp];rfl
    have hb:=Wx (fs:=fs) ha i (by omega) (ps.getD i 0).toNat (by omega)
    change 0≤(Qq fs ps i).r∧(Qq fs ps i).r≤(Qq fs ps i).d∧(Qq fs ps i).d≤_ at hb
    have hxp:(Z6 (Qd fs ps i) fs.length).getD (0+(ps.getD i 0).toNat) []=QQ (Qq fs ps i):=by rw[Nat.zero_add];exact Ds (by omega)
    repeat' first|refine And.intro ?_ ?_|(intro h;(try first|replace h:=of_decide_eq_true h|replace h:=of_decide_eq_false h);(try simp only[Q5,Y6,Xe,Qc,QM,Wo,Wn,Wm,Qv,Y3,Y2,Y1,Qi,Wl,Wk,Wj,Wi,Y0,XZ,XY,XX,Nat.zero_add,Nat.add_zero,Int.toNat_natCast,Int.toNat_zero]at h);try simp only[decide_eq_true_eq,decide_eq_false_iff_not,Int.not_lt,Int.not_le,Int.toNat_natCast,↓reduceIte,Nat.reduceAdd,reduceCtorEq,Int.reduceLT,Int.lt_irrefl,gt_iff_lt,not_true_eq_false,not_false_eq_true,Bool.not_true,Bool.not_false,decide_false,decide_true,Int.reduceLE,Int.reduceSub,Bool.false_eq_true,Bool.true_eq_false,Nat.reduceEqDiff,Nat.one_ne_zero,Nat.reduceLT,and_self,and_true,true_and,Int.natCast_zero,Int.cast_ofNat_Int,List.length_nil,ne_eq,Decidable.not_not]at h)
    all_goals(try first|exact PlanIs.mk (by kernel_rfl)|omega|(show(_:Int)*((32:Nat):Int)≤_;omega)|(show(_:Int)*((8:Nat):Int)≤_;omega)|(show(_:Int)*((24:Nat):Int)≤_;omega)|exact rfl|exact Nat.le_of_ble_eq_true rfl|(show(_:Nat)≤(_:Nat);simp;done)|(show(_:Nat)≤(_:Nat);simp;omega))
    ·exact NoSel.mk (by kernel_rfl)
    refine⟨lS fs ps i true,?_,?_⟩
    · repeat' first|refine And.intro ?_ ?_|(intro h;(try first|replace h:=of_decide_eq_true h|replace h:=of_decide_eq_false h);(try simp only[Q5,Y6,Xe,Qc,QM,Wo,Wn,Wm,Qv,Y3,Y2,Y1,Qi,Wl,Wk,Wj,Wi,Y0,XZ,XY,XX,Nat.zero_add,Nat.add_zero,Int.toNat_natCast,Int.toNat_zero]at h);try simp only[decide_eq_true_eq,decide_eq_false_iff_not,Int.not_lt,Int.not_le,Int.toNat_natCast,↓reduceIte,Nat.reduceAdd,reduceCtorEq,Int.reduceLT,Int.lt_irrefl,gt_iff_lt,not_true_eq_false,not_false_eq_true,Bool.not_true,Bool.not_false,decide_false,decide_true,Int.reduceLE,Int.reduceSub,Bool.false_eq_true,Bool.true_eq_false,Nat.reduceEqDiff,Nat.one_ne_zero,Nat.reduceLT,and_self,and_true,true_and,Int.natCast_zero,Int.cast_ofNat_Int,List.length_nil,ne_eq,Decidable.not_not]at h)
      all_goals(try first|exact PlanIs.mk (by kernel_rfl)|omega|(show(_:Int)*((32:Nat):Int)≤_;omega)|(show(_:Int)*((8:Nat):Int)≤_;omega)|(show(_:Int)*((24:Nat):Int)≤_;omega)|exact rfl|exact Nat.le_of_ble_eq_true rfl|(show(_:Nat)≤(_:Nat);simp;done)|(show(_:Nat)≤(_:Nat);simp;omega))
      all_goals(try exact Apart.mk (by kernel_rfl))
      all_goals(try first|(show isC _ _ (((Z6 (Qd fs ps i) fs.length).getD (0+(ps.getD i 0).toNat) []).getD _ _)=true;rw[hxp];exact rfl)|(show(0:Int)≤ps.getD i 0;omega)|(show ps.getD i 0<(fs.length:Int);omega))
      all_goals
       refine Exists.intro () ?_
       refine Q0 [0,1,2,4] (by exact rfl) ?_ ?_
       ·exact⟨.refl _,.refl _,.refl _,.refl _,.refl _,.refl _,.refl _,.refl _,.refl _,.refl _,.refl _,trivial⟩
       ·refine⟨⟨by decide,_,rfl,Q1 rfl (fLR _ _)⟩,⟨by decide,_,rfl,Q1 rfl (fL _)⟩,⟨by decide,_,rfl,Q1 rfl (fF [fs.getD i default])⟩,⟨by decide,_,rfl,Q1 ?_ (fL [_])⟩,trivial⟩
        show[[AVal.int .i64 i,.int .i64 (asI (((Z6 (Qd fs ps i) fs.length).getD (0+(ps.getD i 0).toNat) []).getD 1 .any)),.int .i64 (asI (((Z6 (Qd fs ps i) fs.length).getD (0+(ps.getD i 0).toNat) []).getD 2 .any)),.int .i64 (fs.getD i default).kind]]=_
        rw[hxp];rfl
    repeat' first|refine And.intro ?_ ?_|(intro h;(try first|replace h:=of_decide_eq_true h|replace h:=of_decide_eq_false h);(try simp only[Q5,Y6,Xe,Qc,QM,Wo,Wn,Wm,Qv,Y3,Y2,Y1,Qi,Wl,Wk,Wj,Wi,Y0,XZ,XY,XX,Nat.zero_add,Nat.add_zero,Int.toNat_natCast,Int.toNat_zero]at h);try simp only[decide_eq_true_eq,decide_eq_false_iff_not,Int.not_lt,Int.not_le,Int.toNat_natCast,↓reduceIte,Nat.reduceAdd,reduceCtorEq,Int.reduceLT,Int.lt_irrefl,gt_iff_lt,not_true_eq_false,not_false_eq_true,Bool.not_true,Bool.not_false,decide_false,decide_true,Int.reduceLE,Int.reduceSub,Bool.false_eq_true,Bool.true_eq_false,Nat.reduceEqDiff,Nat.one_ne_zero,Nat.reduceLT,and_self,and_true,true_and,Int.natCast_zero,Int.cast_ofNat_Int,List.length_nil,ne_eq,Decidable.not_not]at h)
    all_goals(try first|exact PlanIs.mk (by kernel_rfl)|omega|(show(_:Int)*((32:Nat):Int)≤_;omega)|(show(_:Int)*((8:Nat):Int)≤_;omega)|(show(_:Int)*((24:Nat):Int)≤_;omega)|exact rfl|exact Nat.le_of_ble_eq_true rfl|(show(_:Nat)≤(_:Nat);simp;done)|(show(_:Nat)≤(_:Nat);simp;omega))
    all_goals(try first|(show(-9223372036854775808:Int)≤(Qq fs ps i).r+1;first|decide|omega)|(show(-9223372036854775808:Int)≤(Qq fs ps i).d+1;first|decide|omega)|(show(Qq fs ps i).r+1≤(9223372036854775807:Int);first|decide|omega)|(show(Qq fs ps i).d+1≤(9223372036854775807:Int);first|decide|omega))
    all_goals(try first|(show 0+i<(Z6 (Qd fs ps i) fs.length).length;rw[hln];omega)|(show 0+4≤(List.length ((Z6 (Qd fs ps i) fs.length).getD (0+i) []));rw[Nat.zero_add i,hxi];exact Nat.le_refl 4))
    all_goals first
    |(have hr:(fs.getD i default).rep=2:=by assumption
      have hk:(fs.getD i default).kind=0:=by assumption
      have hM:mkL fs ps (Qd fs ps i) i=⟨i,(Qq fs ps i).r+1,(Qq fs ps i).d+1,(fs.getD i default).kind⟩:=by(simp only[mkL,hB];rw[if_pos hr,if_pos (by omega)])
      refine⟨_,lB fs ps fs.length (i+1),Q0 [0,1] rfl ?_ ?_,⟨i+1,⟨by omega,rfl⟩,.inr rfl⟩,by omega⟩
      ·exact⟨.refl _,.refl _,.refl _,Q3 (by rw[Q4,if_neg (by omega)]),.refl _,.refl _,.refl _,trivial⟩
      ·refine⟨⟨by decide,_,rfl,Q1 ?_ (fLR _ _)⟩,⟨by decide,_,rfl,Q1 ?_ (fL _)⟩,trivial⟩
       ·exact Z0 (x:=i) (y:=(Qq fs ps i).r+1) (z:=(Qq fs ps i).d+1) (w:=(fs.getD i default).kind) hin hM
       ·rw[Q4,if_neg (by omega)])
    |(have hr:(fs.getD i default).rep=2:=by assumption
      have hk:¬(fs.getD i default).kind=0:=by assumption
      have hM:mkL fs ps (Qd fs ps i) i=⟨i,(Qq fs ps i).r+1,(Qq fs ps i).d+1,(fs.getD i default).kind⟩:=by(simp only[mkL,hB];rw[if_pos hr,if_pos (by omega)])
      refine⟨_,lB fs ps fs.length (i+1),Q0 [0,8] rfl ?_ ?_,⟨i+1,⟨by omega,rfl⟩,.inr rfl⟩,by omega⟩
      ·exact⟨.refl _,.refl _,.refl _,Q3 (by rw[Q4,if_pos hk,List.length_append];rfl),.refl _,.refl _,.refl _,trivial⟩
      ·refine⟨⟨by decide,_,rfl,Q1 ?_ (fLR _ _)⟩,⟨by decide,_,rfl,Q1 ?_ (fL _)⟩,trivial⟩
       ·exact Z0 (x:=i) (y:=(Qq fs ps i).r+1) (z:=(Qq fs ps i).d+1) (w:=(fs.getD i default).kind) hin hM
       ·(rw[Q4,if_pos hk,hM,List.map_append];show List.take _ (List.drop 0 ((QF fs ps i).map QQ))++[_]=_;rw[List.drop_zero,List.take_of_length_le (by rw[List.length_map];exact Nat.le_refl _)];rfl))
    |(have hr:¬(fs.getD i default).rep=2:=by assumption
      have hz:¬(fs.getD i default).rep=0:=by assumption
      have hk:(fs.getD i default).kind=0:=by assumption
      have hM:mkL fs ps (Qd fs ps i) i=⟨i,(Qq fs ps i).r,(Qq fs ps i).d+1,(fs.getD i default).kind⟩:=by(simp only[mkL,hB];rw[if_neg hr,if_pos hz])
      refine⟨_,lB fs ps fs.length (i+1),Q0 [0,1] rfl ?_ ?_,⟨i+1,⟨by omega,rfl⟩,.inr rfl⟩,by omega⟩
      ·exact⟨.refl _,.refl _,.refl _,Q3 (by rw[Q4,if_neg (by omega)]),.refl _,.refl _,.refl _,trivial⟩
      ·refine⟨⟨by decide,_,rfl,Q1 ?_ (fLR _ _)⟩,⟨by decide,_,rfl,Q1 ?_ (fL _)⟩,trivial⟩
       ·exact Z0 (x:=i) (y:=(Qq fs ps i).r) (z:=(Qq fs ps i).d+1) (w:=(fs.getD i default).kind) hin hM
       ·rw[Q4,if_neg (by omega)])
    |(have hr:¬(fs.getD i default).rep=2:=by assumption
      have hz:¬(fs.getD i default).rep=0:=by assumption
      have hk:¬(fs.getD i default).kind=0:=by assumption
      have hM:mkL fs ps (Qd fs ps i) i=⟨i,(Qq fs ps i).r,(Qq fs ps i).d+1,(fs.getD i default).kind⟩:=by(simp only[mkL,hB];rw[if_neg hr,if_pos hz])
      refine⟨_,lB fs ps fs.length (i+1),Q0 [0,7] rfl ?_ ?_,⟨i+1,⟨by omega,rfl⟩,.inr rfl⟩,by omega⟩
      ·exact⟨.refl _,.refl _,.refl _,Q3 (by rw[Q4,if_pos hk,List.length_append];rfl),.refl _,.refl _,.refl _,trivial⟩
      ·refine⟨⟨by decide,_,rfl,Q1 ?_ (fLR _ _)⟩,⟨by decide,_,rfl,Q1 ?_ (fL _)⟩,trivial⟩
       ·exact Z0 (x:=i) (y:=(Qq fs ps i).r) (z:=(Qq fs ps i).d+1) (w:=(fs.getD i default).kind) hin hM
       ·(rw[Q4,if_pos hk,hM,List.map_append];show List.take _ (List.drop 0 ((QF fs ps i).map QQ))++[_]=_;rw[List.drop_zero,List.take_of_length_le (by rw[List.length_map];exact Nat.le_refl _)];rfl))
    |(have hr:(fs.getD i default).rep=0:=by assumption
      have hk:(fs.getD i default).kind=0:=by assumption
      have hM:mkL fs ps (Qd fs ps i) i=⟨i,(Qq fs ps i).r,(Qq fs ps i).d,(fs.getD i default).kind⟩:=by(simp only[mkL,hB];rw[if_neg (by omega),if_neg (by omega)])
      refine⟨_,lB fs ps fs.length (i+1),Q0 [0,1] rfl ?_ ?_,⟨i+1,⟨by omega,rfl⟩,.inr rfl⟩,by omega⟩
      ·exact⟨.refl _,.refl _,.refl _,Q3 (by rw[Q4,if_neg (by omega)]),.refl _,.refl _,.refl _,trivial⟩
      ·refine⟨⟨by decide,_,rfl,Q1 ?_ (fLR _ _)⟩,⟨by decide,_,rfl,Q1 ?_ (fL _)⟩,trivial⟩
       ·exact Z0 (x:=i) (y:=(Qq fs ps i).r) (z:=(Qq fs ps i).d) (w:=(fs.getD i default).kind) hin hM
       ·rw[Q4,if_neg (by omega)])
    |(have hr:(fs.getD i default).rep=0:=by assumption
      have hk:¬(fs.getD i default).kind=0:=by assumption
      have hM:mkL fs ps (Qd fs ps i) i=⟨i,(Qq fs ps i).r,(Qq fs ps i).d,(fs.getD i default).kind⟩:=by(simp only[mkL,hB];rw[if_neg (by omega),if_neg (by omega)])
      refine⟨_,lB fs ps fs.length (i+1),Q0 [0,6] rfl ?_ ?_,⟨i+1,⟨by omega,rfl⟩,.inr rfl⟩,by omega⟩
      ·exact⟨.refl _,.refl _,.refl _,Q3 (by rw[Q4,if_pos hk,List.length_append];rfl),.refl _,.refl _,.refl _,trivial⟩
      ·refine⟨⟨by decide,_,rfl,Q1 ?_ (fLR _ _)⟩,⟨by decide,_,rfl,Q1 ?_ (fL _)⟩,trivial⟩
       ·exact Z0 (x:=i) (y:=(Qq fs ps i).r) (z:=(Qq fs ps i).d) (w:=(fs.getD i default).kind) hin hM
       ·(rw[Q4,if_pos hk,hM,List.map_append];show List.take _ (List.drop 0 ((QF fs ps i).map QQ))++[_]=_;rw[List.drop_zero,List.take_of_length_le (by rw[List.length_map];exact Nat.le_refl _)];rfl))
  ·obtain rfl:i=fs.length:=by omega
   repeat' first|refine And.intro ?_ ?_|(intro h;(try first|replace h:=of_decide_eq_true h|replace h:=of_decide_eq_false h);(try simp only[Q5,Y6,Xe,Qc,QM,Wo,Wn,Wm,Qv,Y3,Y2,Y1,Qi,Wl,Wk,Wj,Wi,Y0,XZ,XY,XX,Nat.zero_add,Nat.add_zero,Int.toNat_natCast,Int.toNat_zero]at h);(try simp only[decide_eq_true_eq,decide_eq_false_iff_not,Int.not_lt,Int.not_le,Int.toNat_natCast,↓reduceIte,Nat.reduceAdd,reduceCtorEq,Int.reduceLT,Int.lt_irrefl,gt_iff_lt,not_true_eq_false,not_false_eq_true,Bool.not_true,Bool.not_false,decide_false,decide_true,Int.reduceLE,Int.reduceSub,Bool.false_eq_true,Bool.true_eq_false,Nat.reduceEqDiff,Nat.one_ne_zero,Nat.reduceLT,and_self,and_true,true_and,Int.natCast_zero,Int.cast_ofNat_Int,List.length_nil,ne_eq,Decidable.not_not]at h);try(exfalso;omega))
   all_goals(try first|exact PlanIs.mk (by kernel_rfl)|omega|(show(_:Int)*((32:Nat):Int)≤_;omega)|(show(_:Int)*((8:Nat):Int)≤_;omega)|(show(_:Int)*((24:Nat):Int)≤_;omega)|exact rfl|exact Nat.le_of_ble_eq_true rfl|(show(_:Nat)≤(_:Nat);simp;done)|(show(_:Nat)≤(_:Nat);simp;omega))
   all_goals(try first|exact Ut (enc:=QQ) (z:=4) (fun _=>rfl) _ _ _|(show(0+(QF fs ps fs.length).length)*32≤_;omega))
   ·refine⟨_,.refl _ _ _,_,rfl,?_⟩
    refine⟨_,WN (k:=2) 4 QQ default rfl,_,rfl,?_,rfl⟩
    have h0:QF fs ps fs.length=[]:=List.eq_nil_of_length_eq_zero (by omega)
    rw[h0];rfl
   ·refine⟨_,.refl _ _ _,_,rfl,?_⟩
    refine⟨_,Xy (enc:=QQ) (k:=2) default (l:=QF fs ps fs.length) rfl rfl (QI QX (KE (fL _))) ?_ ?_,_,rfl,rfl,rfl⟩
    ·show List.take (0+(QF fs ps fs.length).length) ([]++List.take (QF fs ps fs.length).length (List.drop 0 ((QF fs ps fs.length).map QQ)))=_
     rw[List.nil_append,List.drop_zero,Nat.zero_add,List.take_take,Nat.min_self]
     exact List.take_of_length_le (Nat.le_of_eq (List.length_map ..))
    ·show 0+(QF fs ps fs.length).length≤([]++List.take (QF fs ps fs.length).length (List.drop 0 ((QF fs ps fs.length).map QQ))).length
     simp
end
def S_leaves:SpecI:=fun args K=>∃fs,args=[vF fs]∧FsOk fs∧K (vL (Q2 fs))
theorem Ec[Syms]:Z8 Tryz.prog 44 S_leaves:=by
 rintro args K ⟨fs,rfl,h,hk⟩
 exact⟨rfl,_,rfl,hk,fnI QC Qz Qe (Q8 MZ (Wv (Vv QC Qz Qe Qk QV) Qk)) QV (Hl fs h)⟩
section
set_option maxRecDepth 100000
set_option maxHeartbeats 4000000
abbrev rFs(fs:List Fd):AVal:=.vs 4 (fs.map encF)
abbrev rLs(l:List Lf):AVal:=.vs 4 (l.map QQ)
theorem D6(fs:List Fd):SeeV (rFs fs) (vF fs):=.tab _ _ _ _ (Xw encF default fs).symm
theorem Oe(l:List Lf):SeeV (rLs l) (vL l):=.tab _ _ _ _ (Xw QQ default l).symm
abbrev Xc(fs:List Fd)(k:Nat):List UInt8:=Zc fs (Q6 fs) ((Q2 fs).getD k default).field
def ixP(fs:List Fd)(p:List UInt8):Nat→Int
 |0=>-1
 |n+1=>if Xc fs ((Q2 fs).length-(n+1))=p then(((Q2 fs).length-(n+1):Nat):Int)else ixP fs p n
def Wb(fs:List Fd)(p:List UInt8):Int:=ixP fs p (Q2 fs).length
theorem IP{fs:List Fd}{p:List UInt8}{k:Nat}(h:k<(Q2 fs).length):ixP fs p ((Q2 fs).length-k)=if Xc fs k=p then(k:Int)else ixP fs p ((Q2 fs).length-(k+1)):=by
 obtain⟨n,hn⟩:∃n,(Q2 fs).length-k=n+1:=⟨(Q2 fs).length-k-1,by omega⟩
 rw[hn,ixP,show(Q2 fs).length-(n+1)=k by omega,show(Q2 fs).length-(k+1)=n by omega]
abbrev cEq:CallT:=Qu 48 (ZJ (D5 S_path)) Ql
theorem Ld[Syms]:cEq.det Tryz.prog:=ZL Cp.see Qe
theorem NI[Syms]:cEq.ok Tryz.prog:=Q8 Cp.see Qk
theorem Ox[Syms](fs:List Fd)(l:Lf)(p:List UInt8)(hF:FsOk fs):
 fnT cEq cEq (QW fns) (QP tys) (Z1 plt) 100 47 [.agg (QQ l),.vp [rFs fs] 0,.vp [.str p] 0] [] 0 (fun v H _=>v= .bool (eqb (Zc fs (Q6 fs) l.field) p)∧H=[]):=by
 repeat' first|refine And.intro ?_ ?_|(intro h;try first|exact dz|replace h:=cv)
 all_goals try exact cz
 refine⟨[vF fs,.int .i64 l.field],⟨D6 fs,.same _,trivial⟩,fs,l.field,rfl,hF,?_⟩
 repeat' first|refine And.intro ?_ ?_|(intro h;try first|exact dz|replace h:=cv)
 all_goals try exact cz
 exact⟨_,Q9 [4] rfl,_,rfl,rfl,rfl⟩
def S_eqp:SpecI:=fun args K=>∃(fs:List Fd) (l:Lf) (p:List UInt8),args=[.agg (QQ l),.vp [rFs fs] 0,.vp [.str p] 0]∧FsOk fs∧K (.bool (eqb (Zc fs (Q6 fs) l.field) p))
theorem Nm[Syms]:Z8 Tryz.prog 47 S_eqp:=by
 rintro args K ⟨fs,l,p,rfl,h1,hk⟩
 exact⟨rfl,_,rfl,hk,fnI QC Qz Ld NI QV (Ox fs l p h1)⟩
abbrev cIx:CallT:=Qu 47 (ZJ S_eqp) Ql
theorem NB[Syms]:cIx.ok Tryz.prog:=Q8 Nm Qk
def fnE(fs:List Fd)(p:List UInt8):AVal:=.func 47 [.vp [rFs fs] 0,.vp [.str p] 0]
def ifS(fs:List Fd)(p:List UInt8)(k:Nat):St:=⟨[(0,vL (Q2 fs)),(1,fnE fs p),(7,.int .i64 (Q2 fs).length),(8,.int .i64 k)],[],0⟩
theorem Ot[Syms](fs:List Fd)(p:List UInt8)(hF:FsOk fs):
 fnT Ql cIx (QW fns) (QP tys) (Z1 plt) 100 46 [vL (Q2 fs),fnE fs p] [] 0 (fun v H _=>v= .int .i64 (Wb fs p)∧H=[]):=by
 have hl:=hF.len
 have hle:(Q2 fs).length≤fs.length:=ZE _ _ _
 repeat' first|refine And.intro ?_ ?_|(intro h;try first|exact dz|replace h:=cv)
 all_goals try exact cz
 refine⟨fun m s=>∃k:Nat,(k≤(Q2 fs).length∧m=(Q2 fs).length-k∧ixP fs p ((Q2 fs).length-k)=Wb fs p)∧s=ifS fs p k,⟨_,ifS fs p 0,Q9 [0,1,7,8] rfl,0,⟨by omega,rfl,rfl⟩,rfl⟩,?_⟩
 rintro m s ⟨k,⟨hk,rfl,hf⟩,rfl⟩
 unfold ifS
 by_cases hin:k<(Q2 fs).length
 ·rw[IP hin]at hf
  by_cases hp:Xc fs k=p
  ·rw[if_pos hp]at hf
   have hx1:eqb (Xc fs k) p=true:=(Wh _ _).trans (decide_eq_true hp)
   rw[←hf]
   repeat' first|refine And.intro ?_ ?_|(intro h;try first|exact dzh|replace h:=cvh)
   all_goals try exact cz
   refine⟨fs,(Q2 fs).getD k default,p,rfl,hF,?_⟩
   rw[hx1]
   repeat' first|refine And.intro ?_ ?_|(intro h;try first|exact dzh|replace h:=cvh)
   all_goals try exact cz
   exact⟨_,Q9 [4] rfl,_,rfl,rfl,rfl⟩
  ·rw[if_neg hp]at hf
   have hx1:eqb (Xc fs k) p=false:=(Wh _ _).trans (decide_eq_false hp)
   repeat' first|refine And.intro ?_ ?_|(intro h;try first|exact dzh|replace h:=cvh)
   all_goals try exact cz
   refine⟨fs,(Q2 fs).getD k default,p,rfl,hF,?_⟩
   rw[hx1]
   repeat' first|refine And.intro ?_ ?_|(intro h;try first|exact dzh|replace h:=cvh)
   all_goals try exact cz
   exact⟨_,ifS fs p (k+1),Q9 [0,1,7,8] rfl,⟨k+1,⟨by omega,rfl,hf⟩,rfl⟩,by omega⟩
 ·rw[show(Q2 fs).length-k=0 by omega]at hf
  rw[←hf]
  repeat' first|refine And.intro ?_ ?_|(intro h;try first|exact dz|replace h:=cv)
  all_goals try exact cz
  exact⟨_,Q9 [4] rfl,_,rfl,rfl,rfl⟩
def S_ixp:SpecI:=fun args K=>∃(fs:List Fd) (p:List UInt8),args=[vL (Q2 fs),fnE fs p]∧FsOk fs∧K (.int .i64 (Wb fs p))
theorem N2[Syms]:Z8 Tryz.prog 46 S_ixp:=by
 rintro args K ⟨fs,p,rfl,h1,hk⟩
 exact⟨rfl,_,rfl,hk,fnI QC Qz Qe NB QV (Ot fs p h1)⟩
abbrev cFi:CallT:=Qu 46 (ZJ (D5 S_ixp)) Ql
theorem NH[Syms]:cFi.ok Tryz.prog:=Q8 N2.see Qk
noncomputable def P4:Nat→Nat→Pl:=YK [(45,0)] (Z1 plt)
theorem Nj[Syms](fs:List Fd)(p:List UInt8)(hF:FsOk fs):
 fnT Ql cFi (QW fns) (QP tys) P4 100 45 [.str p,.vp [rLs (Q2 fs)] 0,.vp [rFs fs] 0] [] 0 (fun v H _=>v= .int .i64 (Wb fs p)∧H=[]):=by
 refine⟨⟨[(1,.vp [rLs (Q2 fs)] 0),(2,.vp [rFs fs] 0),(3,.vp [.str p] 0)],[],1⟩,?_,?_⟩
 ·exact Z2 (n:=0) (rows:=[[.str p]]) rfl (fun q hq y hy=>by simp at hq;subst hq;simp at hy;subst hy;rfl) ⟨.same _,.same _,.pt 0 0 _ [.str p] rfl ⟨.same _,trivial⟩,trivial⟩ trivial
 · repeat' first|refine And.intro ?_ ?_|(intro h;try first|exact dz|replace h:=cv)
   all_goals try exact cz
   refine⟨[vL (Q2 fs),fnE fs p],⟨Oe _,.same _,trivial⟩,fs,p,rfl,hF,?_⟩
   repeat' first|refine And.intro ?_ ?_|(intro h;try first|exact dz|replace h:=cv)
   all_goals try exact cz
   exact⟨_,Q9 [4] rfl,_,rfl,rfl,rfl⟩
def S_find:SpecI:=fun args K=>∃(fs:List Fd) (p:List UInt8),args=[.str p,.vp [rLs (Q2 fs)] 0,.vp [rFs fs] 0]∧FsOk fs∧K (.int .i64 (Wb fs p))
theorem Q04[Syms]:Z8 Tryz.prog 45 S_find:=by
 rintro args K ⟨fs,p,rfl,h1,hk⟩
 exact⟨rfl,_,rfl,hk,fnI QC Qz Qe NH QV (Nj fs p h1)⟩
end
section
set_option maxRecDepth 100000
set_option maxHeartbeats 4000000
structure MkOk(fs:List Fd)(ps ns:List Int):Prop where
 len:fs.length≤14
 par:ps.length=fs.length
 kind:∀i,i<fs.length→0≤(fs.getD i default).kind∧(fs.getD i default).kind≤4
 rep:∀i,i<fs.length→0≤(fs.getD i default).rep∧(fs.getD i default).rep≤2
 raw:ns.length≤9223372036854775807
 int:∀k,-9223372036854775808≤ns.getD k 0∧ns.getD k 0≤9223372036854775807
def Ib(F:Nat):SpecT:=fun args H nx Post=>∃fs ps ns i a,args=[.ptr 0 0 0,.int .i64 (i:Nat)]∧H=[(0,Zj fs ps ns a)]∧nx=1∧MkOk fs ps ns∧i<fs.length∧fs.length-i≤F∧a≤ns.length∧Post (.agg (encT (ZQ fs ps ns F i a).1)) [(0,Zj fs ps ns (ZQ fs ps ns F i a).2)] 2
abbrev cV(F:Nat):CallT:=Qu 41 (GT CT) (Qu 42 (FW G_within8) (Qu 17 (GT (Ib F)) Ql))
noncomputable def OU:Nat→Nat→Pl:=YK [(17,1)] (Z1 plt)
theorem HA[Syms]{N k n nx:Nat}{e:Env}{H:Heap}{row' row:List AVal}{fs:List Fd}{ps ns:List Int}{b:Nat}{rs:List ResultVar}{Post:AVal→Heap→Nat→Prop}(hk:e.get k= .ptr n 0 0)(H0:H.get 0=Zj fs ps ns b)(Hn:H.get n=some (.cells [row'] false))(hrow:Ke row' row)(hf:∀x∈row,x.flat=true)
 (hn:V2 1 nx [0,n]=true) (hrs:ZH (QP tys) ⟨[(k,.ptr 1 0 0)],[(0,Zj fs ps ns b),(1,some (.cells [row] false))],2⟩ rs=some (.agg row)) (hP:Post (.agg row) [(0,Zj fs ps ns b)] 2):
 ∃s3,Reb 1 N ⟨e,H,nx⟩ s3∧ ∃v,ZH (QP tys) s3 rs=some v∧D1 Post v s3.heap s3.nx:=
 ⟨⟨[(k,.ptr 1 0 0)],[(0,Zj fs ps ns b),(1,some (.cells [row] false))],2⟩,Q0 [0,n] hn ⟨by rw[hk];exact .refl _,trivial⟩ ⟨⟨Nat.succ_pos _,_,H0,.refl _⟩,⟨Nat.lt_succ_self _,_,Hn,C2 hrow hf⟩,trivial⟩,_,hrs,_,C8,hP⟩
theorem E0(n:Int)(s:List UInt8)(rows:List (List AVal)):∀x∈[AVal.int .i64 n,.str s,.vs 1 rows],x.flat=true:=fun x hx=>by simp at hx;rcases hx with rfl|rfl|rfl<;>rfl
theorem O4{a b:List UInt8}(h:a=b):WkV (.str a) (.str b):=h▸ .refl _
abbrev tr0:List AVal:=[.int .i64 0,.str [],.nils]
def vS0(fs:List Fd)(ps ns:List Int)(i b:Nat)(x:Int):St:=⟨[(0,.ptr 0 0 0),(1,.int .i64 i),(4,.ptr 1 0 0),(5,.int .i64 x)],[(0,Zj fs ps ns b),(1,some (.cells [tr0] false))],2⟩
theorem B8[Syms]{Post:AVal→Heap→Nat→Prop}(F:Nat)(fs:List Fd)(ps ns:List Int)(i a:Nat)(hm:MkOk fs ps ns)(hi:i<fs.length)(ha:a≤ns.length)(hk:(fs.getD i default).kind≠0)
 (hP:Post (.agg (encT (Mg (fs.getD i default).kind (Zd ns a).1))) [(0,Zj fs ps ns (Zd ns a).2)] 2):
 fnT Ql (cV F) (QW fns) (QP tys) OU 100 17 [.ptr 0 0 0,.int .i64 i] [(0,Zj fs ps ns a)] 1 (D1 Post):=by
 obtain⟨hk0,hk4⟩:=hm.kind i hi
 have hraw:=hm.raw
 repeat' first|refine And.intro ?_ ?_|(intro h;try first|exact dz|replace h:=cv)
 all_goals try exact cz
 refine⟨[0],[.ptr 0 0 0],[(0,Zj fs ps ns a)],rfl,⟨.refl _,trivial⟩,⟨⟨by decide,_,rfl,.refl _⟩,trivial⟩,fs,ps,ns,a,rfl,rfl,rfl,hraw,ha,?_⟩
 have hx:-9223372036854775808≤(Zd ns a).1∧(Zd ns a).1≤9223372036854775807:=by
  unfold Zd
  split
  ·exact hm.int a
  ·exact⟨by show(-9223372036854775808:Int)≤0;decide,by show(0:Int)≤_;decide⟩
 generalize Zd ns a=q at *
 obtain⟨x,b⟩:=q
 dsimp only at hP hx
 refine⟨vS0 fs ps ns i b x,Q0 [0,1] (by exact rfl) ⟨.refl _,.refl _,.refl _,.refl _,trivial⟩ ⟨⟨by decide,_,rfl,.refl _⟩,⟨by decide,_,rfl,.refl _⟩,trivial⟩,?_⟩
 repeat' first|refine And.intro ?_ ?_|(intro h;try first|exact dz|replace h:=cv)
 all_goals try exact cz
 ·refine⟨x,2,rfl,⟨by decide,by decide⟩,?_⟩
  rw[Mg,if_pos ‹_›,QL]at hP
  repeat' first|refine And.intro ?_ ?_|(intro h;try first|exact dz|replace h:=cv)
  all_goals try exact cz
  exact HA (k:=4) (n:=1) (row:=[.int .i64 (wi x 2),.str [],.vs 1 []]) rfl rfl rfl ⟨.refl _,.refl _,.zero _ _ rfl,trivial⟩ (E0 _ _ _) (by exact rfl) rfl hP
 ·refine⟨x,300,rfl,⟨by decide,by decide⟩,?_⟩
  rw[Mg,if_neg ‹_›,if_pos ‹_›,QL]at hP
  obtain⟨w1,w2⟩:=Zs (a:=x) (n:=300) (by decide)
  have hw:wr .i64 (wi x 300-100)=wi x 300-100:=O3 (by omega)
  repeat' first|refine And.intro ?_ ?_|(intro h;try first|exact dz|replace h:=cv)
  all_goals try exact cz
  exact HA (k:=4) (n:=1) (row:=[.int .i64 (wi x 300-100),.str [],.vs 1 []]) rfl rfl rfl ⟨Qa (by first|rfl|exact hw),.refl _,.zero _ _ rfl,trivial⟩ (E0 _ _ _) (by exact rfl) rfl hP
 ·rw[Mg,if_neg ‹_›,if_neg ‹_›,if_pos ‹_›,QL]at hP
  exact HA (k:=4) (n:=1) (row:=[.int .i64 x,.str [],.vs 1 []]) rfl rfl rfl ⟨.refl _,.refl _,.zero _ _ rfl,trivial⟩ (E0 _ _ _) (by exact rfl) rfl hP
 ·refine⟨x,9,rfl,⟨by decide,by decide⟩,?_⟩
  obtain⟨w1,w2⟩:=Zs (a:=x) (n:=9) (by decide)
  rw[Mg,if_neg ‹_›,if_neg ‹_›,if_neg ‹_›,QL]at hP
  repeat' first|refine And.intro ?_ ?_|(intro h;try first|exact dz|replace h:=cv)
  all_goals try exact cz
  ·show(wi x 9).toNat≤12
   omega
  ·exact HA (k:=4) (n:=1) (row:=[.int .i64 0,.str (OK.take (wi x 9).toNat),.vs 1 []]) rfl rfl rfl ⟨.refl _,O4 rfl,.zero _ _ rfl,trivial⟩ (E0 _ _ _) (by exact rfl) rfl hP
def encKd(l:List Tr):List AVal:=[.vs 3 (l.map encT)]
def XR{α:Type}(n sz:Nat)(l:List α):AVal:=match l with
 |[]=>.nils
 |a::t=>.slice n 0 (a::t).length sz none
def Xn{α:Type}(enc:α→List AVal)(l:List α):Option Blk:=match l with
 |[]=>none
 |a::t=>some (.cells ((a::t).map enc) false)
theorem M9{α:Type}(n sz:Nat){l:List α}(h:0<l.length):XR n sz l= .slice n 0 l.length sz none:=by
 cases l with
 |nil=>cases h
 |cons a t=>rfl
theorem ZZ{α:Type}(enc:α→List AVal){l:List α}(h:0<l.length):Xn enc l=some (.cells (l.map enc) false):=by
 cases l with
 |nil=>cases h
 |cons a t=>rfl
theorem ZO{α:Type}{ρ:Nat→Nat}{n sz:Nat}{l:List α}(h:ρ n=n):WkV (XR n sz l) ((XR n sz l).ren ρ):=by
 cases l with
 |nil=>exact .refl _
 |cons a t=>simp only[XR,AVal.ren,h];exact .refl _
theorem XJ{α:Type}{ρ:Nat→Nat}{n K sz len:Nat}{cap:Option Nat}{l:List α}(h:ρ n=K)(hl:len=l.length)(h0:0<l.length):WkV (.slice K 0 len sz cap) ((XR n sz l).ren ρ):=by
 rw[M9 n sz h0]
 subst hl h
 exact .cap _ _ _ _ _
theorem BB{ρ:Nat→Nat}{n m:Nat}{H t:Heap}{ob:Option Blk}(hb:∀b,ob=some b→m<n∧ ∃b0,H.get (ρ m)=some b0∧WkB b0 (b.ren ρ))(ht:Xb ρ n H t):Xb ρ n H ((m,ob)::t):=by
 cases ob with
 |none=>exact ht
 |some b=>exact⟨hb b rfl,ht⟩
theorem Ow{α:Type}{ρ:Nat→Nat}{n m:Nat}{H t:Heap}{enc:α→List AVal}{l:List α}(hf:Qg (l.map enc))(hm:m<n)(h:H.get (ρ m)=Xn enc l)(ht:Xb ρ n H t):Xb ρ n H ((m,Xn enc l)::t):=by
 refine BB (fun b hb=>⟨hm,b,h.trans hb,?_⟩) ht
 cases l with
 |nil=>cases hb
 |cons a q=>cases hb;exact Qo hf
theorem Yj{α:Type}{ρ:Nat→Nat}{n m:Nat}{H t:Heap}{enc:α→List AVal}{l:List α}{rows:List (List AVal)}(hf:Qg (l.map enc))(hm:m<n)(h:H.get (ρ m)=some (.cells rows false))(hr:rows=l.map enc)(h0:0<l.length)(ht:Xb ρ n H t):Xb ρ n H ((m,Xn enc l)::t):=by
 subst hr
 rw[ZZ enc h0]
 exact⟨⟨hm,_,h,Qo hf⟩,ht⟩
theorem Yh[Syms]{na N:Nat}{e:Env}{H:Heap}{nx nx':Nat}(h:nx≤nx'):Reb na N ⟨e,H,nx⟩ ⟨e,H,nx'⟩:=
 ⟨fun x=>Nat.le_trans x h,fun ι a w hS=>⟨ι,⟨hS.defers,hS.size,hS.env,hS.heap,fun n L hn=>⟨Nat.lt_of_lt_of_le (hS.bound n L hn).1 h,(hS.bound n L hn).2⟩⟩,.refl ..⟩⟩
theorem fKd(l:List (List Tr)):Qg (l.map encKd):=X1 (fun a x hx=>by simp[encKd]at hx;subst hx;rfl) l
theorem fTr(l:List Tr):Qg (l.map encT):=X1 (fun a x hx=>by obtain⟨ks,n,s⟩:=a;rw[QL]at hx;exact E0 _ _ _ x hx) l
theorem QN[Syms]{N nx:Nat}{e e3:Env}{H rest:Heap}{fs:List Fd}{ps ns:List Int}{b:Nat}{ks:List (List Tr)}{row:List AVal}(q:List Nat)(hl:q.length=5)(h0:q.getD 0 0=0)(h1:q.getD 1 0=1)(h2:q.getD 2 0=2)(h3:q.getD 3 0=3)(hn:V2 1 nx q=true)(he:GE (rho q nx) e e3)
 (H0:H.get 0=Zj fs ps ns b) (H1:H.get 1=some (.cells [tr0] false)) (H2:H.get 2=some (.cells [row] false)) (hrow:∀ρ:Nat→Nat,ρ 3=3→Ke row (AVal.renL ρ [.int .i64 0,.str [],XR 3 1 ks])) (H3:H.get 3=Xn encKd ks) (hr:Xb (rho q nx) 5 H rest):
 Reb 1 N ⟨e,H,nx⟩ ⟨e3,(0,Zj fs ps ns b)::(1,some (.cells [tr0] false))::(2,some (.cells [[.int .i64 0,.str [],XR 3 1 ks]] false))::(3,Xn encKd ks)::rest,5⟩:=by
 have r0:rho q nx 0=0:=by rw[XN (by omega)];exact h0
 have r1:rho q nx 1=1:=by rw[XN (by omega)];exact h1
 have r2:rho q nx 2=2:=by rw[XN (by omega)];exact h2
 have r3:rho q nx 3=3:=by rw[XN (by omega)];exact h3
 have:=Q0 (na:=1) (N:=N) (s:=⟨e,H,nx⟩) (e3:=e3) (H3:=(0,Zj fs ps ns b)::(1,some (.cells [tr0] false))::(2,some (.cells [[.int .i64 0,.str [],XR 3 1 ks]] false))::(3,Xn encKd ks)::rest) q hn he
  ⟨⟨by omega,_,(by show H.get (rho q nx 0)=_;rw[r0];exact H0),.refl _⟩,⟨by omega,_,(by show H.get (rho q nx 1)=_;rw[r1];exact H1),.refl _⟩,⟨by omega,_,(by show H.get (rho q nx 2)=_;rw[r2];exact H2),ZP (hrow _ r3)⟩,Ow (fKd ks) (by omega) (by show H.get (rho q nx 3)=_;rw[r3];exact H3) (by rw[hl];exact hr)⟩
 rw[hl]at this
 exact this
theorem Q06[Syms]{N:Nat}(fs:List Fd)(ps ns:List Int)(b:Nat)(k0:List Tr)(kt:List (List Tr)):Reb 1 N ⟨[(4,.ptr 1 0 0)],[(0,Zj fs ps ns b),(1,some (.cells [[.int .i64 0,.str [],.slice 2 0 (k0::kt).length 1 none]] false)),(2,some (.cells ((k0::kt).map encKd) false))],3⟩ ⟨[(4,.ptr 1 0 0)],[(0,Zj fs ps ns b),(1,some (.cells [[.int .i64 0,.str [],.vs 1 ((k0::kt).map encKd)]] false))],2⟩:=by
 have hcut:(((k0::kt).map encKd).drop 0).take (k0::kt).length=(k0::kt).map encKd:=by rw[List.drop_zero,List.take_of_length_le (by simp)]
 have hs:FzV 2 ((k0::kt).map encKd) (.slice 2 0 (k0::kt).length 1 none) (.vs 1 ((k0::kt).map encKd)):=by
  have:=FzV.sl (n:=2) (rows:=(k0::kt).map encKd) 0 (k0::kt).length 1 none (by simp) (by simp)
  rwa [hcut]at this
 refine Reb.trans (s':=⟨[(4,.ptr 1 0 0)],[(0,Zj fs ps ns b),(1,some (.cells [[.int .i64 0,.str [],.vs 1 ((k0::kt).map encKd)]] false))],3⟩) ?_ (Q0 [0,1] (by exact rfl) ⟨.refl _,trivial⟩ ⟨⟨by decide,_,rfl,.refl _⟩,⟨by decide,_,rfl,.refl _⟩,trivial⟩)
 refine Z2 (n:=2) (rows:=(k0::kt).map encKd) rfl (fKd _) ⟨.same _,trivial⟩ ?_
 refine⟨⟨by decide,_,rfl,.same _⟩,⟨by decide,_,rfl,.cells [[.int .i64 0,.str [],.slice 2 0 (k0::kt).length 1 none]] [[.int .i64 0,.str [],.vs 1 ((k0::kt).map encKd)]] false rfl (fun j r r' h h'=>?_)⟩,trivial⟩
 cases j with
 |zero=>
  cases h;cases h'
  exact⟨.same _,.same _,hs,trivial⟩
 |succ j=>simp at h
def v8L(fs:List Fd)(ps ns:List Int)(i b:Nat)(j:Nat)(ks:List (List Tr)):St:=⟨[(0,.ptr 0 0 0),(1,.int .i64 i),(4,.ptr 1 0 0),(6,.ptr 2 0 0),(7,.int .i64 j)],[(0,Zj fs ps ns b),(1,some (.cells [tr0] false)),(2,some (.cells [[.int .i64 0,.str [],XR 3 1 ks]] false)),(3,Xn encKd ks)],5⟩
def v8K(fs:List Fd)(ps ns:List Int)(i b:Nat)(j:Nat)(ks:List (List Tr))(k:Nat):St:=⟨[(0,.ptr 0 0 0),(1,.int .i64 i),(4,.ptr 1 0 0),(6,.ptr 2 0 0),(7,.int .i64 j),(8,.int .i64 k),(9,.nils)],[(0,Zj fs ps ns b),(1,some (.cells [tr0] false)),(2,some (.cells [[.int .i64 0,.str [],XR 3 1 ks]] false)),(3,Xn encKd ks)],5⟩
def v8I(fs:List Fd)(ps ns:List Int)(i b:Nat)(j:Nat)(ks:List (List Tr))(k n:Nat)(l:List Tr):St:=⟨[(0,.ptr 0 0 0),(1,.int .i64 i),(4,.ptr 1 0 0),(6,.ptr 2 0 0),(7,.int .i64 j),(8,.int .i64 k),(9,XR 4 3 l),(10,.int .i64 n)],[(0,Zj fs ps ns b),(1,some (.cells [tr0] false)),(2,some (.cells [[.int .i64 0,.str [],XR 3 1 ks]] false)),(3,Xn encKd ks),(4,Xn encT l)],5⟩
theorem gr8(l:List Tr)(tk:List (List Tr))(tn:Int)(ts:List UInt8):List.take l.length (List.drop 0 (l.map encT))++[[.int .i64 tn,.str ts,.vs 1 (tk.map fun x=>[.vs 3 (x.map encT)])]]=(l++[Tr.mk tk tn ts]).map encT:=by
 rw[List.drop_zero,List.take_of_length_le (by simp),List.map_append,List.map_cons,List.map_nil,QL]
theorem ZU(nx:Nat):rho [0,1,2,3,8] nx 4=8:=XN (by decide)
theorem Dy{n:Nat}{rows:List (List AVal)}:∀r:List AVal,FzL n rows r r
 |[]=>trivial
 |a::l=>⟨.same _,Dy l⟩
theorem KA[Syms]{N:Nat}(fs:List Fd)(ps ns:List Int)(i b j:Nat)(ks:List (List Tr))(l0:Tr)(lt:List Tr):Reb 1 N ⟨[(0,.ptr 0 0 0),(1,.int .i64 i),(4,.ptr 1 0 0),(6,.ptr 2 0 0),(7,.int .i64 j)],[(0,Zj fs ps ns b),(1,some (.cells [tr0] false)),(2,some (.cells [[.int .i64 0,.str [],.slice 3 0 (ks.length+1) 1 none]] false)),(3,some (.cells (ks.map encKd++[[.slice 4 0 (l0::lt).length 3 none]]) false)),(4,some (.cells ((l0::lt).map encT) false))],5⟩ (v8L fs ps ns i b j (ks++[l0::lt])):=by
 have e1:XR 3 1 (ks++[l0::lt])= .slice 3 0 (ks.length+1) 1 none:=by rw[M9 3 1 (by simp),List.length_append];rfl
 have e2:Xn encKd (ks++[l0::lt])=some (.cells ((ks++[l0::lt]).map encKd) false):=ZZ encKd (by simp)
 have hcut:(((l0::lt).map encT).drop 0).take (l0::lt).length=(l0::lt).map encT:=by rw[List.drop_zero,List.take_of_length_le (by simp)]
 have hs:FzV 4 ((l0::lt).map encT) (.slice 4 0 (l0::lt).length 3 none) (.vs 3 ((l0::lt).map encT)):=by
  have:=FzV.sl (n:=4) (rows:=(l0::lt).map encT) 0 (l0::lt).length 3 none (by simp) (by simp)
  rwa [hcut]at this
 unfold v8L
 rw[e1,e2]
 refine Z2 (n:=4) (rows:=(l0::lt).map encT) rfl (fTr _) ⟨.same _,.same _,.same _,.same _,.same _,trivial⟩ ?_
 refine⟨⟨by decide,_,rfl,.same _⟩,⟨by decide,_,rfl,.same _⟩,⟨by decide,_,rfl,.same _⟩,⟨by decide,_,rfl,.cells _ _ false (by simp) (fun k r r' h h'=>?_)⟩,trivial⟩
 rw[List.map_append]at h'
 by_cases hk:k<ks.length
 ·rw[List.getElem?_append_left (by simpa using hk)]at h h'
  rw[h]at h'
  cases h'
  exact Dy r
 ·rw[List.getElem?_append_right (by simp;omega)]at h h'
  rw[List.length_map]at h h'
  cases hq:k-ks.length with
  |zero=>
   rw[hq]at h h'
   cases h;cases h'
   exact⟨hs,trivial⟩
  |succ x=>rw[hq]at h;simp at h
theorem Ky(ρ:Nat→Nat)(h4:ρ 4=4)(ks:List (List Tr))(n:Nat):(Blk.cells (ks.map encKd++[[.slice 4 0 n 3 none]]) false).ren ρ= .cells (ks.map encKd++[[.slice 4 0 n 3 none]]) false:=by
 have h1:(Blk.cells (ks.map encKd) false).ren ρ= .cells (ks.map encKd) false:=K2 ρ (fKd ks)
 simp only[Blk.ren,Blk.cells.injEq,and_true]at h1 ⊢
 rw[List.map_append,h1]
 simp[AVal.renL,AVal.ren,h4]
theorem Xg(ks:List (List Tr))(r:List AVal):List.take ks.length (List.drop 0 (ks.map encKd))++[r]=ks.map encKd++[r]:=by rw[List.drop_zero,List.take_of_length_le (by simp)]
theorem GP:∀r:List AVal,Ke r r
 |[]=>trivial
 |a::l=>⟨.refl _,GP l⟩
theorem Kz(ρ:Nat→Nat)(ks:List (List Tr)):WkB (.cells (ks.map encKd++[[.nils]]) false) ((Blk.cells ((ks++[[]]).map encKd) false).ren ρ):=by
 rw[K2 ρ (fKd _),List.map_append]
 refine .each _ _ _ (by simp) (fun k r r' h h'=>?_)
 have hw:Ke r r':=by
  by_cases hk:k<ks.length
  ·rw[List.getElem?_append_left (by simpa using hk)]at h h'
   rw[h]at h'
   cases h'
   exact GP r
  ·rw[List.getElem?_append_right (by simp;omega)]at h h'
   rw[List.length_map]at h h'
   cases hq:k-ks.length with
   |zero=>
    rw[hq]at h h'
    cases h;cases h'
    exact⟨.zero _ _ rfl,trivial⟩
   |succ x=>rw[hq]at h;simp at h
 exact⟨hw.at.1.symm,hw.at.2⟩
theorem XK(nx:Nat):rho [0,1,2,6,4] nx 3=6:=XN (by decide)
theorem GZ(nx:Nat):rho [0,1,2,6,4] nx 4=4:=XN (by decide)
noncomputable def OT:Nat→Nat→Pl:=YK [(17,1),(17,21),(17,26)] (Z1 plt)
theorem FU[Syms]{Post:AVal→Heap→Nat→Prop}(F:Nat)(fs:List Fd)(ps ns:List Int)(i a:Nat)(hm:MkOk fs ps ns)(hi:i<fs.length)(hF:fs.length-i≤F+1)(ha:a≤ns.length)(hk:(fs.getD i default).kind=0)
 (hP:Post (.agg (encT (ZQ fs ps ns (F+1) i a).1)) [(0,Zj fs ps ns (ZQ fs ps ns (F+1) i a).2)] 2):
 fnT Ql (cV F) (QW fns) (QP tys) OT 100 17 [.ptr 0 0 0,.int .i64 i] [(0,Zj fs ps ns a)] 1 (D1 Post):=by
 have hraw:=hm.raw
 have hlen:=hm.len
 rw[ZQ,if_neg (fun h=>h hk)]at hP
 repeat' first|refine And.intro ?_ ?_|(intro h;try first|exact dz|replace h:=cv)
 all_goals try exact cz
 refine⟨[0],[.ptr 0 0 0],[(0,Zj fs ps ns a)],rfl,⟨.refl _,trivial⟩,⟨⟨by decide,_,rfl,.refl _⟩,trivial⟩,fs,ps,ns,a,rfl,rfl,rfl,hraw,ha,?_⟩
 have hb:=Vg ns ha
 generalize Zd ns a=q at *
 obtain⟨x,b⟩:=q
 dsimp only at hP hb
 refine⟨vS0 fs ps ns i b x,Q0 [0,1] (by exact rfl) ⟨.refl _,.refl _,.refl _,.refl _,trivial⟩ ⟨⟨by decide,_,rfl,.refl _⟩,⟨by decide,_,rfl,.refl _⟩,trivial⟩,?_⟩
 generalize hC:UL fs ps ns i (ZQ fs ps ns F) (fs.length-(i+1)) (i+1) b []=C at *
 repeat' first|refine And.intro ?_ ?_|(intro h;try first|exact dz|replace h:=cv)
 all_goals try exact cz
 refine⟨fun m s=>∃(j b:Nat) (ks:List (List Tr)),(i<j∧j≤fs.length∧m=fs.length-j∧b≤ns.length∧UL fs ps ns i (ZQ fs ps ns F) (fs.length-j) j b ks=C∧ks.length≤j)∧s=v8L fs ps ns i b j ks,⟨_,v8L fs ps ns i b (i+1) [],(Yh (nx':=5) (by omega)).trans (Q0 [0,1,2,3,4] (by exact rfl) ⟨.refl _,.refl _,.refl _,.refl _,Qa (by first|rfl|omega),trivial⟩ ⟨⟨by decide,_,rfl,.refl _⟩,⟨by decide,_,rfl,.refl _⟩,⟨by decide,_,rfl,.refl _⟩,trivial⟩),i+1,b,[],⟨by omega,by omega,rfl,hb,hC,Nat.zero_le _⟩,rfl⟩,?_⟩
 clear hb hC
 rintro m s ⟨j,b,ks,⟨hij,hj,rfl,hb,hC,hkl⟩,rfl⟩
 by_cases h1:j<fs.length
 ·have hc:fs.length-j=(fs.length-(j+1))+1:=by omega
  rw[hc,UL]at hC
  have hj':(j:Int)<(ps.length:Int):=by rw[hm.par];omega
  by_cases h2:ps.getD j 0=i
  ·rw[if_pos h2]at hC
   cases ks with
   |nil=>
    repeat' first|refine And.intro ?_ ?_|(intro h;try first|exact dz|replace h:=cv)
    all_goals try exact cz
    ·refine⟨[0],[.ptr 0 0 0],[(0,Zj fs ps ns b)],rfl,⟨.refl _,trivial⟩,⟨⟨by decide,_,rfl,.refl _⟩,trivial⟩,fs,ps,ns,b,rfl,rfl,rfl,hraw,hb,?_⟩
     have hb':=Vg ns hb
     rw[show Fr ns (fs.getD j default) b=((wi (Zd ns b).1 2).toNat,(Zd ns b).2) from if_pos ‹_›]at hC
     generalize Zd ns b=q at *
     obtain⟨x,b'⟩:=q
     dsimp only at hC hb'
     obtain⟨w1,w2⟩:=Zs (a:=x) (n:=2) (by decide)
     obtain⟨k,hk2⟩:∃k:Nat,wi x 2=k:=⟨(wi x 2).toNat,by omega⟩
     rw[hk2,Int.toNat_natCast]at hC
     have hk3:k≤3:=by omega
     refine⟨x,2,rfl,⟨by decide,by decide⟩,?_⟩
     rw[hk2]
     repeat' first|refine And.intro ?_ ?_|(intro h;try first|exact dz|replace h:=cv)
     all_goals try exact cz
     refine⟨v8K fs ps ns i b' j [] k,QN [0,1,2,3,4] rfl rfl rfl rfl rfl (by exact rfl) ⟨.refl _,.refl _,.refl _,.refl _,.refl _,Qa (by first|rfl|omega),.refl _,trivial⟩ rfl rfl rfl (fun ρ hρ=>⟨.refl _,.refl _,ZO hρ,trivial⟩) rfl trivial,?_⟩
     generalize hD:XO (ZQ fs ps ns F j) k b' []=D at *
     repeat' first|refine And.intro ?_ ?_|(intro h;try first|exact dz|replace h:=cv)
     all_goals try exact cz
     refine⟨fun m s=>∃(n b1:Nat) (l:List Tr),(n≤k∧m=k-n∧b1≤ns.length∧XO (ZQ fs ps ns F j) (k-n) b1 l=D∧l.length=n)∧s=v8I fs ps ns i b1 j [] k n l,⟨_,v8I fs ps ns i b' j [] k 0 [],QN [0,1,2,3,4] rfl rfl rfl rfl rfl (by exact rfl) ⟨.refl _,.refl _,.refl _,.refl _,.refl _,.refl _,.refl _,.refl _,trivial⟩ rfl rfl rfl (fun ρ hρ=>⟨.refl _,.refl _,ZO hρ,trivial⟩) rfl trivial,0,b',[],⟨by omega,rfl,hb',hD,rfl⟩,rfl⟩,?_⟩
     clear hb' hD
     rintro m s ⟨n,b1,l,⟨hn,rfl,hb1,hD,hln⟩,rfl⟩
     by_cases hnk:n<k
     ·have hkn:k-n=(k-(n+1))+1:=by omega
      rw[hkn,XO]at hD
      have hb2:=WG fs ps ns F j b1 hb1
      cases l with
      |nil=>
       repeat' first|refine And.intro ?_ ?_|(intro h;try first|exact dz|replace h:=cv)
       all_goals try exact cz
       refine⟨[0],[.ptr 0 0 0,.int .i64 (j:Nat)],[(0,Zj fs ps ns b1)],rfl,⟨.refl _,.refl _,trivial⟩,⟨⟨by decide,_,rfl,.refl _⟩,trivial⟩,fs,ps,ns,j,b1,rfl,rfl,rfl,hm,h1,by omega,hb1,?_⟩
       rcases hq:ZQ fs ps ns F j b1 with⟨⟨tk,tn,ts⟩,b2⟩
       rw[hq]at hD hb2
       dsimp only at hD hb2 ⊢
       rw[QL]
       repeat' first|refine And.intro ?_ ?_|(intro h;try first|exact dz|replace h:=cv)
       all_goals try exact cz
       all_goals(try first|(show(_+1)*48≤_;omega)|(show _+1≤_;omega))
       exact⟨_,v8I fs ps ns i b2 j [] k (n+1) ([]++[Tr.mk tk tn ts]),QN [0,1,2,3,8] rfl rfl rfl rfl rfl (by exact rfl) ⟨.refl _,.refl _,.refl _,.refl _,.refl _,.refl _,XJ (ZU _) (by simp) (by simp),Qa (by first|rfl|omega),trivial⟩ rfl rfl rfl (fun ρ hρ=>⟨.refl _,.refl _,ZO hρ,trivial⟩) rfl (Yj (fTr _) (by decide) (by rw[ZU];exact rfl) (by first|exact gr8 [] tk tn ts|exact gr8 _ tk tn ts) (by simp) trivial),⟨n+1,b2,_,⟨by omega,rfl,hb2,hD,by simp at hln ⊢;omega⟩,rfl⟩,by omega⟩
      |cons l0 lt=>
       repeat' first|refine And.intro ?_ ?_|(intro h;try first|exact dz|replace h:=cv)
       all_goals try exact cz
       refine⟨[0],[.ptr 0 0 0,.int .i64 (j:Nat)],[(0,Zj fs ps ns b1)],rfl,⟨.refl _,.refl _,trivial⟩,⟨⟨by decide,_,rfl,.refl _⟩,trivial⟩,fs,ps,ns,j,b1,rfl,rfl,rfl,hm,h1,by omega,hb1,?_⟩
       rcases hq:ZQ fs ps ns F j b1 with⟨⟨tk,tn,ts⟩,b2⟩
       rw[hq]at hD hb2
       dsimp only at hD hb2 ⊢
       rw[QL]
       repeat' first|refine And.intro ?_ ?_|(intro h;try first|exact dz|replace h:=cv)
       all_goals try exact cz
       all_goals(try first|(show(_+1)*48≤_;omega)|(show _+1≤_;omega))
       exact⟨_,v8I fs ps ns i b2 j [] k (n+1) ((l0::lt)++[Tr.mk tk tn ts]),QN [0,1,2,3,8] rfl rfl rfl rfl rfl (by exact rfl) ⟨.refl _,.refl _,.refl _,.refl _,.refl _,.refl _,XJ (ZU _) (by simp) (by simp),Qa (by first|rfl|omega),trivial⟩ rfl rfl rfl (fun ρ hρ=>⟨.refl _,.refl _,ZO hρ,trivial⟩) rfl (Yj (fTr _) (by decide) (by rw[ZU];exact rfl) (by first|exact gr8 [] tk tn ts|exact gr8 _ tk tn ts) (by simp) trivial),⟨n+1,b2,_,⟨by omega,rfl,hb2,hD,by simp at hln ⊢;omega⟩,rfl⟩,by omega⟩
     ·obtain rfl:n=k:=by omega
      rw[Nat.sub_self,XO]at hD
      subst hD
      dsimp only at hC
      have hjl:[].length≤j:=hkl
      cases l with
      |nil=>
       repeat' first|refine And.intro ?_ ?_|(intro h;try first|exact dz|replace h:=cv)
       all_goals try exact cz
       all_goals(try first|(show(_+1)*24≤_;omega)|(show _+1≤_;omega))
       refine⟨v8L fs ps ns i b1 j ([]++[[]]),Q0 [0,1,2,6,4] (by exact rfl) ⟨.refl _,.refl _,.refl _,.refl _,.refl _,trivial⟩ ⟨⟨by decide,_,rfl,.refl _⟩,⟨by decide,_,rfl,.refl _⟩,⟨by decide,_,rfl,ZP (row:=[.int .i64 0,.str [],XR 3 1 ([]++[[]])]) ⟨.refl _,.refl _,XJ (XK _) (by simp) (by simp),trivial⟩⟩,BB (fun bb hbb=>⟨by decide,.cells ([].map encKd++[[.nils]]) false,by rw[XK];first|exact rfl|exact congrArg (fun z=>some (Blk.cells z false)) (Xg _ _),by rw[ZZ encKd (by simp)]at hbb;cases hbb;exact Kz _ _⟩) trivial⟩,?_⟩
       repeat' first|refine And.intro ?_ ?_|(intro h;try first|exact dz|replace h:=cv)
       all_goals try exact cz
       exact⟨_,v8L fs ps ns i b1 (j+1) ([]++[[]]),QN [0,1,2,3,4] rfl rfl rfl rfl rfl (by exact rfl) ⟨.refl _,.refl _,.refl _,.refl _,Qa (by first|rfl|omega),trivial⟩ rfl rfl rfl (fun ρ hρ=>⟨.refl _,.refl _,ZO hρ,trivial⟩) rfl trivial,⟨j+1,b1,_,⟨by omega,by omega,rfl,hb1,hC,by simp only[List.length_append,List.length_cons,List.length_nil]at hjl ⊢;omega⟩,rfl⟩,by omega⟩
      |cons l0 lt=>
       repeat' first|refine And.intro ?_ ?_|(intro h;try first|exact dz|replace h:=cv)
       all_goals try exact cz
       all_goals(try first|(show(_+1)*24≤_;omega)|(show _+1≤_;omega))
       refine⟨v8L fs ps ns i b1 j ([]++[(l0::lt)]),Reb.trans (by exact Q0 [0,1,2,6,4] (by exact rfl) ⟨.refl _,.refl _,.refl _,.refl _,.refl _,trivial⟩ ⟨⟨by decide,_,rfl,.refl _⟩,⟨by decide,_,rfl,.refl _⟩,⟨by decide,_,rfl,ZP (row:=[.int .i64 0,.str [],.slice 3 0 ([].length+1) 1 none]) ⟨.refl _,.refl _,.refl _,trivial⟩⟩,⟨by decide,.cells ([].map encKd++[[.slice 4 0 (l0::lt).length 3 none]]) false,(by rw[XK];first|exact rfl|exact congrArg (fun z=>some (Blk.cells z false)) (Xg _ _)),by rw[Ky _ (GZ _)];exact .refl _⟩,⟨by decide,_,rfl,Qo (fTr _)⟩,trivial⟩) (KA fs ps ns i b1 j [] l0 lt),?_⟩
       repeat' first|refine And.intro ?_ ?_|(intro h;try first|exact dz|replace h:=cv)
       all_goals try exact cz
       exact⟨_,v8L fs ps ns i b1 (j+1) ([]++[(l0::lt)]),QN [0,1,2,3,4] rfl rfl rfl rfl rfl (by exact rfl) ⟨.refl _,.refl _,.refl _,.refl _,Qa (by first|rfl|omega),trivial⟩ rfl rfl rfl (fun ρ hρ=>⟨.refl _,.refl _,ZO hρ,trivial⟩) rfl trivial,⟨j+1,b1,_,⟨by omega,by omega,rfl,hb1,hC,by simp only[List.length_append,List.length_cons,List.length_nil]at hjl ⊢;omega⟩,rfl⟩,by omega⟩
    ·refine⟨[0],[.ptr 0 0 0],[(0,Zj fs ps ns b)],rfl,⟨.refl _,trivial⟩,⟨⟨by decide,_,rfl,.refl _⟩,trivial⟩,fs,ps,ns,b,rfl,rfl,rfl,hraw,hb,?_⟩
     have hb':=Vg ns hb
     rw[show Fr ns (fs.getD j default) b=((wi (Zd ns b).1 4).toNat,(Zd ns b).2) from(if_neg ‹_›).trans (if_pos ‹_›)]at hC
     generalize Zd ns b=q at *
     obtain⟨x,b'⟩:=q
     dsimp only at hC hb'
     obtain⟨w1,w2⟩:=Zs (a:=x) (n:=4) (by decide)
     obtain⟨k,hk2⟩:∃k:Nat,wi x 4=k:=⟨(wi x 4).toNat,by omega⟩
     rw[hk2,Int.toNat_natCast]at hC
     have hk3:k≤3:=by omega
     refine⟨x,4,rfl,⟨by decide,by decide⟩,?_⟩
     rw[hk2]
     repeat' first|refine And.intro ?_ ?_|(intro h;try first|exact dz|replace h:=cv)
     all_goals try exact cz
     refine⟨v8K fs ps ns i b' j [] k,QN [0,1,2,3,4] rfl rfl rfl rfl rfl (by exact rfl) ⟨.refl _,.refl _,.refl _,.refl _,.refl _,Qa (by first|rfl|omega),.refl _,trivial⟩ rfl rfl rfl (fun ρ hρ=>⟨.refl _,.refl _,ZO hρ,trivial⟩) rfl trivial,?_⟩
     generalize hD:XO (ZQ fs ps ns F j) k b' []=D at *
     repeat' first|refine And.intro ?_ ?_|(intro h;try first|exact dz|replace h:=cv)
     all_goals try exact cz
     refine⟨fun m s=>∃(n b1:Nat) (l:List Tr),(n≤k∧m=k-n∧b1≤ns.length∧XO (ZQ fs ps ns F j) (k-n) b1 l=D∧l.length=n)∧s=v8I fs ps ns i b1 j [] k n l,⟨_,v8I fs ps ns i b' j [] k 0 [],QN [0,1,2,3,4] rfl rfl rfl rfl rfl (by exact rfl) ⟨.refl _,.refl _,.refl _,.refl _,.refl _,.refl _,.refl _,.refl _,trivial⟩ rfl rfl rfl (fun ρ hρ=>⟨.refl _,.refl _,ZO hρ,trivial⟩) rfl trivial,0,b',[],⟨by omega,rfl,hb',hD,rfl⟩,rfl⟩,?_⟩
     clear hb' hD
     rintro m s ⟨n,b1,l,⟨hn,rfl,hb1,hD,hln⟩,rfl⟩
     by_cases hnk:n<k
     ·have hkn:k-n=(k-(n+1))+1:=by omega
      rw[hkn,XO]at hD
      have hb2:=WG fs ps ns F j b1 hb1
      cases l with
      |nil=>
       repeat' first|refine And.intro ?_ ?_|(intro h;try first|exact dz|replace h:=cv)
       all_goals try exact cz
       refine⟨[0],[.ptr 0 0 0,.int .i64 (j:Nat)],[(0,Zj fs ps ns b1)],rfl,⟨.refl _,.refl _,trivial⟩,⟨⟨by decide,_,rfl,.refl _⟩,trivial⟩,fs,ps,ns,j,b1,rfl,rfl,rfl,hm,h1,by omega,hb1,?_⟩
       rcases hq:ZQ fs ps ns F j b1 with⟨⟨tk,tn,ts⟩,b2⟩
       rw[hq]at hD hb2
       dsimp only at hD hb2 ⊢
       rw[QL]
       repeat' first|refine And.intro ?_ ?_|(intro h;try first|exact dz|replace h:=cv)
       all_goals try exact cz
       all_goals(try first|(show(_+1)*48≤_;omega)|(show _+1≤_;omega))
       exact⟨_,v8I fs ps ns i b2 j [] k (n+1) ([]++[Tr.mk tk tn ts]),QN [0,1,2,3,8] rfl rfl rfl rfl rfl (by exact rfl) ⟨.refl _,.refl _,.refl _,.refl _,.refl _,.refl _,XJ (ZU _) (by simp) (by simp),Qa (by first|rfl|omega),trivial⟩ rfl rfl rfl (fun ρ hρ=>⟨.refl _,.refl _,ZO hρ,trivial⟩) rfl (Yj (fTr _) (by decide) (by rw[ZU];exact rfl) (by first|exact gr8 [] tk tn ts|exact gr8 _ tk tn ts) (by simp) trivial),⟨n+1,b2,_,⟨by omega,rfl,hb2,hD,by simp at hln ⊢;omega⟩,rfl⟩,by omega⟩
      |cons l0 lt=>
       repeat' first|refine And.intro ?_ ?_|(intro h;try first|exact dz|replace h:=cv)
       all_goals try exact cz
       refine⟨[0],[.ptr 0 0 0,.int .i64 (j:Nat)],[(0,Zj fs ps ns b1)],rfl,⟨.refl _,.refl _,trivial⟩,⟨⟨by decide,_,rfl,.refl _⟩,trivial⟩,fs,ps,ns,j,b1,rfl,rfl,rfl,hm,h1,by omega,hb1,?_⟩
       rcases hq:ZQ fs ps ns F j b1 with⟨⟨tk,tn,ts⟩,b2⟩
       rw[hq]at hD hb2
       dsimp only at hD hb2 ⊢
       rw[QL]
       repeat' first|refine And.intro ?_ ?_|(intro h;try first|exact dz|replace h:=cv)
       all_goals try exact cz
       all_goals(try first|(show(_+1)*48≤_;omega)|(show _+1≤_;omega))
       exact⟨_,v8I fs ps ns i b2 j [] k (n+1) ((l0::lt)++[Tr.mk tk tn ts]),QN [0,1,2,3,8] rfl rfl rfl rfl rfl (by exact rfl) ⟨.refl _,.refl _,.refl _,.refl _,.refl _,.refl _,XJ (ZU _) (by simp) (by simp),Qa (by first|rfl|omega),trivial⟩ rfl rfl rfl (fun ρ hρ=>⟨.refl _,.refl _,ZO hρ,trivial⟩) rfl (Yj (fTr _) (by decide) (by rw[ZU];exact rfl) (by first|exact gr8 [] tk tn ts|exact gr8 _ tk tn ts) (by simp) trivial),⟨n+1,b2,_,⟨by omega,rfl,hb2,hD,by simp at hln ⊢;omega⟩,rfl⟩,by omega⟩
     ·obtain rfl:n=k:=by omega
      rw[Nat.sub_self,XO]at hD
      subst hD
      dsimp only at hC
      have hjl:[].length≤j:=hkl
      cases l with
      |nil=>
       repeat' first|refine And.intro ?_ ?_|(intro h;try first|exact dz|replace h:=cv)
       all_goals try exact cz
       all_goals(try first|(show(_+1)*24≤_;omega)|(show _+1≤_;omega))
       refine⟨v8L fs ps ns i b1 j ([]++[[]]),Q0 [0,1,2,6,4] (by exact rfl) ⟨.refl _,.refl _,.refl _,.refl _,.refl _,trivial⟩ ⟨⟨by decide,_,rfl,.refl _⟩,⟨by decide,_,rfl,.refl _⟩,⟨by decide,_,rfl,ZP (row:=[.int .i64 0,.str [],XR 3 1 ([]++[[]])]) ⟨.refl _,.refl _,XJ (XK _) (by simp) (by simp),trivial⟩⟩,BB (fun bb hbb=>⟨by decide,.cells ([].map encKd++[[.nils]]) false,by rw[XK];first|exact rfl|exact congrArg (fun z=>some (Blk.cells z false)) (Xg _ _),by rw[ZZ encKd (by simp)]at hbb;cases hbb;exact Kz _ _⟩) trivial⟩,?_⟩
       repeat' first|refine And.intro ?_ ?_|(intro h;try first|exact dz|replace h:=cv)
       all_goals try exact cz
       exact⟨_,v8L fs ps ns i b1 (j+1) ([]++[[]]),QN [0,1,2,3,4] rfl rfl rfl rfl rfl (by exact rfl) ⟨.refl _,.refl _,.refl _,.refl _,Qa (by first|rfl|omega),trivial⟩ rfl rfl rfl (fun ρ hρ=>⟨.refl _,.refl _,ZO hρ,trivial⟩) rfl trivial,⟨j+1,b1,_,⟨by omega,by omega,rfl,hb1,hC,by simp only[List.length_append,List.length_cons,List.length_nil]at hjl ⊢;omega⟩,rfl⟩,by omega⟩
      |cons l0 lt=>
       repeat' first|refine And.intro ?_ ?_|(intro h;try first|exact dz|replace h:=cv)
       all_goals try exact cz
       all_goals(try first|(show(_+1)*24≤_;omega)|(show _+1≤_;omega))
       refine⟨v8L fs ps ns i b1 j ([]++[(l0::lt)]),Reb.trans (by exact Q0 [0,1,2,6,4] (by exact rfl) ⟨.refl _,.refl _,.refl _,.refl _,.refl _,trivial⟩ ⟨⟨by decide,_,rfl,.refl _⟩,⟨by decide,_,rfl,.refl _⟩,⟨by decide,_,rfl,ZP (row:=[.int .i64 0,.str [],.slice 3 0 ([].length+1) 1 none]) ⟨.refl _,.refl _,.refl _,trivial⟩⟩,⟨by decide,.cells ([].map encKd++[[.slice 4 0 (l0::lt).length 3 none]]) false,(by rw[XK];first|exact rfl|exact congrArg (fun z=>some (Blk.cells z false)) (Xg _ _)),by rw[Ky _ (GZ _)];exact .refl _⟩,⟨by decide,_,rfl,Qo (fTr _)⟩,trivial⟩) (KA fs ps ns i b1 j [] l0 lt),?_⟩
       repeat' first|refine And.intro ?_ ?_|(intro h;try first|exact dz|replace h:=cv)
       all_goals try exact cz
       exact⟨_,v8L fs ps ns i b1 (j+1) ([]++[(l0::lt)]),QN [0,1,2,3,4] rfl rfl rfl rfl rfl (by exact rfl) ⟨.refl _,.refl _,.refl _,.refl _,Qa (by first|rfl|omega),trivial⟩ rfl rfl rfl (fun ρ hρ=>⟨.refl _,.refl _,ZO hρ,trivial⟩) rfl trivial,⟨j+1,b1,_,⟨by omega,by omega,rfl,hb1,hC,by simp only[List.length_append,List.length_cons,List.length_nil]at hjl ⊢;omega⟩,rfl⟩,by omega⟩
    ·obtain⟨k,hk2⟩:∃k:Nat,k=1:=⟨1,rfl⟩
     rw[show Fr ns (fs.getD j default) b=(k,b) from(if_neg ‹_›).trans ((if_neg ‹_›).trans (by rw[hk2]))]at hC
     have hb':=hb
     obtain⟨b',hbb⟩:∃b',b'=b:=⟨b,rfl⟩
     subst hbb
     have hk3:k≤3:=by omega
     dsimp only at hC
     refine⟨v8K fs ps ns i b' j [] k,QN [0,1,2,3,4] rfl rfl rfl rfl rfl (by exact rfl) ⟨.refl _,.refl _,.refl _,.refl _,.refl _,Qa (by first|rfl|omega),.refl _,trivial⟩ rfl rfl rfl (fun ρ hρ=>⟨.refl _,.refl _,ZO hρ,trivial⟩) rfl trivial,?_⟩
     generalize hD:XO (ZQ fs ps ns F j) k b' []=D at *
     repeat' first|refine And.intro ?_ ?_|(intro h;try first|exact dz|replace h:=cv)
     all_goals try exact cz
     refine⟨fun m s=>∃(n b1:Nat) (l:List Tr),(n≤k∧m=k-n∧b1≤ns.length∧XO (ZQ fs ps ns F j) (k-n) b1 l=D∧l.length=n)∧s=v8I fs ps ns i b1 j [] k n l,⟨_,v8I fs ps ns i b' j [] k 0 [],QN [0,1,2,3,4] rfl rfl rfl rfl rfl (by exact rfl) ⟨.refl _,.refl _,.refl _,.refl _,.refl _,.refl _,.refl _,.refl _,trivial⟩ rfl rfl rfl (fun ρ hρ=>⟨.refl _,.refl _,ZO hρ,trivial⟩) rfl trivial,0,b',[],⟨by omega,rfl,hb',hD,rfl⟩,rfl⟩,?_⟩
     clear hb' hD
     rintro m s ⟨n,b1,l,⟨hn,rfl,hb1,hD,hln⟩,rfl⟩
     by_cases hnk:n<k
     ·have hkn:k-n=(k-(n+1))+1:=by omega
      rw[hkn,XO]at hD
      have hb2:=WG fs ps ns F j b1 hb1
      cases l with
      |nil=>
       repeat' first|refine And.intro ?_ ?_|(intro h;try first|exact dz|replace h:=cv)
       all_goals try exact cz
       refine⟨[0],[.ptr 0 0 0,.int .i64 (j:Nat)],[(0,Zj fs ps ns b1)],rfl,⟨.refl _,.refl _,trivial⟩,⟨⟨by decide,_,rfl,.refl _⟩,trivial⟩,fs,ps,ns,j,b1,rfl,rfl,rfl,hm,h1,by omega,hb1,?_⟩
       rcases hq:ZQ fs ps ns F j b1 with⟨⟨tk,tn,ts⟩,b2⟩
       rw[hq]at hD hb2
       dsimp only at hD hb2 ⊢
       rw[QL]
       repeat' first|refine And.intro ?_ ?_|(intro h;try first|exact dz|replace h:=cv)
       all_goals try exact cz
       all_goals(try first|(show(_+1)*48≤_;omega)|(show _+1≤_;omega))
       exact⟨_,v8I fs ps ns i b2 j [] k (n+1) ([]++[Tr.mk tk tn ts]),QN [0,1,2,3,8] rfl rfl rfl rfl rfl (by exact rfl) ⟨.refl _,.refl _,.refl _,.refl _,.refl _,.refl _,XJ (ZU _) (by simp) (by simp),Qa (by first|rfl|omega),trivial⟩ rfl rfl rfl (fun ρ hρ=>⟨.refl _,.refl _,ZO hρ,trivial⟩) rfl (Yj (fTr _) (by decide) (by rw[ZU];exact rfl) (by first|exact gr8 [] tk tn ts|exact gr8 _ tk tn ts) (by simp) trivial),⟨n+1,b2,_,⟨by omega,rfl,hb2,hD,by simp at hln ⊢;omega⟩,rfl⟩,by omega⟩
      |cons l0 lt=>
       repeat' first|refine And.intro ?_ ?_|(intro h;try first|exact dz|replace h:=cv)
       all_goals try exact cz
       refine⟨[0],[.ptr 0 0 0,.int .i64 (j:Nat)],[(0,Zj fs ps ns b1)],rfl,⟨.refl _,.refl _,trivial⟩,⟨⟨by decide,_,rfl,.refl _⟩,trivial⟩,fs,ps,ns,j,b1,rfl,rfl,rfl,hm,h1,by omega,hb1,?_⟩
       rcases hq:ZQ fs ps ns F j b1 with⟨⟨tk,tn,ts⟩,b2⟩
       rw[hq]at hD hb2
       dsimp only at hD hb2 ⊢
       rw[QL]
       repeat' first|refine And.intro ?_ ?_|(intro h;try first|exact dz|replace h:=cv)
       all_goals try exact cz
       all_goals(try first|(show(_+1)*48≤_;omega)|(show _+1≤_;omega))
       exact⟨_,v8I fs ps ns i b2 j [] k (n+1) ((l0::lt)++[Tr.mk tk tn ts]),QN [0,1,2,3,8] rfl rfl rfl rfl rfl (by exact rfl) ⟨.refl _,.refl _,.refl _,.refl _,.refl _,.refl _,XJ (ZU _) (by simp) (by simp),Qa (by first|rfl|omega),trivial⟩ rfl rfl rfl (fun ρ hρ=>⟨.refl _,.refl _,ZO hρ,trivial⟩) rfl (Yj (fTr _) (by decide) (by rw[ZU];exact rfl) (by first|exact gr8 [] tk tn ts|exact gr8 _ tk tn ts) (by simp) trivial),⟨n+1,b2,_,⟨by omega,rfl,hb2,hD,by simp at hln ⊢;omega⟩,rfl⟩,by omega⟩
     ·obtain rfl:n=k:=by omega
      rw[Nat.sub_self,XO]at hD
      subst hD
      dsimp only at hC
      have hjl:[].length≤j:=hkl
      cases l with
      |nil=>
       repeat' first|refine And.intro ?_ ?_|(intro h;try first|exact dz|replace h:=cv)
       all_goals try exact cz
       all_goals(try first|(show(_+1)*24≤_;omega)|(show _+1≤_;omega))
       refine⟨v8L fs ps ns i b1 j ([]++[[]]),Q0 [0,1,2,6,4] (by exact rfl) ⟨.refl _,.refl _,.refl _,.refl _,.refl _,trivial⟩ ⟨⟨by decide,_,rfl,.refl _⟩,⟨by decide,_,rfl,.refl _⟩,⟨by decide,_,rfl,ZP (row:=[.int .i64 0,.str [],XR 3 1 ([]++[[]])]) ⟨.refl _,.refl _,XJ (XK _) (by simp) (by simp),trivial⟩⟩,BB (fun bb hbb=>⟨by decide,.cells ([].map encKd++[[.nils]]) false,by rw[XK];first|exact rfl|exact congrArg (fun z=>some (Blk.cells z false)) (Xg _ _),by rw[ZZ encKd (by simp)]at hbb;cases hbb;exact Kz _ _⟩) trivial⟩,?_⟩
       repeat' first|refine And.intro ?_ ?_|(intro h;try first|exact dz|replace h:=cv)
       all_goals try exact cz
       exact⟨_,v8L fs ps ns i b1 (j+1) ([]++[[]]),QN [0,1,2,3,4] rfl rfl rfl rfl rfl (by exact rfl) ⟨.refl _,.refl _,.refl _,.refl _,Qa (by first|rfl|omega),trivial⟩ rfl rfl rfl (fun ρ hρ=>⟨.refl _,.refl _,ZO hρ,trivial⟩) rfl trivial,⟨j+1,b1,_,⟨by omega,by omega,rfl,hb1,hC,by simp only[List.length_append,List.length_cons,List.length_nil]at hjl ⊢;omega⟩,rfl⟩,by omega⟩
      |cons l0 lt=>
       repeat' first|refine And.intro ?_ ?_|(intro h;try first|exact dz|replace h:=cv)
       all_goals try exact cz
       all_goals(try first|(show(_+1)*24≤_;omega)|(show _+1≤_;omega))
       refine⟨v8L fs ps ns i b1 j ([]++[(l0::lt)]),Reb.trans (by exact Q0 [0,1,2,6,4] (by exact rfl) ⟨.refl _,.refl _,.refl _,.refl _,.refl _,trivial⟩ ⟨⟨by decide,_,rfl,.refl _⟩,⟨by decide,_,rfl,.refl _⟩,⟨by decide,_,rfl,ZP (row:=[.int .i64 0,.str [],.slice 3 0 ([].length+1) 1 none]) ⟨.refl _,.refl _,.refl _,trivial⟩⟩,⟨by decide,.cells ([].map encKd++[[.slice 4 0 (l0::lt).length 3 none]]) false,(by rw[XK];first|exact rfl|exact congrArg (fun z=>some (Blk.cells z false)) (Xg _ _)),by rw[Ky _ (GZ _)];exact .refl _⟩,⟨by decide,_,rfl,Qo (fTr _)⟩,trivial⟩) (KA fs ps ns i b1 j [] l0 lt),?_⟩
       repeat' first|refine And.intro ?_ ?_|(intro h;try first|exact dz|replace h:=cv)
       all_goals try exact cz
       exact⟨_,v8L fs ps ns i b1 (j+1) ([]++[(l0::lt)]),QN [0,1,2,3,4] rfl rfl rfl rfl rfl (by exact rfl) ⟨.refl _,.refl _,.refl _,.refl _,Qa (by first|rfl|omega),trivial⟩ rfl rfl rfl (fun ρ hρ=>⟨.refl _,.refl _,ZO hρ,trivial⟩) rfl trivial,⟨j+1,b1,_,⟨by omega,by omega,rfl,hb1,hC,by simp only[List.length_append,List.length_cons,List.length_nil]at hjl ⊢;omega⟩,rfl⟩,by omega⟩
   |cons k0 kt=>
    repeat' first|refine And.intro ?_ ?_|(intro h;try first|exact dz|replace h:=cv)
    all_goals try exact cz
    ·refine⟨[0],[.ptr 0 0 0],[(0,Zj fs ps ns b)],rfl,⟨.refl _,trivial⟩,⟨⟨by decide,_,rfl,.refl _⟩,trivial⟩,fs,ps,ns,b,rfl,rfl,rfl,hraw,hb,?_⟩
     have hb':=Vg ns hb
     rw[show Fr ns (fs.getD j default) b=((wi (Zd ns b).1 2).toNat,(Zd ns b).2) from if_pos ‹_›]at hC
     generalize Zd ns b=q at *
     obtain⟨x,b'⟩:=q
     dsimp only at hC hb'
     obtain⟨w1,w2⟩:=Zs (a:=x) (n:=2) (by decide)
     obtain⟨k,hk2⟩:∃k:Nat,wi x 2=k:=⟨(wi x 2).toNat,by omega⟩
     rw[hk2,Int.toNat_natCast]at hC
     have hk3:k≤3:=by omega
     refine⟨x,2,rfl,⟨by decide,by decide⟩,?_⟩
     rw[hk2]
     repeat' first|refine And.intro ?_ ?_|(intro h;try first|exact dz|replace h:=cv)
     all_goals try exact cz
     refine⟨v8K fs ps ns i b' j (k0::kt) k,QN [0,1,2,3,4] rfl rfl rfl rfl rfl (by exact rfl) ⟨.refl _,.refl _,.refl _,.refl _,.refl _,Qa (by first|rfl|omega),.refl _,trivial⟩ rfl rfl rfl (fun ρ hρ=>⟨.refl _,.refl _,ZO hρ,trivial⟩) rfl trivial,?_⟩
     generalize hD:XO (ZQ fs ps ns F j) k b' []=D at *
     repeat' first|refine And.intro ?_ ?_|(intro h;try first|exact dz|replace h:=cv)
     all_goals try exact cz
     refine⟨fun m s=>∃(n b1:Nat) (l:List Tr),(n≤k∧m=k-n∧b1≤ns.length∧XO (ZQ fs ps ns F j) (k-n) b1 l=D∧l.length=n)∧s=v8I fs ps ns i b1 j (k0::kt) k n l,⟨_,v8I fs ps ns i b' j (k0::kt) k 0 [],QN [0,1,2,3,4] rfl rfl rfl rfl rfl (by exact rfl) ⟨.refl _,.refl _,.refl _,.refl _,.refl _,.refl _,.refl _,.refl _,trivial⟩ rfl rfl rfl (fun ρ hρ=>⟨.refl _,.refl _,ZO hρ,trivial⟩) rfl trivial,0,b',[],⟨by omega,rfl,hb',hD,rfl⟩,rfl⟩,?_⟩
     clear hb' hD
     rintro m s ⟨n,b1,l,⟨hn,rfl,hb1,hD,hln⟩,rfl⟩
     by_cases hnk:n<k
     ·have hkn:k-n=(k-(n+1))+1:=by omega
      rw[hkn,XO]at hD
      have hb2:=WG fs ps ns F j b1 hb1
      cases l with
      |nil=>
       repeat' first|refine And.intro ?_ ?_|(intro h;try first|exact dz|replace h:=cv)
       all_goals try exact cz
       refine⟨[0],[.ptr 0 0 0,.int .i64 (j:Nat)],[(0,Zj fs ps ns b1)],rfl,⟨.refl _,.refl _,trivial⟩,⟨⟨by decide,_,rfl,.refl _⟩,trivial⟩,fs,ps,ns,j,b1,rfl,rfl,rfl,hm,h1,by omega,hb1,?_⟩
       rcases hq:ZQ fs ps ns F j b1 with⟨⟨tk,tn,ts⟩,b2⟩
       rw[hq]at hD hb2
       dsimp only at hD hb2 ⊢
       rw[QL]
       repeat' first|refine And.intro ?_ ?_|(intro h;try first|exact dz|replace h:=cv)
       all_goals try exact cz
       all_goals(try first|(show(_+1)*48≤_;omega)|(show _+1≤_;omega))
       exact⟨_,v8I fs ps ns i b2 j (k0::kt) k (n+1) ([]++[Tr.mk tk tn ts]),QN [0,1,2,3,8] rfl rfl rfl rfl rfl (by exact rfl) ⟨.refl _,.refl _,.refl _,.refl _,.refl _,.refl _,XJ (ZU _) (by simp) (by simp),Qa (by first|rfl|omega),trivial⟩ rfl rfl rfl (fun ρ hρ=>⟨.refl _,.refl _,ZO hρ,trivial⟩) rfl (Yj (fTr _) (by decide) (by rw[ZU];exact rfl) (by first|exact gr8 [] tk tn ts|exact gr8 _ tk tn ts) (by simp) trivial),⟨n+1,b2,_,⟨by omega,rfl,hb2,hD,by simp at hln ⊢;omega⟩,rfl⟩,by omega⟩
      |cons l0 lt=>
       repeat' first|refine And.intro ?_ ?_|(intro h;try first|exact dz|replace h:=cv)
       all_goals try exact cz
       refine⟨[0],[.ptr 0 0 0,.int .i64 (j:Nat)],[(0,Zj fs ps ns b1)],rfl,⟨.refl _,.refl _,trivial⟩,⟨⟨by decide,_,rfl,.refl _⟩,trivial⟩,fs,ps,ns,j,b1,rfl,rfl,rfl,hm,h1,by omega,hb1,?_⟩
       rcases hq:ZQ fs ps ns F j b1 with⟨⟨tk,tn,ts⟩,b2⟩
       rw[hq]at hD hb2
       dsimp only at hD hb2 ⊢
       rw[QL]
       repeat' first|refine And.intro ?_ ?_|(intro h;try first|exact dz|replace h:=cv)
       all_goals try exact cz
       all_goals(try first|(show(_+1)*48≤_;omega)|(show _+1≤_;omega))
       exact⟨_,v8I fs ps ns i b2 j (k0::kt) k (n+1) ((l0::lt)++[Tr.mk tk tn ts]),QN [0,1,2,3,8] rfl rfl rfl rfl rfl (by exact rfl) ⟨.refl _,.refl _,.refl _,.refl _,.refl _,.refl _,XJ (ZU _) (by simp) (by simp),Qa (by first|rfl|omega),trivial⟩ rfl rfl rfl (fun ρ hρ=>⟨.refl _,.refl _,ZO hρ,trivial⟩) rfl (Yj (fTr _) (by decide) (by rw[ZU];exact rfl) (by first|exact gr8 [] tk tn ts|exact gr8 _ tk tn ts) (by simp) trivial),⟨n+1,b2,_,⟨by omega,rfl,hb2,hD,by simp at hln ⊢;omega⟩,rfl⟩,by omega⟩
     ·obtain rfl:n=k:=by omega
      rw[Nat.sub_self,XO]at hD
      subst hD
      dsimp only at hC
      have hjl:(k0::kt).length≤j:=hkl
      cases l with
      |nil=>
       repeat' first|refine And.intro ?_ ?_|(intro h;try first|exact dz|replace h:=cv)
       all_goals try exact cz
       all_goals(try first|(show(_+1)*24≤_;omega)|(show _+1≤_;omega))
       refine⟨v8L fs ps ns i b1 j ((k0::kt)++[[]]),Q0 [0,1,2,6,4] (by exact rfl) ⟨.refl _,.refl _,.refl _,.refl _,.refl _,trivial⟩ ⟨⟨by decide,_,rfl,.refl _⟩,⟨by decide,_,rfl,.refl _⟩,⟨by decide,_,rfl,ZP (row:=[.int .i64 0,.str [],XR 3 1 ((k0::kt)++[[]])]) ⟨.refl _,.refl _,XJ (XK _) (by simp) (by simp),trivial⟩⟩,BB (fun bb hbb=>⟨by decide,.cells ((k0::kt).map encKd++[[.nils]]) false,by rw[XK];first|exact rfl|exact congrArg (fun z=>some (Blk.cells z false)) (Xg _ _),by rw[ZZ encKd (by simp)]at hbb;cases hbb;exact Kz _ _⟩) trivial⟩,?_⟩
       repeat' first|refine And.intro ?_ ?_|(intro h;try first|exact dz|replace h:=cv)
       all_goals try exact cz
       exact⟨_,v8L fs ps ns i b1 (j+1) ((k0::kt)++[[]]),QN [0,1,2,3,4] rfl rfl rfl rfl rfl (by exact rfl) ⟨.refl _,.refl _,.refl _,.refl _,Qa (by first|rfl|omega),trivial⟩ rfl rfl rfl (fun ρ hρ=>⟨.refl _,.refl _,ZO hρ,trivial⟩) rfl trivial,⟨j+1,b1,_,⟨by omega,by omega,rfl,hb1,hC,by simp only[List.length_append,List.length_cons,List.length_nil]at hjl ⊢;omega⟩,rfl⟩,by omega⟩
      |cons l0 lt=>
       repeat' first|refine And.intro ?_ ?_|(intro h;try first|exact dz|replace h:=cv)
       all_goals try exact cz
       all_goals(try first|(show(_+1)*24≤_;omega)|(show _+1≤_;omega))
       refine⟨v8L fs ps ns i b1 j ((k0::kt)++[(l0::lt)]),Reb.trans (by exact Q0 [0,1,2,6,4] (by exact rfl) ⟨.refl _,.refl _,.refl _,.refl _,.refl _,trivial⟩ ⟨⟨by decide,_,rfl,.refl _⟩,⟨by decide,_,rfl,.refl _⟩,⟨by decide,_,rfl,ZP (row:=[.int .i64 0,.str [],.slice 3 0 ((k0::kt).length+1) 1 none]) ⟨.refl _,.refl _,.refl _,trivial⟩⟩,⟨by decide,.cells ((k0::kt).map encKd++[[.slice 4 0 (l0::lt).length 3 none]]) false,(by rw[XK];first|exact rfl|exact congrArg (fun z=>some (Blk.cells z false)) (Xg _ _)),by rw[Ky _ (GZ _)];exact .refl _⟩,⟨by decide,_,rfl,Qo (fTr _)⟩,trivial⟩) (KA fs ps ns i b1 j (k0::kt) l0 lt),?_⟩
       repeat' first|refine And.intro ?_ ?_|(intro h;try first|exact dz|replace h:=cv)
       all_goals try exact cz
       exact⟨_,v8L fs ps ns i b1 (j+1) ((k0::kt)++[(l0::lt)]),QN [0,1,2,3,4] rfl rfl rfl rfl rfl (by exact rfl) ⟨.refl _,.refl _,.refl _,.refl _,Qa (by first|rfl|omega),trivial⟩ rfl rfl rfl (fun ρ hρ=>⟨.refl _,.refl _,ZO hρ,trivial⟩) rfl trivial,⟨j+1,b1,_,⟨by omega,by omega,rfl,hb1,hC,by simp only[List.length_append,List.length_cons,List.length_nil]at hjl ⊢;omega⟩,rfl⟩,by omega⟩
    ·refine⟨[0],[.ptr 0 0 0],[(0,Zj fs ps ns b)],rfl,⟨.refl _,trivial⟩,⟨⟨by decide,_,rfl,.refl _⟩,trivial⟩,fs,ps,ns,b,rfl,rfl,rfl,hraw,hb,?_⟩
     have hb':=Vg ns hb
     rw[show Fr ns (fs.getD j default) b=((wi (Zd ns b).1 4).toNat,(Zd ns b).2) from(if_neg ‹_›).trans (if_pos ‹_›)]at hC
     generalize Zd ns b=q at *
     obtain⟨x,b'⟩:=q
     dsimp only at hC hb'
     obtain⟨w1,w2⟩:=Zs (a:=x) (n:=4) (by decide)
     obtain⟨k,hk2⟩:∃k:Nat,wi x 4=k:=⟨(wi x 4).toNat,by omega⟩
     rw[hk2,Int.toNat_natCast]at hC
     have hk3:k≤3:=by omega
     refine⟨x,4,rfl,⟨by decide,by decide⟩,?_⟩
     rw[hk2]
     repeat' first|refine And.intro ?_ ?_|(intro h;try first|exact dz|replace h:=cv)
     all_goals try exact cz
     refine⟨v8K fs ps ns i b' j (k0::kt) k,QN [0,1,2,3,4] rfl rfl rfl rfl rfl (by exact rfl) ⟨.refl _,.refl _,.refl _,.refl _,.refl _,Qa (by first|rfl|omega),.refl _,trivial⟩ rfl rfl rfl (fun ρ hρ=>⟨.refl _,.refl _,ZO hρ,trivial⟩) rfl trivial,?_⟩
     generalize hD:XO (ZQ fs ps ns F j) k b' []=D at *
     repeat' first|refine And.intro ?_ ?_|(intro h;try first|exact dz|replace h:=cv)
     all_goals try exact cz
     refine⟨fun m s=>∃(n b1:Nat) (l:List Tr),(n≤k∧m=k-n∧b1≤ns.length∧XO (ZQ fs ps ns F j) (k-n) b1 l=D∧l.length=n)∧s=v8I fs ps ns i b1 j (k0::kt) k n l,⟨_,v8I fs ps ns i b' j (k0::kt) k 0 [],QN [0,1,2,3,4] rfl rfl rfl rfl rfl (by exact rfl) ⟨.refl _,.refl _,.refl _,.refl _,.refl _,.refl _,.refl _,.refl _,trivial⟩ rfl rfl rfl (fun ρ hρ=>⟨.refl _,.refl _,ZO hρ,trivial⟩) rfl trivial,0,b',[],⟨by omega,rfl,hb',hD,rfl⟩,rfl⟩,?_⟩
     clear hb' hD
     rintro m s ⟨n,b1,l,⟨hn,rfl,hb1,hD,hln⟩,rfl⟩
     by_cases hnk:n<k
     ·have hkn:k-n=(k-(n+1))+1:=by omega
      rw[hkn,XO]at hD
      have hb2:=WG fs ps ns F j b1 hb1
      cases l with
      |nil=>
       repeat' first|refine And.intro ?_ ?_|(intro h;try first|exact dz|replace h:=cv)
       all_goals try exact cz
       refine⟨[0],[.ptr 0 0 0,.int .i64 (j:Nat)],[(0,Zj fs ps ns b1)],rfl,⟨.refl _,.refl _,trivial⟩,⟨⟨by decide,_,rfl,.refl _⟩,trivial⟩,fs,ps,ns,j,b1,rfl,rfl,rfl,hm,h1,by omega,hb1,?_⟩
       rcases hq:ZQ fs ps ns F j b1 with⟨⟨tk,tn,ts⟩,b2⟩
       rw[hq]at hD hb2
       dsimp only at hD hb2 ⊢
       rw[QL]
       repeat' first|refine And.intro ?_ ?_|(intro h;try first|exact dz|replace h:=cv)
       all_goals try exact cz
       all_goals(try first|(show(_+1)*48≤_;omega)|(show _+1≤_;omega))
       exact⟨_,v8I fs ps ns i b2 j (k0::kt) k (n+1) ([]++[Tr.mk tk tn ts]),QN [0,1,2,3,8] rfl rfl rfl rfl rfl (by exact rfl) ⟨.refl _,.refl _,.refl _,.refl _,.refl _,.refl _,XJ (ZU _) (by simp) (by simp),Qa (by first|rfl|omega),trivial⟩ rfl rfl rfl (fun ρ hρ=>⟨.refl _,.refl _,ZO hρ,trivial⟩) rfl (Yj (fTr _) (by decide) (by rw[ZU];exact rfl) (by first|exact gr8 [] tk tn ts|exact gr8 _ tk tn ts) (by simp) trivial),⟨n+1,b2,_,⟨by omega,rfl,hb2,hD,by simp at hln ⊢;omega⟩,rfl⟩,by omega⟩
      |cons l0 lt=>
       repeat' first|refine And.intro ?_ ?_|(intro h;try first|exact dz|replace h:=cv)
       all_goals try exact cz
       refine⟨[0],[.ptr 0 0 0,.int .i64 (j:Nat)],[(0,Zj fs ps ns b1)],rfl,⟨.refl _,.refl _,trivial⟩,⟨⟨by decide,_,rfl,.refl _⟩,trivial⟩,fs,ps,ns,j,b1,rfl,rfl,rfl,hm,h1,by omega,hb1,?_⟩
       rcases hq:ZQ fs ps ns F j b1 with⟨⟨tk,tn,ts⟩,b2⟩
       rw[hq]at hD hb2
       dsimp only at hD hb2 ⊢
       rw[QL]
       repeat' first|refine And.intro ?_ ?_|(intro h;try first|exact dz|replace h:=cv)
       all_goals try exact cz
       all_goals(try first|(show(_+1)*48≤_;omega)|(show _+1≤_;omega))
       exact⟨_,v8I fs ps ns i b2 j (k0::kt) k (n+1) ((l0::lt)++[Tr.mk tk tn ts]),QN [0,1,2,3,8] rfl rfl rfl rfl rfl (by exact rfl) ⟨.refl _,.refl _,.refl _,.refl _,.refl _,.refl _,XJ (ZU _) (by simp) (by simp),Qa (by first|rfl|omega),trivial⟩ rfl rfl rfl (fun ρ hρ=>⟨.refl _,.refl _,ZO hρ,trivial⟩) rfl (Yj (fTr _) (by decide) (by rw[ZU];exact rfl) (by first|exact gr8 [] tk tn ts|exact gr8 _ tk tn ts) (by simp) trivial),⟨n+1,b2,_,⟨by omega,rfl,hb2,hD,by simp at hln ⊢;omega⟩,rfl⟩,by omega⟩
     ·obtain rfl:n=k:=by omega
      rw[Nat.sub_self,XO]at hD
      subst hD
      dsimp only at hC
      have hjl:(k0::kt).length≤j:=hkl
      cases l with
      |nil=>
       repeat' first|refine And.intro ?_ ?_|(intro h;try first|exact dz|replace h:=cv)
       all_goals try exact cz
       all_goals(try first|(show(_+1)*24≤_;omega)|(show _+1≤_;omega))
       refine⟨v8L fs ps ns i b1 j ((k0::kt)++[[]]),Q0 [0,1,2,6,4] (by exact rfl) ⟨.refl _,.refl _,.refl _,.refl _,.refl _,trivial⟩ ⟨⟨by decide,_,rfl,.refl _⟩,⟨by decide,_,rfl,.refl _⟩,⟨by decide,_,rfl,ZP (row:=[.int .i64 0,.str [],XR 3 1 ((k0::kt)++[[]])]) ⟨.refl _,.refl _,XJ (XK _) (by simp) (by simp),trivial⟩⟩,BB (fun bb hbb=>⟨by decide,.cells ((k0::kt).map encKd++[[.nils]]) false,by rw[XK];first|exact rfl|exact congrArg (fun z=>some (Blk.cells z false)) (Xg _ _),by rw[ZZ encKd (by simp)]at hbb;cases hbb;exact Kz _ _⟩) trivial⟩,?_⟩
       repeat' first|refine And.intro ?_ ?_|(intro h;try first|exact dz|replace h:=cv)
       all_goals try exact cz
       exact⟨_,v8L fs ps ns i b1 (j+1) ((k0::kt)++[[]]),QN [0,1,2,3,4] rfl rfl rfl rfl rfl (by exact rfl) ⟨.refl _,.refl _,.refl _,.refl _,Qa (by first|rfl|omega),trivial⟩ rfl rfl rfl (fun ρ hρ=>⟨.refl _,.refl _,ZO hρ,trivial⟩) rfl trivial,⟨j+1,b1,_,⟨by omega,by omega,rfl,hb1,hC,by simp only[List.length_append,List.length_cons,List.length_nil]at hjl ⊢;omega⟩,rfl⟩,by omega⟩
      |cons l0 lt=>
       repeat' first|refine And.intro ?_ ?_|(intro h;try first|exact dz|replace h:=cv)
       all_goals try exact cz
       all_goals(try first|(show(_+1)*24≤_;omega)|(show _+1≤_;omega))
       refine⟨v8L fs ps ns i b1 j ((k0::kt)++[(l0::lt)]),Reb.trans (by exact Q0 [0,1,2,6,4] (by exact rfl) ⟨.refl _,.refl _,.refl _,.refl _,.refl _,trivial⟩ ⟨⟨by decide,_,rfl,.refl _⟩,⟨by decide,_,rfl,.refl _⟩,⟨by decide,_,rfl,ZP (row:=[.int .i64 0,.str [],.slice 3 0 ((k0::kt).length+1) 1 none]) ⟨.refl _,.refl _,.refl _,trivial⟩⟩,⟨by decide,.cells ((k0::kt).map encKd++[[.slice 4 0 (l0::lt).length 3 none]]) false,(by rw[XK];first|exact rfl|exact congrArg (fun z=>some (Blk.cells z false)) (Xg _ _)),by rw[Ky _ (GZ _)];exact .refl _⟩,⟨by decide,_,rfl,Qo (fTr _)⟩,trivial⟩) (KA fs ps ns i b1 j (k0::kt) l0 lt),?_⟩
       repeat' first|refine And.intro ?_ ?_|(intro h;try first|exact dz|replace h:=cv)
       all_goals try exact cz
       exact⟨_,v8L fs ps ns i b1 (j+1) ((k0::kt)++[(l0::lt)]),QN [0,1,2,3,4] rfl rfl rfl rfl rfl (by exact rfl) ⟨.refl _,.refl _,.refl _,.refl _,Qa (by first|rfl|omega),trivial⟩ rfl rfl rfl (fun ρ hρ=>⟨.refl _,.refl _,ZO hρ,trivial⟩) rfl trivial,⟨j+1,b1,_,⟨by omega,by omega,rfl,hb1,hC,by simp only[List.length_append,List.length_cons,List.length_nil]at hjl ⊢;omega⟩,rfl⟩,by omega⟩
    ·obtain⟨k,hk2⟩:∃k:Nat,k=1:=⟨1,rfl⟩
     rw[show Fr ns (fs.getD j default) b=(k,b) from(if_neg ‹_›).trans ((if_neg ‹_›).trans (by rw[hk2]))]at hC
     have hb':=hb
     obtain⟨b',hbb⟩:∃b',b'=b:=⟨b,rfl⟩
     subst hbb
     have hk3:k≤3:=by omega
     dsimp only at hC
     refine⟨v8K fs ps ns i b' j (k0::kt) k,QN [0,1,2,3,4] rfl rfl rfl rfl rfl (by exact rfl) ⟨.refl _,.refl _,.refl _,.refl _,.refl _,Qa (by first|rfl|omega),.refl _,trivial⟩ rfl rfl rfl (fun ρ hρ=>⟨.refl _,.refl _,ZO hρ,trivial⟩) rfl trivial,?_⟩
     generalize hD:XO (ZQ fs ps ns F j) k b' []=D at *
     repeat' first|refine And.intro ?_ ?_|(intro h;try first|exact dz|replace h:=cv)
     all_goals try exact cz
     refine⟨fun m s=>∃(n b1:Nat) (l:List Tr),(n≤k∧m=k-n∧b1≤ns.length∧XO (ZQ fs ps ns F j) (k-n) b1 l=D∧l.length=n)∧s=v8I fs ps ns i b1 j (k0::kt) k n l,⟨_,v8I fs ps ns i b' j (k0::kt) k 0 [],QN [0,1,2,3,4] rfl rfl rfl rfl rfl (by exact rfl) ⟨.refl _,.refl _,.refl _,.refl _,.refl _,.refl _,.refl _,.refl _,trivial⟩ rfl rfl rfl (fun ρ hρ=>⟨.refl _,.refl _,ZO hρ,trivial⟩) rfl trivial,0,b',[],⟨by omega,rfl,hb',hD,rfl⟩,rfl⟩,?_⟩
     clear hb' hD
     rintro m s ⟨n,b1,l,⟨hn,rfl,hb1,hD,hln⟩,rfl⟩
     by_cases hnk:n<k
     ·have hkn:k-n=(k-(n+1))+1:=by omega
      rw[hkn,XO]at hD
      have hb2:=WG fs ps ns F j b1 hb1
      cases l with
      |nil=>
       repeat' first|refine And.intro ?_ ?_|(intro h;try first|exact dz|replace h:=cv)
       all_goals try exact cz
       refine⟨[0],[.ptr 0 0 0,.int .i64 (j:Nat)],[(0,Zj fs ps ns b1)],rfl,⟨.refl _,.refl _,trivial⟩,⟨⟨by decide,_,rfl,.refl _⟩,trivial⟩,fs,ps,ns,j,b1,rfl,rfl,rfl,hm,h1,by omega,hb1,?_⟩
       rcases hq:ZQ fs ps ns F j b1 with⟨⟨tk,tn,ts⟩,b2⟩
       rw[hq]at hD hb2
       dsimp only at hD hb2 ⊢
       rw[QL]
       repeat' first|refine And.intro ?_ ?_|(intro h;try first|exact dz|replace h:=cv)
       all_goals try exact cz
       all_goals(try first|(show(_+1)*48≤_;omega)|(show _+1≤_;omega))
       exact⟨_,v8I fs ps ns i b2 j (k0::kt) k (n+1) ([]++[Tr.mk tk tn ts]),QN [0,1,2,3,8] rfl rfl rfl rfl rfl (by exact rfl) ⟨.refl _,.refl _,.refl _,.refl _,.refl _,.refl _,XJ (ZU _) (by simp) (by simp),Qa (by first|rfl|omega),trivial⟩ rfl rfl rfl (fun ρ hρ=>⟨.refl _,.refl _,ZO hρ,trivial⟩) rfl (Yj (fTr _) (by decide) (by rw[ZU];exact rfl) (by first|exact gr8 [] tk tn ts|exact gr8 _ tk tn ts) (by simp) trivial),⟨n+1,b2,_,⟨by omega,rfl,hb2,hD,by simp at hln ⊢;omega⟩,rfl⟩,by omega⟩
      |cons l0 lt=>
       repeat' first|refine And.intro ?_ ?_|(intro h;try first|exact dz|replace h:=cv)
       all_goals try exact cz
       refine⟨[0],[.ptr 0 0 0,.int .i64 (j:Nat)],[(0,Zj fs ps ns b1)],rfl,⟨.refl _,.refl _,trivial⟩,⟨⟨by decide,_,rfl,.refl _⟩,trivial⟩,fs,ps,ns,j,b1,rfl,rfl,rfl,hm,h1,by omega,hb1,?_⟩
       rcases hq:ZQ fs ps ns F j b1 with⟨⟨tk,tn,ts⟩,b2⟩
       rw[hq]at hD hb2
       dsimp only at hD hb2 ⊢
       rw[QL]
       repeat' first|refine And.intro ?_ ?_|(intro h;try first|exact dz|replace h:=cv)
       all_goals try exact cz
       all_goals(try first|(show(_+1)*48≤_;omega)|(show _+1≤_;omega))
       exact⟨_,v8I fs ps ns i b2 j (k0::kt) k (n+1) ((l0::lt)++[Tr.mk tk tn ts]),QN [0,1,2,3,8] rfl rfl rfl rfl rfl (by exact rfl) ⟨.refl _,.refl _,.refl _,.refl _,.refl _,.refl _,XJ (ZU _) (by simp) (by simp),Qa (by first|rfl|omega),trivial⟩ rfl rfl rfl (fun ρ hρ=>⟨.refl _,.refl _,ZO hρ,trivial⟩) rfl (Yj (fTr _) (by decide) (by rw[ZU];exact rfl) (by first|exact gr8 [] tk tn ts|exact gr8 _ tk tn ts) (by simp) trivial),⟨n+1,b2,_,⟨by omega,rfl,hb2,hD,by simp at hln ⊢;omega⟩,rfl⟩,by omega⟩
     ·obtain rfl:n=k:=by omega
      rw[Nat.sub_self,XO]at hD
      subst hD
      dsimp only at hC
      have hjl:(k0::kt).length≤j:=hkl
      cases l with
      |nil=>
       repeat' first|refine And.intro ?_ ?_|(intro h;try first|exact dz|replace h:=cv)
       all_goals try exact cz
       all_goals(try first|(show(_+1)*24≤_;omega)|(show _+1≤_;omega))
       refine⟨v8L fs ps ns i b1 j ((k0::kt)++[[]]),Q0 [0,1,2,6,4] (by exact rfl) ⟨.refl _,.refl _,.refl _,.refl _,.refl _,trivial⟩ ⟨⟨by decide,_,rfl,.refl _⟩,⟨by decide,_,rfl,.refl _⟩,⟨by decide,_,rfl,ZP (row:=[.int .i64 0,.str [],XR 3 1 ((k0::kt)++[[]])]) ⟨.refl _,.refl _,XJ (XK _) (by simp) (by simp),trivial⟩⟩,BB (fun bb hbb=>⟨by decide,.cells ((k0::kt).map encKd++[[.nils]]) false,by rw[XK];first|exact rfl|exact congrArg (fun z=>some (Blk.cells z false)) (Xg _ _),by rw[ZZ encKd (by simp)]at hbb;cases hbb;exact Kz _ _⟩) trivial⟩,?_⟩
       repeat' first|refine And.intro ?_ ?_|(intro h;try first|exact dz|replace h:=cv)
       all_goals try exact cz
       exact⟨_,v8L fs ps ns i b1 (j+1) ((k0::kt)++[[]]),QN [0,1,2,3,4] rfl rfl rfl rfl rfl (by exact rfl) ⟨.refl _,.refl _,.refl _,.refl _,Qa (by first|rfl|omega),trivial⟩ rfl rfl rfl (fun ρ hρ=>⟨.refl _,.refl _,ZO hρ,trivial⟩) rfl trivial,⟨j+1,b1,_,⟨by omega,by omega,rfl,hb1,hC,by simp only[List.length_append,List.length_cons,List.length_nil]at hjl ⊢;omega⟩,rfl⟩,by omega⟩
      |cons l0 lt=>
       repeat' first|refine And.intro ?_ ?_|(intro h;try first|exact dz|replace h:=cv)
       all_goals try exact cz
       all_goals(try first|(show(_+1)*24≤_;omega)|(show _+1≤_;omega))
       refine⟨v8L fs ps ns i b1 j ((k0::kt)++[(l0::lt)]),Reb.trans (by exact Q0 [0,1,2,6,4] (by exact rfl) ⟨.refl _,.refl _,.refl _,.refl _,.refl _,trivial⟩ ⟨⟨by decide,_,rfl,.refl _⟩,⟨by decide,_,rfl,.refl _⟩,⟨by decide,_,rfl,ZP (row:=[.int .i64 0,.str [],.slice 3 0 ((k0::kt).length+1) 1 none]) ⟨.refl _,.refl _,.refl _,trivial⟩⟩,⟨by decide,.cells ((k0::kt).map encKd++[[.slice 4 0 (l0::lt).length 3 none]]) false,(by rw[XK];first|exact rfl|exact congrArg (fun z=>some (Blk.cells z false)) (Xg _ _)),by rw[Ky _ (GZ _)];exact .refl _⟩,⟨by decide,_,rfl,Qo (fTr _)⟩,trivial⟩) (KA fs ps ns i b1 j (k0::kt) l0 lt),?_⟩
       repeat' first|refine And.intro ?_ ?_|(intro h;try first|exact dz|replace h:=cv)
       all_goals try exact cz
       exact⟨_,v8L fs ps ns i b1 (j+1) ((k0::kt)++[(l0::lt)]),QN [0,1,2,3,4] rfl rfl rfl rfl rfl (by exact rfl) ⟨.refl _,.refl _,.refl _,.refl _,Qa (by first|rfl|omega),trivial⟩ rfl rfl rfl (fun ρ hρ=>⟨.refl _,.refl _,ZO hρ,trivial⟩) rfl trivial,⟨j+1,b1,_,⟨by omega,by omega,rfl,hb1,hC,by simp only[List.length_append,List.length_cons,List.length_nil]at hjl ⊢;omega⟩,rfl⟩,by omega⟩
  ·rw[if_neg h2]at hC
   repeat' first|refine And.intro ?_ ?_|(intro h;try first|exact dz|replace h:=cv)
   all_goals try exact cz
   exact⟨_,v8L fs ps ns i b (j+1) ks,QN [0,1,2,3,4] rfl rfl rfl rfl rfl (by exact rfl) ⟨.refl _,.refl _,.refl _,.refl _,Qa (by first|rfl|omega),trivial⟩ rfl rfl rfl (fun ρ hρ=>⟨.refl _,.refl _,ZO hρ,trivial⟩) rfl trivial,⟨j+1,b,ks,⟨by omega,by omega,rfl,hb,hC,by omega⟩,rfl⟩,by omega⟩
 ·obtain rfl:j=fs.length:=by omega
  rw[Nat.sub_self,UL]at hC
  subst hC
  dsimp only at hP
  rw[QL]at hP
  cases ks with
  |nil=>
   repeat' first|refine And.intro ?_ ?_|(intro h;try first|exact dz|replace h:=cv)
   all_goals try exact cz
   exact HA (k:=4) (n:=1) (row:=[.int .i64 0,.str [],.vs 1 []]) rfl rfl rfl ⟨.refl _,.refl _,.zero _ _ rfl,trivial⟩ (E0 _ _ _) (by exact rfl) rfl hP
  |cons k0 kt=>
   repeat' first|refine And.intro ?_ ?_|(intro h;try first|exact dz|replace h:=cv)
   all_goals try exact cz
   exact⟨⟨[(4,.ptr 1 0 0)],[(0,Zj fs ps ns b),(1,some (.cells [[.int .i64 0,.str [],.vs 1 ((k0::kt).map encKd)]] false))],2⟩,Reb.trans (s':=⟨[(4,.ptr 1 0 0)],[(0,Zj fs ps ns b),(1,some (.cells [[.int .i64 0,.str [],.slice 2 0 (k0::kt).length 1 none]] false)),(2,some (.cells ((k0::kt).map encKd) false))],3⟩) (Q0 [0,1,3] (by exact rfl) ⟨.refl _,trivial⟩ ⟨⟨by decide,_,rfl,.refl _⟩,⟨by decide,_,rfl,.refl _⟩,⟨by decide,_,rfl,Qo (fKd _)⟩,trivial⟩) (Q06 fs ps ns b k0 kt),_,rfl,_,C8,hP⟩
theorem EN[Syms]:∀F:Nat,(Ib F).ok Tryz.prog 17
 |0=>by
  rintro args H nx Post ⟨fs,ps,ns,i,a,rfl,rfl,rfl,hm,hi,hF,ha,h⟩
  omega
 |F+1=>by
  rintro args H nx Post ⟨fs,ps,ns,i,a,rfl,rfl,rfl,hm,hi,hF,ha,h⟩
  have hc:(cV F).ok Tryz.prog:=YL Hd (XA B6 (YL (EN F) Qk))
  by_cases hk:(fs.getD i default).kind=0
  ·exact Xr.forget (Zr QC Qz Qe hc QV (FU F fs ps ns i a hm hi hF ha hk h))
  ·rw[ZQ,if_pos hk]at h
   exact Xr.forget (Zr QC Qz Qe hc QV (B8 F fs ps ns i a hm hi ha hk h))
end
def ZB:Stk→Stk
 |[]=>[]
 |(a,k)::t=>if k=0 then ZB t else(a,k)::t
def Yn(i:Nat)(f:Fd)(st:Stk):Stk:=if f.kind=0∧0<f.kids then((i:Int),f.kids)::st else st
def GJ:List Fd→Nat→Stk→List (Int×Int)
 |[],_,_=>[]
 |f::fs,i,st=>(VS (ZB st),((ZB st).length:Int))::GJ fs (i+1) (Yn i f (WB (ZB st)))
def Ux(st:Stk):Prop:=∀p∈st,0≤p.2
theorem M6:∀{st:Stk},Ux st→ZB st=Xs st
 |[],_=>rfl
 |(a,k)::t,h=>by
  have hk:0≤k:=h (a,k) (List.mem_cons_self ..)
  rw[ZB,Xs]
  by_cases h0:k=0
  ·rw[if_pos h0,if_pos (by omega)];exact M6 fun p hp=>h p (List.mem_cons_of_mem _ hp)
  ·rw[if_neg h0,if_neg (by omega)]
theorem Df{st:Stk}{p:Int×Int}(h:p∈ZB st):p∈st:=by
 induction st with
 |nil=>simp[ZB]at h
 |cons q t ih=>
  obtain⟨a,k⟩:=q
  rw[ZB]at h
  split at h
  ·exact List.mem_cons_of_mem _ (ih h)
  ·exact h
theorem E3{st:Stk}{a k:Int}{t:Stk}(hn:Ux st)(h:ZB st=(a,k)::t):0<k:=by
 induction st with
 |nil=>simp[ZB]at h
 |cons q s ih=>
  obtain⟨b,l⟩:=q
  rw[ZB]at h
  split at h
  ·exact ih (fun p hp=>hn p (List.mem_cons_of_mem _ hp)) h
  ·cases h
   have:=hn (a,k) (List.mem_cons_self ..)
   simp only at this;omega
theorem G0{st:Stk}(h:Ux st)(i:Nat)(f:Fd):Ux (Yn i f (WB (ZB st))):=by
 have hd:Ux (WB (ZB st)):=by
  intro p hp
  cases hq:ZB st with
  |nil=>rw[hq]at hp;simp[WB]at hp
  |cons q t=>
   obtain⟨a,k⟩:=q
   rw[hq]at hp
   have hk:=E3 h hq
   simp only[WB,List.mem_cons]at hp
   rcases hp with rfl|hp
   ·simp only;omega
   ·exact h p (Df (by rw[hq];exact List.mem_cons_of_mem _ hp))
 unfold Yn
 split
 ·rename_i hc
  intro p hp
  rcases List.mem_cons.1 hp with rfl|hp
  ·simp only;omega
  ·exact hd p hp
 ·exact hd
theorem GX:∀(fs:List Fd) (i:Nat) (st rt:Stk),Ux rt→ZB rt=Xs st→GJ fs i rt=V4 fs i st
 |[],_,_,_,_,_=>rfl
 |f::fs,i,st,rt,hn,he=>by
  rw[GJ,V4,he]
  congr 1
  refine GX fs (i+1) _ _ ?_ ?_
  ·rw[←he];exact G0 hn i f
  ·rw[M6 (by rw[←he];exact G0 hn i f)]
   unfold Yn W7
   by_cases h0:f.kind=0
   ·by_cases h1:0<f.kids
    ·rw[if_pos ⟨h0,h1⟩,if_pos h0]
    ·rw[if_neg (fun h=>h1 h.2),if_pos h0]
     show _=Xs (((i:Int),f.kids)::WB (Xs st))
     rw[Xs,if_pos (by omega)]
   ·rw[if_neg (fun h=>h0 h.1),if_neg h0]
def CG(fs:List Fd):List Int:=(V4 fs 0 []).map (·.2)
theorem Cf(fs:List Fd):GJ fs 0 []=V4 fs 0 []:=GX fs 0 [] [] (fun p hp=>by cases hp) rfl
section
set_option maxRecDepth 100000
set_option maxHeartbeats 4000000
theorem IU{s:List UInt8}(h:s≠[]):eqb s []=false:=by
 cases s with
 |nil=>exact absurd rfl h
 |cons a l=>rfl
theorem CH{s:List UInt8}{k:Nat}(hk:k<s.length)(ha:(s.getD k 0).toNat<128):Utf8.decode ⟨⟨s⟩⟩ k=((s.getD k 0).toNat,1):=by
 have e:s.getD k 0=s[k]:=by simp[hk]
 have:=decode_ascii ⟨⟨s⟩⟩ k hk (by rw[e]at ha;exact ha)
 rw[this,e];rfl
theorem HK{s:List UInt8}{k:Nat}(hk:k<s.length)(ha:128≤(s.getD k 0).toNat):128≤(Utf8.decode ⟨⟨s⟩⟩ k).1∧1≤(Utf8.decode ⟨⟨s⟩⟩ k).2:=by
 have e:s.getD k 0=s[k]:=by simp[hk]
 exact decode_high ⟨⟨s⟩⟩ k hk (by rw[e]at ha;exact ha)
end
section
set_option maxRecDepth 100000
set_option maxHeartbeats 4000000
def encSt(s:List UInt8):List AVal:=[.str s]
theorem fSt(l:List (List UInt8)):Qg (l.map encSt):=X1 (fun a x hx=>by simp[encSt]at hx;subst hx;rfl) l
theorem gSt(l:List (List UInt8))(x:List UInt8):List.take l.length (List.drop 0 (l.map encSt))++[[.str x]]=(l++[x]).map encSt:=by
 rw[List.drop_zero,List.take_of_length_le (by simp),List.map_append];rfl
def Vf(p:List UInt8):Nat→List (List UInt8)×Nat
 |0=>([],0)
 |i+1=>if p.getD i 0=46 then((Vf p i).1++[(p.drop (Vf p i).2).take (i-(Vf p i).2)],i+1)else Vf p i
def ZR(p:List UInt8):List (List UInt8):=(Vf p p.length).1++[p.drop (Vf p p.length).2]
theorem F1(p:List UInt8):∀i,(Vf p i).2≤i∧(Vf p i).1.length≤i
 |0=>⟨Nat.le_refl _,Nat.le_refl _⟩
 |i+1=>by
  have ih:=F1 p i
  rw[Vf]
  split
  ·exact⟨Nat.le_refl _,by simp;omega⟩
  ·exact⟨by omega,by omega⟩
def G4(p:List UInt8)(i:Nat):St:=⟨[(0,.str p),(3,XR 1 1 (Vf p i).1),(4,.int .i64 (Vf p i).2),(8,.obj 0)],[(0,some (.iter p i)),(1,Xn encSt (Vf p i).1)],2⟩
theorem IG[Syms](p:List UInt8)(hl:p.length≤1000)(hp:∀k,k<p.length→(p.getD k 0).toNat<128):
 fnT Ql Ql (QW fns) (QP tys) (Z1 plt) 100 88 [.str p] [] 0 (fun v H _=>v=vT 1 encSt [] (ZR p)∧H=[]):=by
 refine⟨fun m s=>∃i:Nat,(i≤p.length∧m=p.length-i)∧s=G4 p i,⟨_,G4 p 0,(Yh (nx':=2) (by omega)).trans (Q0 [0,1] (by exact rfl) ⟨.refl _,.refl _,.refl _,.refl _,trivial⟩ ⟨⟨by decide,_,rfl,.refl _⟩,trivial⟩),0,⟨by omega,rfl⟩,rfl⟩,?_⟩
 rintro m s ⟨i,⟨hi,rfl⟩,rfl⟩
 obtain⟨hfr,hol⟩:=F1 p i
 unfold G4
 rcases hq:Vf p i with⟨out,fr⟩
 rw[hq]at hfr hol
 dsimp only at hfr hol ⊢
 by_cases h1:i<p.length
 ·have hd:=CH h1 (hp i h1)
  have hb:=hp i h1
  have e1:(Utf8.decode ⟨⟨p⟩⟩ i).1=(p.getD i 0).toNat:=by rw[hd]
  have e2:(Utf8.decode ⟨⟨p⟩⟩ i).2=1:=by rw[hd]
  by_cases h46:p.getD i 0=46
  ·have hn:Vf p (i+1)=(out++[(p.drop fr).take (i-fr)],i+1):=by rw[Vf,if_pos h46,hq]
   have e3:((Utf8.decode ⟨⟨p⟩⟩ i).1:Int)=46:=by rw[e1,h46];rfl
   cases out with
   |nil=>
    repeat' first|refine And.intro ?_ ?_|(intro h;try first|exact dz|replace h:=cv)
    all_goals try exact cz
    refine⟨_,G4 p (i+1),?_,⟨i+1,⟨by omega,rfl⟩,rfl⟩,by omega⟩
    unfold G4
    rw[hn]
    exact Q0 [0,4] (by exact rfl) ⟨.refl _,.cap _ _ _ _ _,Qa (by first|rfl|omega),.refl _,trivial⟩ ⟨⟨by decide,_,rfl,by rw[e2];exact .refl _⟩,⟨by decide,_,rfl,Q1 (by exact rfl) (fSt _)⟩,trivial⟩
   |cons o0 ot=>
    repeat' first|refine And.intro ?_ ?_|(intro h;try first|exact dz|replace h:=cv)
    all_goals try exact cz
    refine⟨_,G4 p (i+1),?_,⟨i+1,⟨by omega,rfl⟩,rfl⟩,by omega⟩
    unfold G4
    rw[hn]
    exact Q0 [0,4] (by exact rfl) ⟨.refl _,Q3 (by simp),Qa (by first|rfl|omega),.refl _,trivial⟩ ⟨⟨by decide,_,rfl,by rw[e2];exact .refl _⟩,⟨by decide,_,rfl,Q1 (by exact gSt (o0::ot) _) (fSt _)⟩,trivial⟩
  ·have hn:Vf p (i+1)=(out,fr):=by rw[Vf,if_neg h46,hq]
   have e3:¬((Utf8.decode ⟨⟨p⟩⟩ i).1:Int)=46:=by
    rw[e1];intro h;exact h46 (UInt8.toNat_inj.1 (by show _=46;omega))
   cases out with
   |nil=>
    repeat' first|refine And.intro ?_ ?_|(intro h;try first|exact dz|replace h:=cv)
    all_goals try exact cz
    refine⟨_,G4 p (i+1),?_,⟨i+1,⟨by omega,rfl⟩,rfl⟩,by omega⟩
    unfold G4
    rw[hn]
    exact Q0 [0,1] (by exact rfl) ⟨.refl _,.refl _,.refl _,.refl _,trivial⟩ ⟨⟨by decide,_,rfl,by rw[e2];exact .refl _⟩,trivial⟩
   |cons o0 ot=>
    repeat' first|refine And.intro ?_ ?_|(intro h;try first|exact dz|replace h:=cv)
    all_goals try exact cz
    refine⟨_,G4 p (i+1),?_,⟨i+1,⟨by omega,rfl⟩,rfl⟩,by omega⟩
    unfold G4
    rw[hn]
    exact Q0 [0,1] (by exact rfl) ⟨.refl _,.refl _,.refl _,.refl _,trivial⟩ ⟨⟨by decide,_,rfl,by rw[e2];exact .refl _⟩,⟨by decide,_,rfl,Qo (fSt _)⟩,trivial⟩
 ·obtain rfl:i=p.length:=by omega
  have hn:ZR p=out++[p.drop fr]:=by rw[ZR,hq]
  have ht:(p.drop fr).take (p.length-fr)=p.drop fr:=List.take_of_length_le (by simp)
  cases out with
  |nil=>
   repeat' first|refine And.intro ?_ ?_|(intro h;try first|exact dz|replace h:=cv)
   all_goals try exact cz
   refine⟨⟨[(2,vT 1 encSt [] (ZR p))],[],1⟩,Reb.trans (s':=⟨[(2,.slice 0 0 (ZR p).length 1 none)],[(0,some (.cells ((ZR p).map encSt) false))],1⟩) ?_ (Xy [] rfl rfl (fSt _) (List.take_of_length_le (by simp)) (by simp)),_,rfl,rfl,rfl⟩
   rw[hn]
   exact Q0 [3] (by exact rfl) ⟨.cap _ _ _ _ _,trivial⟩ ⟨⟨by decide,_,rfl,Q1 (by exact congrArg (fun z=>[[AVal.str z]]) ht) (fSt _)⟩,trivial⟩
  |cons o0 ot=>
   repeat' first|refine And.intro ?_ ?_|(intro h;try first|exact dz|replace h:=cv)
   all_goals try exact cz
   all_goals(conv=>whnf)
   refine⟨⟨[(2,vT 1 encSt [] (ZR p))],[],1⟩,Reb.trans (s':=⟨[(2,.slice 0 0 (ZR p).length 1 none)],[(0,some (.cells ((ZR p).map encSt) false))],1⟩) ?_ (Xy [] rfl rfl (fSt _) (List.take_of_length_le (by simp)) (by simp)),_,rfl,rfl,rfl⟩
   rw[hn]
   exact Q0 [3] (by exact rfl) ⟨Q3 (by simp),trivial⟩ ⟨⟨by decide,_,rfl,Q1 (by rw[←ht];exact gSt (o0::ot) _) (fSt _)⟩,trivial⟩
def S_names:SpecI:=fun args K=>∃p:List UInt8,args=[.str p]∧(p.length≤1000∧ ∀k,k<p.length→(p.getD k 0).toNat<128)∧K (vT 1 encSt [] (ZR p))
theorem He[Syms]:Z8 Tryz.prog 88 S_names:=by
 rintro args K ⟨p,rfl,⟨h1,h2⟩,hk⟩
 exact⟨rfl,_,rfl,hk,fnI QC Qz Qe Qk QV (IG p h1 h2)⟩
theorem G6(p:List UInt8):(ZR p).length≤p.length+1:=by
 have:=(F1 p p.length).2
 simp[ZR];omega
end
end Go.Proofs.YtekipcaifckffaaGreat
