/-
  'Leaves':the fields that are no groups. What is asked of the function of leaves,and what it answers. The program's. What is asked of the functions of shapes,and what they answer.
-/
import Derived.Test.YtcpikannlnmafaaL4
import Derived.Test.YtcpikannlnmafaaL2
set_option linter.unusedVariables false
set_option linter.unusedSimpArgs false
namespace Go.Proofs.Ytcpikannlnmafaa
open Go Go.Av
section
set_option maxRecDepth 100000
set_option maxHeartbeats 4000000
def Zb(lv:List Lf)(n:Nat):List (List AVal):=lv.map QW++List.replicate (n-lv.length) (QW lf0)
def lE(fs:List Fd)(ps:List Int)(n i:Nat)(out:AVal):Env:=[(0,vF fs),(3,vI ps),(4,.slice 0 0 n 4 none),(5,out),(15,vF fs),(16,.int .i64 n),(17,.int .i64 i)]
def lA(fs:List Fd)(ps:List Int)(n i:Nat):St:=⟨lE fs ps n i .nils,[(0,some (.cells (Zb (Qi fs ps i) n) false))],1⟩
def lB(fs:List Fd)(ps:List Int)(n i:Nat):St:=⟨lE fs ps n i (.slice 1 0 (QV fs ps i).length 4 none),[(0,some (.cells (Zb (Qi fs ps i) n) false)),(1,some (.cells ((QV fs ps i).map QW) false))],2⟩
theorem Pn(n:Nat):Qe (List.replicate n (QW lf0)):=fun r hr x hx=>by
 rw[List.eq_of_mem_replicate hr]at hx
 simp[QW]at hx;rcases hx with rfl|rfl|rfl|rfl<;>rfl
theorem fLR(lv:List Lf)(n:Nat):Qe (Zb lv n):=QC (fL _) (Pn _)
theorem FW{lv:List Lf}{n:Nat}(h:lv.length≤n):(Zb lv n).length=n:=by simp[Zb];omega
theorem Cb{lv:List Lf}{n p:Nat}(h:p<lv.length):(Zb lv n).getD p []=QW (lv.getD p default):=by
 simp[Zb,List.getD_eq_getElem?_getD,List.getElem?_append_left,h]
theorem Jw{lv:List Lf}{n:Nat}(h:lv.length<n):(Zb lv n).getD lv.length []=QW lf0:=by
 obtain⟨m,hm⟩:∃m,n-lv.length=m+1:=⟨n-lv.length-1,by omega⟩
 simp[Zb,List.getD_eq_getElem?_getD,hm,List.replicate_succ]
theorem Is{lv:List Lf}{n:Nat}(h:lv.length<n)(x:Lf):(Zb lv n).set lv.length (QW x)=Zb (lv++[x]) n:=by
 obtain⟨m,hm⟩:∃m,n-lv.length=m+1:=⟨n-lv.length-1,by omega⟩
 simp only[Zb,hm,List.replicate_succ]
 rw[List.set_append_right (h:=by simp)]
 simp
 omega
theorem QZ{fs:List Fd}{ps:List Int}{n i:Nat}{x y z w:Int}(h:i<n)(hM:mkL fs ps (Qi fs ps i) i=⟨x,y,z,w⟩):
 (Zb (Qi fs ps i) n).set (0+i) (Qm ((Zb (Qi fs ps i) n).getD (0+i) []) 0 [.int .i64 x,.int .i64 y,.int .i64 z,.int .i64 w])=Zb (Qi fs ps (i+1)) n:=by
 have h1:=Jw (lv:=Qi fs ps i) (n:=n) (by rw[QR];exact h)
 have h2:=Is (lv:=Qi fs ps i) (n:=n) (by rw[QR];exact h) ⟨x,y,z,w⟩
 rw[QR]at h1 h2
 rw[Nat.zero_add,h1,Qi,hM,←h2]
 rfl
def Qq(fs:List Fd)(ps:List Int)(i:Nat):Lf:=(Qi fs ps i).getD (ps.getD i 0).toNat default
def lS(fs:List Fd)(ps:List Int)(i:Nat)(b:Bool):St:=match b with
 |false=>⟨lE fs ps fs.length i .nils++[(6,.int .i64 i),(7,.ptr 1 0 0),(8,.ptr 2 0 0),(9,.int .i64 (ps.getD i 0))],[(0,some (.cells (Zb (Qi fs ps i) fs.length) false)),(1,some (.cells [encF (fs.getD i default)] false)),(2,some (.cells [QW ⟨i,(Qq fs ps i).r,(Qq fs ps i).d,(fs.getD i default).kind⟩] false))],3⟩
 |true=>⟨lE fs ps fs.length i (.slice 1 0 (QV fs ps i).length 4 none)++[(6,.int .i64 i),(7,.ptr 2 0 0),(8,.ptr 3 0 0),(9,.int .i64 (ps.getD i 0))],[(0,some (.cells (Zb (Qi fs ps i) fs.length) false)),(1,some (.cells ((QV fs ps i).map QW) false)),(2,some (.cells [encF (fs.getD i default)] false)),(3,some (.cells [QW ⟨i,(Qq fs ps i).r,(Qq fs ps i).d,(fs.getD i default).kind⟩] false))],4⟩
def Rg(fs:List Fd)(ps:List Int)(n:Nat)(m:Nat)(s:St):Prop:=∃i:Nat,(i≤n∧m=n-i)∧((QV fs ps i=[]∧s=lA fs ps n i)∨s=lB fs ps n i)
theorem LL[Syms](fs:List Fd)(hF:FsOk fs):
 fnT Qz (Qv 15 (Yh S_par) (Qv 35 (tB Qz Qz) Qz)) (Zc fns) (Z5 tys) (ZS plt) 100 16 [vF fs] [] 0 (fun v H _=>v=vL (Q5 fs)∧H=[]):=by
 have hl:=hF.len
 refine⟨fs,rfl,hF,?_⟩
 have hpl:=Qj fs
 have ha:=QF fs
 unfold Q5
 generalize Q0 fs=ps at *
 repeat' first|refine And.intro ?_ ?_|(intro h;try simp only[decide_eq_true_eq,decide_eq_false_iff_not,Int.not_lt,Int.not_le,Int.toNat_natCast,↓reduceIte,Nat.reduceAdd,reduceCtorEq,Int.reduceLT,Int.lt_irrefl,gt_iff_lt,not_true_eq_false,not_false_eq_true,Bool.not_true,Bool.not_false,decide_false,decide_true,Int.reduceLE,Int.reduceSub,Bool.false_eq_true,Bool.true_eq_false,Nat.reduceEqDiff,Nat.one_ne_zero,Nat.reduceLT,and_self,and_true,true_and,Int.natCast_zero,Int.cast_ofNat_Int,List.length_nil,ne_eq,Decidable.not_not]at h)
 all_goals(try first|exact PlanIs.mk (by kernel_rfl)|omega|(show(_:Int)*((32:Nat):Int)≤_;omega)|(show(_:Int)*((8:Nat):Int)≤_;omega)|(show(_:Int)*((24:Nat):Int)≤_;omega)|exact rfl|exact Nat.le_of_ble_eq_true rfl|(show(_:Nat)≤(_:Nat);simp;done)|(show(_:Nat)≤(_:Nat);simp;omega))
 refine⟨Rg fs ps fs.length,⟨_,lA fs ps fs.length 0,Q1 [0] rfl ?_ ?_,0,⟨by omega,rfl⟩,.inl ⟨rfl,rfl⟩⟩,?_⟩
 ·exact⟨.refl _,.refl _,.cap _ _ _ _ _,.refl _,.refl _,.refl _,.refl _,trivial⟩
 ·exact⟨⟨by decide,_,rfl,Q2 rfl (fLR _ _)⟩,trivial⟩
 rintro m s ⟨i,⟨hi,rfl⟩,(⟨h0,rfl⟩|rfl)⟩
 ·have hol:=Zw fs ps i
  have hll:=QR fs ps i
  by_cases hin:i<fs.length
  ·have hxi:(Zb (Qi fs ps i) fs.length).getD i []=QW lf0:=by have:=Jw (lv:=Qi fs ps i) (n:=fs.length) (by rw[QR];exact hin);rwa [QR]at this
   have hq:=ha i hin
   have hln:(Zb (Qi fs ps i) fs.length).length=fs.length:=FW (by omega)
   rcases Int.lt_or_le (ps.getD i 0) 0 with hp|hp
   ·have hB:WC (Qi fs ps i) (ps.getD i 0)=lf0:=by rw[WC,if_neg (by omega)]
    repeat' first|refine And.intro ?_ ?_|(intro h;(try first|replace h:=of_decide_eq_true h|replace h:=of_decide_eq_false h);(try simp only[Q6,YA,XA,Qb,QI,V3,V2,V1,Qr,Yy,Yx,Yw,Ql,V0,WZ,WY,WX,Yv,Yu,Yt,Ys,Nat.zero_add,Nat.add_zero,Int.toNat_natCast,Int.toNat_zero]at h);try simp only[decide_eq_true_eq,decide_eq_false_iff_not,Int.not_lt,Int.not_le,Int.toNat_natCast,↓reduceIte,Nat.reduceAdd,reduceCtorEq,Int.reduceLT,Int.lt_irrefl,gt_iff_lt,not_true_eq_false,not_false_eq_true,Bool.not_true,Bool.not_false,decide_false,decide_true,Int.reduceLE,Int.reduceSub,Bool.false_eq_true,Bool.true_eq_false,Nat.reduceEqDiff,Nat.one_ne_zero,Nat.reduceLT,and_self,and_true,true_and,Int.natCast_zero,Int.cast_ofNat_Int,List.length_nil,ne_eq,Decidable.not_not]at h)
    all_goals(try first|exact PlanIs.mk (by kernel_rfl)|omega|(show(_:Int)*((32:Nat):Int)≤_;omega)|(show(_:Int)*((8:Nat):Int)≤_;omega)|(show(_:Int)*((24:Nat):Int)≤_;omega)|exact rfl|exact Nat.le_of_ble_eq_true rfl|(show(_:Nat)≤(_:Nat);simp;done)|(show(_:Nat)≤(_:Nat);simp;omega))
    all_goals(try first|(show(-9223372036854775808:Int)≤lf0.r+1;first|decide|omega)|(show(-9223372036854775808:Int)≤lf0.d+1;first|decide|omega)|(show lf0.r+1≤(9223372036854775807:Int);first|decide|omega)|(show lf0.d+1≤(9223372036854775807:Int);first|decide|omega))
    all_goals(try first|(show 0+i<(Zb (Qi fs ps i) fs.length).length;rw[hln];omega)|(show 0+4≤(List.length ((Zb (Qi fs ps i) fs.length).getD (0+i) []));rw[Nat.zero_add i,hxi];exact Nat.le_refl 4))
    all_goals first
    |(have hr:(fs.getD i default).rep=2:=by assumption
      have hk:(fs.getD i default).kind=0:=by assumption
      have hM:mkL fs ps (Qi fs ps i) i=⟨i,lf0.r+1,lf0.d+1,(fs.getD i default).kind⟩:=by(simp only[mkL,hB];rw[if_pos hr,if_pos (by omega)])
      refine⟨_,lA fs ps fs.length (i+1),Q1 [0] rfl ?_ ?_,⟨i+1,⟨by omega,rfl⟩,.inl ⟨by rw[Q9,if_neg (by omega)];exact h0,rfl⟩⟩,by omega⟩
      ·exact⟨.refl _,.refl _,.refl _,.refl _,.refl _,.refl _,.refl _,trivial⟩
      ·refine⟨⟨by decide,_,rfl,Q2 ?_ (fLR _ _)⟩,trivial⟩
       ·exact QZ (x:=i) (y:=lf0.r+1) (z:=lf0.d+1) (w:=(fs.getD i default).kind) hin hM)
    |(have hr:(fs.getD i default).rep=2:=by assumption
      have hk:¬(fs.getD i default).kind=0:=by assumption
      have hM:mkL fs ps (Qi fs ps i) i=⟨i,lf0.r+1,lf0.d+1,(fs.getD i default).kind⟩:=by(simp only[mkL,hB];rw[if_pos hr,if_pos (by omega)])
      refine⟨_,lB fs ps fs.length (i+1),Q1 [0,9] rfl ?_ ?_,⟨i+1,⟨by omega,rfl⟩,.inr rfl⟩,by omega⟩
      ·exact⟨.refl _,.refl _,.refl _,Q4 (by rw[Q9,if_pos hk,h0,List.length_append];rfl),.refl _,.refl _,.refl _,trivial⟩
      ·refine⟨⟨by decide,_,rfl,Q2 ?_ (fLR _ _)⟩,⟨by decide,_,rfl,Q2 ?_ (fL _)⟩,trivial⟩
       ·exact QZ (x:=i) (y:=lf0.r+1) (z:=lf0.d+1) (w:=(fs.getD i default).kind) hin hM
       ·(rw[Q9,if_pos hk,hM,h0];rfl))
    |(have hr:¬(fs.getD i default).rep=2:=by assumption
      have hz:¬(fs.getD i default).rep=0:=by assumption
      have hk:(fs.getD i default).kind=0:=by assumption
      have hM:mkL fs ps (Qi fs ps i) i=⟨i,lf0.r,lf0.d+1,(fs.getD i default).kind⟩:=by(simp only[mkL,hB];rw[if_neg hr,if_pos hz])
      refine⟨_,lA fs ps fs.length (i+1),Q1 [0] rfl ?_ ?_,⟨i+1,⟨by omega,rfl⟩,.inl ⟨by rw[Q9,if_neg (by omega)];exact h0,rfl⟩⟩,by omega⟩
      ·exact⟨.refl _,.refl _,.refl _,.refl _,.refl _,.refl _,.refl _,trivial⟩
      ·refine⟨⟨by decide,_,rfl,Q2 ?_ (fLR _ _)⟩,trivial⟩
       ·exact QZ (x:=i) (y:=lf0.r) (z:=lf0.d+1) (w:=(fs.getD i default).kind) hin hM)
    |(have hr:¬(fs.getD i default).rep=2:=by assumption
      have hz:¬(fs.getD i default).rep=0:=by assumption
      have hk:¬(fs.getD i default).kind=0:=by assumption
      have hM:mkL fs ps (Qi fs ps i) i=⟨i,lf0.r,lf0.d+1,(fs.getD i default).kind⟩:=by(simp only[mkL,hB];rw[if_neg hr,if_pos hz])
      refine⟨_,lB fs ps fs.length (i+1),Q1 [0,8] rfl ?_ ?_,⟨i+1,⟨by omega,rfl⟩,.inr rfl⟩,by omega⟩
      ·exact⟨.refl _,.refl _,.refl _,Q4 (by rw[Q9,if_pos hk,h0,List.length_append];rfl),.refl _,.refl _,.refl _,trivial⟩
      ·refine⟨⟨by decide,_,rfl,Q2 ?_ (fLR _ _)⟩,⟨by decide,_,rfl,Q2 ?_ (fL _)⟩,trivial⟩
       ·exact QZ (x:=i) (y:=lf0.r) (z:=lf0.d+1) (w:=(fs.getD i default).kind) hin hM
       ·(rw[Q9,if_pos hk,hM,h0];rfl))
    |(have hr:(fs.getD i default).rep=0:=by assumption
      have hk:(fs.getD i default).kind=0:=by assumption
      have hM:mkL fs ps (Qi fs ps i) i=⟨i,lf0.r,lf0.d,(fs.getD i default).kind⟩:=by(simp only[mkL,hB];rw[if_neg (by omega),if_neg (by omega)])
      refine⟨_,lA fs ps fs.length (i+1),Q1 [0] rfl ?_ ?_,⟨i+1,⟨by omega,rfl⟩,.inl ⟨by rw[Q9,if_neg (by omega)];exact h0,rfl⟩⟩,by omega⟩
      ·exact⟨.refl _,.refl _,.refl _,.refl _,.refl _,.refl _,.refl _,trivial⟩
      ·refine⟨⟨by decide,_,rfl,Q2 ?_ (fLR _ _)⟩,trivial⟩
       ·exact QZ (x:=i) (y:=lf0.r) (z:=lf0.d) (w:=(fs.getD i default).kind) hin hM)
    |(have hr:(fs.getD i default).rep=0:=by assumption
      have hk:¬(fs.getD i default).kind=0:=by assumption
      have hM:mkL fs ps (Qi fs ps i) i=⟨i,lf0.r,lf0.d,(fs.getD i default).kind⟩:=by(simp only[mkL,hB];rw[if_neg (by omega),if_neg (by omega)])
      refine⟨_,lB fs ps fs.length (i+1),Q1 [0,7] rfl ?_ ?_,⟨i+1,⟨by omega,rfl⟩,.inr rfl⟩,by omega⟩
      ·exact⟨.refl _,.refl _,.refl _,Q4 (by rw[Q9,if_pos hk,h0,List.length_append];rfl),.refl _,.refl _,.refl _,trivial⟩
      ·refine⟨⟨by decide,_,rfl,Q2 ?_ (fLR _ _)⟩,⟨by decide,_,rfl,Q2 ?_ (fL _)⟩,trivial⟩
       ·exact QZ (x:=i) (y:=lf0.r) (z:=lf0.d) (w:=(fs.getD i default).kind) hin hM
       ·(rw[Q9,if_pos hk,hM,h0];rfl))
   ·have hB:WC (Qi fs ps i) (ps.getD i 0)=Qq fs ps i:=by rw[WC,if_pos hp];rfl
    have hb:=YJ (fs:=fs) ha i (by omega) (ps.getD i 0).toNat (by omega)
    change 0≤(Qq fs ps i).r∧(Qq fs ps i).r≤(Qq fs ps i).d∧(Qq fs ps i).d≤_ at hb
    have hxp:(Zb (Qi fs ps i) fs.length).getD (0+(ps.getD i 0).toNat) []=QW (Qq fs ps i):=by rw[Nat.zero_add];exact Cb (by omega)
    repeat' first|refine And.intro ?_ ?_|(intro h;(try first|replace h:=of_decide_eq_true h|replace h:=of_decide_eq_false h);(try simp only[Q6,YA,XA,Qb,QI,V3,V2,V1,Qr,Yy,Yx,Yw,Ql,V0,WZ,WY,WX,Yv,Yu,Yt,Ys,Nat.zero_add,Nat.add_zero,Int.toNat_natCast,Int.toNat_zero]at h);try simp only[decide_eq_true_eq,decide_eq_false_iff_not,Int.not_lt,Int.not_le,Int.toNat_natCast,↓reduceIte,Nat.reduceAdd,reduceCtorEq,Int.reduceLT,Int.lt_irrefl,gt_iff_lt,not_true_eq_false,not_false_eq_true,Bool.not_true,Bool.not_false,decide_false,decide_true,Int.reduceLE,Int.reduceSub,Bool.false_eq_true,Bool.true_eq_false,Nat.reduceEqDiff,Nat.one_ne_zero,Nat.reduceLT,and_self,and_true,true_and,Int.natCast_zero,Int.cast_ofNat_Int,List.length_nil,ne_eq,Decidable.not_not]at h)
    all_goals(try first|exact PlanIs.mk (by kernel_rfl)|omega|(show(_:Int)*((32:Nat):Int)≤_;omega)|(show(_:Int)*((8:Nat):Int)≤_;omega)|(show(_:Int)*((24:Nat):Int)≤_;omega)|exact rfl|exact Nat.le_of_ble_eq_true rfl|(show(_:Nat)≤(_:Nat);simp;done)|(show(_:Nat)≤(_:Nat);simp;omega))
    ·exact NoSel.mk (by kernel_rfl)
    refine⟨lS fs ps i false,?_,?_⟩
    · repeat' first|refine And.intro ?_ ?_|(intro h;(try first|replace h:=of_decide_eq_true h|replace h:=of_decide_eq_false h);(try simp only[Q6,YA,XA,Qb,QI,V3,V2,V1,Qr,Yy,Yx,Yw,Ql,V0,WZ,WY,WX,Yv,Yu,Yt,Ys,Nat.zero_add,Nat.add_zero,Int.toNat_natCast,Int.toNat_zero]at h);try simp only[decide_eq_true_eq,decide_eq_false_iff_not,Int.not_lt,Int.not_le,Int.toNat_natCast,↓reduceIte,Nat.reduceAdd,reduceCtorEq,Int.reduceLT,Int.lt_irrefl,gt_iff_lt,not_true_eq_false,not_false_eq_true,Bool.not_true,Bool.not_false,decide_false,decide_true,Int.reduceLE,Int.reduceSub,Bool.false_eq_true,Bool.true_eq_false,Nat.reduceEqDiff,Nat.one_ne_zero,Nat.reduceLT,and_self,and_true,true_and,Int.natCast_zero,Int.cast_ofNat_Int,List.length_nil,ne_eq,Decidable.not_not]at h)
      all_goals(try first|exact PlanIs.mk (by kernel_rfl)|omega|(show(_:Int)*((32:Nat):Int)≤_;omega)|(show(_:Int)*((8:Nat):Int)≤_;omega)|(show(_:Int)*((24:Nat):Int)≤_;omega)|exact rfl|exact Nat.le_of_ble_eq_true rfl|(show(_:Nat)≤(_:Nat);simp;done)|(show(_:Nat)≤(_:Nat);simp;omega))
      all_goals(try exact Apart.mk (by kernel_rfl))
      all_goals(try first|(show isC _ _ (((Zb (Qi fs ps i) fs.length).getD (0+(ps.getD i 0).toNat) []).getD _ _)=true;rw[hxp];exact rfl)|(show(0:Int)≤ps.getD i 0;omega)|(show ps.getD i 0<(fs.length:Int);omega))
      all_goals
       refine Exists.intro () ?_
       refine Q1 [0,1,3] (by exact rfl) ?_ ?_
       ·exact⟨.refl _,.refl _,.refl _,.refl _,.refl _,.refl _,.refl _,.refl _,.refl _,.refl _,.refl _,trivial⟩
       ·refine⟨⟨by decide,_,rfl,Q2 rfl (fLR _ _)⟩,⟨by decide,_,rfl,Q2 rfl (fF [fs.getD i default])⟩,⟨by decide,_,rfl,Q2 ?_ (fL [_])⟩,trivial⟩
        show[[AVal.int .i64 i,.int .i64 (asI (((Zb (Qi fs ps i) fs.length).getD (0+(ps.getD i 0).toNat) []).getD 1 .any)),.int .i64 (asI (((Zb (Qi fs ps i) fs.length).getD (0+(ps.getD i 0).toNat) []).getD 2 .any)),.int .i64 (fs.getD i default).kind]]=_
        rw[hxp];rfl
    repeat' first|refine And.intro ?_ ?_|(intro h;(try first|replace h:=of_decide_eq_true h|replace h:=of_decide_eq_false h);(try simp only[Q6,YA,XA,Qb,QI,V3,V2,V1,Qr,Yy,Yx,Yw,Ql,V0,WZ,WY,WX,Yv,Yu,Yt,Ys,Nat.zero_add,Nat.add_zero,Int.toNat_natCast,Int.toNat_zero]at h);try simp only[decide_eq_true_eq,decide_eq_false_iff_not,Int.not_lt,Int.not_le,Int.toNat_natCast,↓reduceIte,Nat.reduceAdd,reduceCtorEq,Int.reduceLT,Int.lt_irrefl,gt_iff_lt,not_true_eq_false,not_false_eq_true,Bool.not_true,Bool.not_false,decide_false,decide_true,Int.reduceLE,Int.reduceSub,Bool.false_eq_true,Bool.true_eq_false,Nat.reduceEqDiff,Nat.one_ne_zero,Nat.reduceLT,and_self,and_true,true_and,Int.natCast_zero,Int.cast_ofNat_Int,List.length_nil,ne_eq,Decidable.not_not]at h)
    all_goals(try first|exact PlanIs.mk (by kernel_rfl)|omega|(show(_:Int)*((32:Nat):Int)≤_;omega)|(show(_:Int)*((8:Nat):Int)≤_;omega)|(show(_:Int)*((24:Nat):Int)≤_;omega)|exact rfl|exact Nat.le_of_ble_eq_true rfl|(show(_:Nat)≤(_:Nat);simp;done)|(show(_:Nat)≤(_:Nat);simp;omega))
    all_goals(try first|(show(-9223372036854775808:Int)≤(Qq fs ps i).r+1;first|decide|omega)|(show(-9223372036854775808:Int)≤(Qq fs ps i).d+1;first|decide|omega)|(show(Qq fs ps i).r+1≤(9223372036854775807:Int);first|decide|omega)|(show(Qq fs ps i).d+1≤(9223372036854775807:Int);first|decide|omega))
    all_goals(try first|(show 0+i<(Zb (Qi fs ps i) fs.length).length;rw[hln];omega)|(show 0+4≤(List.length ((Zb (Qi fs ps i) fs.length).getD (0+i) []));rw[Nat.zero_add i,hxi];exact Nat.le_refl 4))
    all_goals first
    |(have hr:(fs.getD i default).rep=2:=by assumption
      have hk:(fs.getD i default).kind=0:=by assumption
      have hM:mkL fs ps (Qi fs ps i) i=⟨i,(Qq fs ps i).r+1,(Qq fs ps i).d+1,(fs.getD i default).kind⟩:=by(simp only[mkL,hB];rw[if_pos hr,if_pos (by omega)])
      refine⟨_,lA fs ps fs.length (i+1),Q1 [0] rfl ?_ ?_,⟨i+1,⟨by omega,rfl⟩,.inl ⟨by rw[Q9,if_neg (by omega)];exact h0,rfl⟩⟩,by omega⟩
      ·exact⟨.refl _,.refl _,.refl _,.refl _,.refl _,.refl _,.refl _,trivial⟩
      ·refine⟨⟨by decide,_,rfl,Q2 ?_ (fLR _ _)⟩,trivial⟩
       ·exact QZ (x:=i) (y:=(Qq fs ps i).r+1) (z:=(Qq fs ps i).d+1) (w:=(fs.getD i default).kind) hin hM)
    |(have hr:(fs.getD i default).rep=2:=by assumption
      have hk:¬(fs.getD i default).kind=0:=by assumption
      have hM:mkL fs ps (Qi fs ps i) i=⟨i,(Qq fs ps i).r+1,(Qq fs ps i).d+1,(fs.getD i default).kind⟩:=by(simp only[mkL,hB];rw[if_pos hr,if_pos (by omega)])
      refine⟨_,lB fs ps fs.length (i+1),Q1 [0,7] rfl ?_ ?_,⟨i+1,⟨by omega,rfl⟩,.inr rfl⟩,by omega⟩
      ·exact⟨.refl _,.refl _,.refl _,Q4 (by rw[Q9,if_pos hk,h0,List.length_append];rfl),.refl _,.refl _,.refl _,trivial⟩
      ·refine⟨⟨by decide,_,rfl,Q2 ?_ (fLR _ _)⟩,⟨by decide,_,rfl,Q2 ?_ (fL _)⟩,trivial⟩
       ·exact QZ (x:=i) (y:=(Qq fs ps i).r+1) (z:=(Qq fs ps i).d+1) (w:=(fs.getD i default).kind) hin hM
       ·(rw[Q9,if_pos hk,hM,h0];rfl))
    |(have hr:¬(fs.getD i default).rep=2:=by assumption
      have hz:¬(fs.getD i default).rep=0:=by assumption
      have hk:(fs.getD i default).kind=0:=by assumption
      have hM:mkL fs ps (Qi fs ps i) i=⟨i,(Qq fs ps i).r,(Qq fs ps i).d+1,(fs.getD i default).kind⟩:=by(simp only[mkL,hB];rw[if_neg hr,if_pos hz])
      refine⟨_,lA fs ps fs.length (i+1),Q1 [0] rfl ?_ ?_,⟨i+1,⟨by omega,rfl⟩,.inl ⟨by rw[Q9,if_neg (by omega)];exact h0,rfl⟩⟩,by omega⟩
      ·exact⟨.refl _,.refl _,.refl _,.refl _,.refl _,.refl _,.refl _,trivial⟩
      ·refine⟨⟨by decide,_,rfl,Q2 ?_ (fLR _ _)⟩,trivial⟩
       ·exact QZ (x:=i) (y:=(Qq fs ps i).r) (z:=(Qq fs ps i).d+1) (w:=(fs.getD i default).kind) hin hM)
    |(have hr:¬(fs.getD i default).rep=2:=by assumption
      have hz:¬(fs.getD i default).rep=0:=by assumption
      have hk:¬(fs.getD i default).kind=0:=by assumption
      have hM:mkL fs ps (Qi fs ps i) i=⟨i,(Qq fs ps i).r,(Qq fs ps i).d+1,(fs.getD i default).kind⟩:=by(simp only[mkL,hB];rw[if_neg hr,if_pos hz])
      refine⟨_,lB fs ps fs.length (i+1),Q1 [0,6] rfl ?_ ?_,⟨i+1,⟨by omega,rfl⟩,.inr rfl⟩,by omega⟩
      ·exact⟨.refl _,.refl _,.refl _,Q4 (by rw[Q9,if_pos hk,h0,List.length_append];rfl),.refl _,.refl _,.refl _,trivial⟩
      ·refine⟨⟨by decide,_,rfl,Q2 ?_ (fLR _ _)⟩,⟨by decide,_,rfl,Q2 ?_ (fL _)⟩,trivial⟩
       ·exact QZ (x:=i) (y:=(Qq fs ps i).r) (z:=(Qq fs ps i).d+1) (w:=(fs.getD i default).kind) hin hM
       ·(rw[Q9,if_pos hk,hM,h0];rfl))
    |(have hr:(fs.getD i default).rep=0:=by assumption
      have hk:(fs.getD i default).kind=0:=by assumption
      have hM:mkL fs ps (Qi fs ps i) i=⟨i,(Qq fs ps i).r,(Qq fs ps i).d,(fs.getD i default).kind⟩:=by(simp only[mkL,hB];rw[if_neg (by omega),if_neg (by omega)])
      refine⟨_,lA fs ps fs.length (i+1),Q1 [0] rfl ?_ ?_,⟨i+1,⟨by omega,rfl⟩,.inl ⟨by rw[Q9,if_neg (by omega)];exact h0,rfl⟩⟩,by omega⟩
      ·exact⟨.refl _,.refl _,.refl _,.refl _,.refl _,.refl _,.refl _,trivial⟩
      ·refine⟨⟨by decide,_,rfl,Q2 ?_ (fLR _ _)⟩,trivial⟩
       ·exact QZ (x:=i) (y:=(Qq fs ps i).r) (z:=(Qq fs ps i).d) (w:=(fs.getD i default).kind) hin hM)
    |(have hr:(fs.getD i default).rep=0:=by assumption
      have hk:¬(fs.getD i default).kind=0:=by assumption
      have hM:mkL fs ps (Qi fs ps i) i=⟨i,(Qq fs ps i).r,(Qq fs ps i).d,(fs.getD i default).kind⟩:=by(simp only[mkL,hB];rw[if_neg (by omega),if_neg (by omega)])
      refine⟨_,lB fs ps fs.length (i+1),Q1 [0,5] rfl ?_ ?_,⟨i+1,⟨by omega,rfl⟩,.inr rfl⟩,by omega⟩
      ·exact⟨.refl _,.refl _,.refl _,Q4 (by rw[Q9,if_pos hk,h0,List.length_append];rfl),.refl _,.refl _,.refl _,trivial⟩
      ·refine⟨⟨by decide,_,rfl,Q2 ?_ (fLR _ _)⟩,⟨by decide,_,rfl,Q2 ?_ (fL _)⟩,trivial⟩
       ·exact QZ (x:=i) (y:=(Qq fs ps i).r) (z:=(Qq fs ps i).d) (w:=(fs.getD i default).kind) hin hM
       ·(rw[Q9,if_pos hk,hM,h0];rfl))
  ·obtain rfl:i=fs.length:=by omega
   repeat' first|refine And.intro ?_ ?_|(intro h;(try first|replace h:=of_decide_eq_true h|replace h:=of_decide_eq_false h);(try simp only[Q6,YA,XA,Qb,QI,V3,V2,V1,Qr,Yy,Yx,Yw,Ql,V0,WZ,WY,WX,Yv,Yu,Yt,Ys,Nat.zero_add,Nat.add_zero,Int.toNat_natCast,Int.toNat_zero]at h);(try simp only[decide_eq_true_eq,decide_eq_false_iff_not,Int.not_lt,Int.not_le,Int.toNat_natCast,↓reduceIte,Nat.reduceAdd,reduceCtorEq,Int.reduceLT,Int.lt_irrefl,gt_iff_lt,not_true_eq_false,not_false_eq_true,Bool.not_true,Bool.not_false,decide_false,decide_true,Int.reduceLE,Int.reduceSub,Bool.false_eq_true,Bool.true_eq_false,Nat.reduceEqDiff,Nat.one_ne_zero,Nat.reduceLT,and_self,and_true,true_and,Int.natCast_zero,Int.cast_ofNat_Int,List.length_nil,ne_eq,Decidable.not_not]at h);try(exfalso;omega))
   all_goals(try first|exact PlanIs.mk (by kernel_rfl)|omega|(show(_:Int)*((32:Nat):Int)≤_;omega)|(show(_:Int)*((8:Nat):Int)≤_;omega)|(show(_:Int)*((24:Nat):Int)≤_;omega)|exact rfl|exact Nat.le_of_ble_eq_true rfl|(show(_:Nat)≤(_:Nat);simp;done)|(show(_:Nat)≤(_:Nat);simp;omega))
   all_goals(try first|exact VP (enc:=QW) (z:=4) (fun _=>rfl) _ _ _|(show(0+(QV fs ps fs.length).length)*32≤_;omega))
   refine⟨_,.refl _ _ _,_,rfl,?_⟩
   refine⟨_,Kw (k:=2) 4 QW default rfl,_,rfl,?_,rfl⟩
   rw[h0];rfl
 ·have hol:=Zw fs ps i
  have hll:=QR fs ps i
  by_cases hin:i<fs.length
  ·have hxi:(Zb (Qi fs ps i) fs.length).getD i []=QW lf0:=by have:=Jw (lv:=Qi fs ps i) (n:=fs.length) (by rw[QR];exact hin);rwa [QR]at this
   have hq:=ha i hin
   have hln:(Zb (Qi fs ps i) fs.length).length=fs.length:=FW (by omega)
   rcases Int.lt_or_le (ps.getD i 0) 0 with hp|hp
   ·have hB:WC (Qi fs ps i) (ps.getD i 0)=lf0:=by rw[WC,if_neg (by omega)]
    repeat' first|refine And.intro ?_ ?_|(intro h;(try first|replace h:=of_decide_eq_true h|replace h:=of_decide_eq_false h);(try simp only[Q6,YA,XA,Qb,QI,V3,V2,V1,Qr,Yy,Yx,Yw,Ql,V0,WZ,WY,WX,Yv,Yu,Yt,Ys,Nat.zero_add,Nat.add_zero,Int.toNat_natCast,Int.toNat_zero]at h);try simp only[decide_eq_true_eq,decide_eq_false_iff_not,Int.not_lt,Int.not_le,Int.toNat_natCast,↓reduceIte,Nat.reduceAdd,reduceCtorEq,Int.reduceLT,Int.lt_irrefl,gt_iff_lt,not_true_eq_false,not_false_eq_true,Bool.not_true,Bool.not_false,decide_false,decide_true,Int.reduceLE,Int.reduceSub,Bool.false_eq_true,Bool.true_eq_false,Nat.reduceEqDiff,Nat.one_ne_zero,Nat.reduceLT,and_self,and_true,true_and,Int.natCast_zero,Int.cast_ofNat_Int,List.length_nil,ne_eq,Decidable.not_not]at h)
    all_goals(try first|exact PlanIs.mk (by kernel_rfl)|omega|(show(_:Int)*((32:Nat):Int)≤_;omega)|(show(_:Int)*((8:Nat):Int)≤_;omega)|(show(_:Int)*((24:Nat):Int)≤_;omega)|exact rfl|exact Nat.le_of_ble_eq_true rfl|(show(_:Nat)≤(_:Nat);simp;done)|(show(_:Nat)≤(_:Nat);simp;omega))
    all_goals(try first|(show(-9223372036854775808:Int)≤lf0.r+1;first|decide|omega)|(show(-9223372036854775808:Int)≤lf0.d+1;first|decide|omega)|(show lf0.r+1≤(9223372036854775807:Int);first|decide|omega)|(show lf0.d+1≤(9223372036854775807:Int);first|decide|omega))
    all_goals(try first|(show 0+i<(Zb (Qi fs ps i) fs.length).length;rw[hln];omega)|(show 0+4≤(List.length ((Zb (Qi fs ps i) fs.length).getD (0+i) []));rw[Nat.zero_add i,hxi];exact Nat.le_refl 4))
    all_goals first
    |(have hr:(fs.getD i default).rep=2:=by assumption
      have hk:(fs.getD i default).kind=0:=by assumption
      have hM:mkL fs ps (Qi fs ps i) i=⟨i,lf0.r+1,lf0.d+1,(fs.getD i default).kind⟩:=by(simp only[mkL,hB];rw[if_pos hr,if_pos (by omega)])
      refine⟨_,lB fs ps fs.length (i+1),Q1 [0,1] rfl ?_ ?_,⟨i+1,⟨by omega,rfl⟩,.inr rfl⟩,by omega⟩
      ·exact⟨.refl _,.refl _,.refl _,Q4 (by rw[Q9,if_neg (by omega)]),.refl _,.refl _,.refl _,trivial⟩
      ·refine⟨⟨by decide,_,rfl,Q2 ?_ (fLR _ _)⟩,⟨by decide,_,rfl,Q2 ?_ (fL _)⟩,trivial⟩
       ·exact QZ (x:=i) (y:=lf0.r+1) (z:=lf0.d+1) (w:=(fs.getD i default).kind) hin hM
       ·rw[Q9,if_neg (by omega)])
    |(have hr:(fs.getD i default).rep=2:=by assumption
      have hk:¬(fs.getD i default).kind=0:=by assumption
      have hM:mkL fs ps (Qi fs ps i) i=⟨i,lf0.r+1,lf0.d+1,(fs.getD i default).kind⟩:=by(simp only[mkL,hB];rw[if_pos hr,if_pos (by omega)])
      refine⟨_,lB fs ps fs.length (i+1),Q1 [0,10] rfl ?_ ?_,⟨i+1,⟨by omega,rfl⟩,.inr rfl⟩,by omega⟩
      ·exact⟨.refl _,.refl _,.refl _,Q4 (by rw[Q9,if_pos hk,List.length_append];rfl),.refl _,.refl _,.refl _,trivial⟩
      ·refine⟨⟨by decide,_,rfl,Q2 ?_ (fLR _ _)⟩,⟨by decide,_,rfl,Q2 ?_ (fL _)⟩,trivial⟩
       ·exact QZ (x:=i) (y:=lf0.r+1) (z:=lf0.d+1) (w:=(fs.getD i default).kind) hin hM
       ·(rw[Q9,if_pos hk,hM,List.map_append];show List.take _ (List.drop 0 ((QV fs ps i).map QW))++[_]=_;rw[List.drop_zero,List.take_of_length_le (by rw[List.length_map];exact Nat.le_refl _)];rfl))
    |(have hr:¬(fs.getD i default).rep=2:=by assumption
      have hz:¬(fs.getD i default).rep=0:=by assumption
      have hk:(fs.getD i default).kind=0:=by assumption
      have hM:mkL fs ps (Qi fs ps i) i=⟨i,lf0.r,lf0.d+1,(fs.getD i default).kind⟩:=by(simp only[mkL,hB];rw[if_neg hr,if_pos hz])
      refine⟨_,lB fs ps fs.length (i+1),Q1 [0,1] rfl ?_ ?_,⟨i+1,⟨by omega,rfl⟩,.inr rfl⟩,by omega⟩
      ·exact⟨.refl _,.refl _,.refl _,Q4 (by rw[Q9,if_neg (by omega)]),.refl _,.refl _,.refl _,trivial⟩
      ·refine⟨⟨by decide,_,rfl,Q2 ?_ (fLR _ _)⟩,⟨by decide,_,rfl,Q2 ?_ (fL _)⟩,trivial⟩
       ·exact QZ (x:=i) (y:=lf0.r) (z:=lf0.d+1) (w:=(fs.getD i default).kind) hin hM
       ·rw[Q9,if_neg (by omega)])
    |(have hr:¬(fs.getD i default).rep=2:=by assumption
      have hz:¬(fs.getD i default).rep=0:=by assumption
      have hk:¬(fs.getD i default).kind=0:=by assumption
      have hM:mkL fs ps (Qi fs ps i) i=⟨i,lf0.r,lf0.d+1,(fs.getD i default).kind⟩:=by(simp only[mkL,hB];rw[if_neg hr,if_pos hz])
      refine⟨_,lB fs ps fs.length (i+1),Q1 [0,9] rfl ?_ ?_,⟨i+1,⟨by omega,rfl⟩,.inr rfl⟩,by omega⟩
      ·exact⟨.refl _,.refl _,.refl _,Q4 (by rw[Q9,if_pos hk,List.length_append];rfl),.refl _,.refl _,.refl _,trivial⟩
      ·refine⟨⟨by decide,_,rfl,Q2 ?_ (fLR _ _)⟩,⟨by decide,_,rfl,Q2 ?_ (fL _)⟩,trivial⟩
       ·exact QZ (x:=i) (y:=lf0.r) (z:=lf0.d+1) (w:=(fs.getD i default).kind) hin hM
       ·(rw[Q9,if_pos hk,hM,List.map_append];show List.take _ (List.drop 0 ((QV fs ps i).map QW))++[_]=_;rw[List.drop_zero,List.take_of_length_le (by rw[List.length_map];exact Nat.le_refl _)];rfl))
    |(have hr:(fs.getD i default).rep=0:=by assumption
      have hk:(fs.getD i default).kind=0:=by assumption
      have hM:mkL fs ps (Qi fs ps i) i=⟨i,lf0.r,lf0.d,(fs.getD i default).kind⟩:=by(simp only[mkL,hB];rw[if_neg (by omega),if_neg (by omega)])
      refine⟨_,lB fs ps fs.length (i+1),Q1 [0,1] rfl ?_ ?_,⟨i+1,⟨by omega,rfl⟩,.inr rfl⟩,by omega⟩
      ·exact⟨.refl _,.refl _,.refl _,Q4 (by rw[Q9,if_neg (by omega)]),.refl _,.refl _,.refl _,trivial⟩
      ·refine⟨⟨by decide,_,rfl,Q2 ?_ (fLR _ _)⟩,⟨by decide,_,rfl,Q2 ?_ (fL _)⟩,trivial⟩
       ·exact QZ (x:=i) (y:=lf0.r) (z:=lf0.d) (w:=(fs.getD i default).kind) hin hM
       ·rw[Q9,if_neg (by omega)])
    |(have hr:(fs.getD i default).rep=0:=by assumption
      have hk:¬(fs.getD i default).kind=0:=by assumption
      have hM:mkL fs ps (Qi fs ps i) i=⟨i,lf0.r,lf0.d,(fs.getD i default).kind⟩:=by(simp only[mkL,hB];rw[if_neg (by omega),if_neg (by omega)])
      refine⟨_,lB fs ps fs.length (i+1),Q1 [0,8] rfl ?_ ?_,⟨i+1,⟨by omega,rfl⟩,.inr rfl⟩,by omega⟩
      ·exact⟨.refl _,.refl _,.refl _,Q4 (by rw[Q9,if_pos hk,List.length_append];rfl),.refl _,.refl _,.refl _,trivial⟩
      ·refine⟨⟨by decide,_,rfl,Q2 ?_ (fLR _ _)⟩,⟨by decide,_,rfl,Q2 ?_ (fL _)⟩,trivial⟩
       ·exact QZ (x:=i) (y:=lf0.r) (z:=lf0.d) (w:=(fs.getD i default).kind) hin hM
       ·(rw[Q9,if_pos hk,hM,List.map_append];show List.take _ (List.drop 0 ((QV fs ps i).map QW))++[_]=_;rw[List.drop_zero,List.take_of_length_le (by rw[List.length_map];exact Nat.le_refl _)];rfl))
   ·have hB:WC (Qi fs ps i) (ps.getD i 0)=Qq fs ps i:=by rw[WC,if_pos hp];rfl
    have hb:=YJ (fs:=fs) ha i (by omega) (ps.getD i 0).toNat (by omega)
    change 0≤(Qq fs ps i).r∧(Qq fs ps i).r≤(Qq fs ps i).d∧(Qq fs ps i).d≤_ at hb
    have hxp:(Zb (Qi fs ps i) fs.length).getD (0+(ps.getD i 0).toNat) []=QW (Qq fs ps i):=by rw[Nat.zero_add];exact Cb (by omega)
    repeat' first|refine And.intro ?_ ?_|(intro h;(try first|replace h:=of_decide_eq_true h|replace h:=of_decide_eq_false h);(try simp only[Q6,YA,XA,Qb,QI,V3,V2,V1,Qr,Yy,Yx,Yw,Ql,V0,WZ,WY,WX,Yv,Yu,Yt,Ys,Nat.zero_add,Nat.add_zero,Int.toNat_natCast,Int.toNat_zero]at h);try simp only[decide_eq_true_eq,decide_eq_false_iff_not,Int.not_lt,Int.not_le,Int.toNat_natCast,↓reduceIte,Nat.reduceAdd,reduceCtorEq,Int.reduceLT,Int.lt_irrefl,gt_iff_lt,not_true_eq_false,not_false_eq_true,Bool.not_true,Bool.not_false,decide_false,decide_true,Int.reduceLE,Int.reduceSub,Bool.false_eq_true,Bool.true_eq_false,Nat.reduceEqDiff,Nat.one_ne_zero,Nat.reduceLT,and_self,and_true,true_and,Int.natCast_zero,Int.cast_ofNat_Int,List.length_nil,ne_eq,Decidable.not_not]at h)
    all_goals(try first|exact PlanIs.mk (by kernel_rfl)|omega|(show(_:Int)*((32:Nat):Int)≤_;omega)|(show(_:Int)*((8:Nat):Int)≤_;omega)|(show(_:Int)*((24:Nat):Int)≤_;omega)|exact rfl|exact Nat.le_of_ble_eq_true rfl|(show(_:Nat)≤(_:Nat);simp;done)|(show(_:Nat)≤(_:Nat);simp;omega))
    ·exact NoSel.mk (by kernel_rfl)
    refine⟨lS fs ps i true,?_,?_⟩
    · repeat' first|refine And.intro ?_ ?_|(intro h;(try first|replace h:=of_decide_eq_true h|replace h:=of_decide_eq_false h);(try simp only[Q6,YA,XA,Qb,QI,V3,V2,V1,Qr,Yy,Yx,Yw,Ql,V0,WZ,WY,WX,Yv,Yu,Yt,Ys,Nat.zero_add,Nat.add_zero,Int.toNat_natCast,Int.toNat_zero]at h);try simp only[decide_eq_true_eq,decide_eq_false_iff_not,Int.not_lt,Int.not_le,Int.toNat_natCast,↓reduceIte,Nat.reduceAdd,reduceCtorEq,Int.reduceLT,Int.lt_irrefl,gt_iff_lt,not_true_eq_false,not_false_eq_true,Bool.not_true,Bool.not_false,decide_false,decide_true,Int.reduceLE,Int.reduceSub,Bool.false_eq_true,Bool.true_eq_false,Nat.reduceEqDiff,Nat.one_ne_zero,Nat.reduceLT,and_self,and_true,true_and,Int.natCast_zero,Int.cast_ofNat_Int,List.length_nil,ne_eq,Decidable.not_not]at h)
      all_goals(try first|exact PlanIs.mk (by kernel_rfl)|omega|(show(_:Int)*((32:Nat):Int)≤_;omega)|(show(_:Int)*((8:Nat):Int)≤_;omega)|(show(_:Int)*((24:Nat):Int)≤_;omega)|exact rfl|exact Nat.le_of_ble_eq_true rfl|(show(_:Nat)≤(_:Nat);simp;done)|(show(_:Nat)≤(_:Nat);simp;omega))
      all_goals(try exact Apart.mk (by kernel_rfl))
      all_goals(try first|(show isC _ _ (((Zb (Qi fs ps i) fs.length).getD (0+(ps.getD i 0).toNat) []).getD _ _)=true;rw[hxp];exact rfl)|(show(0:Int)≤ps.getD i 0;omega)|(show ps.getD i 0<(fs.length:Int);omega))
      all_goals
       refine Exists.intro () ?_
       refine Q1 [0,1,2,4] (by exact rfl) ?_ ?_
       ·exact⟨.refl _,.refl _,.refl _,.refl _,.refl _,.refl _,.refl _,.refl _,.refl _,.refl _,.refl _,trivial⟩
       ·refine⟨⟨by decide,_,rfl,Q2 rfl (fLR _ _)⟩,⟨by decide,_,rfl,Q2 rfl (fL _)⟩,⟨by decide,_,rfl,Q2 rfl (fF [fs.getD i default])⟩,⟨by decide,_,rfl,Q2 ?_ (fL [_])⟩,trivial⟩
        show[[AVal.int .i64 i,.int .i64 (asI (((Zb (Qi fs ps i) fs.length).getD (0+(ps.getD i 0).toNat) []).getD 1 .any)),.int .i64 (asI (((Zb (Qi fs ps i) fs.length).getD (0+(ps.getD i 0).toNat) []).getD 2 .any)),.int .i64 (fs.getD i default).kind]]=_
        rw[hxp];rfl
    repeat' first|refine And.intro ?_ ?_|(intro h;(try first|replace h:=of_decide_eq_true h|replace h:=of_decide_eq_false h);(try simp only[Q6,YA,XA,Qb,QI,V3,V2,V1,Qr,Yy,Yx,Yw,Ql,V0,WZ,WY,WX,Yv,Yu,Yt,Ys,Nat.zero_add,Nat.add_zero,Int.toNat_natCast,Int.toNat_zero]at h);try simp only[decide_eq_true_eq,decide_eq_false_iff_not,Int.not_lt,Int.not_le,Int.toNat_natCast,↓reduceIte,Nat.reduceAdd,reduceCtorEq,Int.reduceLT,Int.lt_irrefl,gt_iff_lt,not_true_eq_false,not_false_eq_true,Bool.not_true,Bool.not_false,decide_false,decide_true,Int.reduceLE,Int.reduceSub,Bool.false_eq_true,Bool.true_eq_false,Nat.reduceEqDiff,Nat.one_ne_zero,Nat.reduceLT,and_self,and_true,true_and,Int.natCast_zero,Int.cast_ofNat_Int,List.length_nil,ne_eq,Decidable.not_not]at h)
    all_goals(try first|exact PlanIs.mk (by kernel_rfl)|omega|(show(_:Int)*((32:Nat):Int)≤_;omega)|(show(_:Int)*((8:Nat):Int)≤_;omega)|(show(_:Int)*((24:Nat):Int)≤_;omega)|exact rfl|exact Nat.le_of_ble_eq_true rfl|(show(_:Nat)≤(_:Nat);simp;done)|(show(_:Nat)≤(_:Nat);simp;omega))
    all_goals(try first|(show(-9223372036854775808:Int)≤(Qq fs ps i).r+1;first|decide|omega)|(show(-9223372036854775808:Int)≤(Qq fs ps i).d+1;first|decide|omega)|(show(Qq fs ps i).r+1≤(9223372036854775807:Int);first|decide|omega)|(show(Qq fs ps i).d+1≤(9223372036854775807:Int);first|decide|omega))
    all_goals(try first|(show 0+i<(Zb (Qi fs ps i) fs.length).length;rw[hln];omega)|(show 0+4≤(List.length ((Zb (Qi fs ps i) fs.length).getD (0+i) []));rw[Nat.zero_add i,hxi];exact Nat.le_refl 4))
    all_goals first
    |(have hr:(fs.getD i default).rep=2:=by assumption
      have hk:(fs.getD i default).kind=0:=by assumption
      have hM:mkL fs ps (Qi fs ps i) i=⟨i,(Qq fs ps i).r+1,(Qq fs ps i).d+1,(fs.getD i default).kind⟩:=by(simp only[mkL,hB];rw[if_pos hr,if_pos (by omega)])
      refine⟨_,lB fs ps fs.length (i+1),Q1 [0,1] rfl ?_ ?_,⟨i+1,⟨by omega,rfl⟩,.inr rfl⟩,by omega⟩
      ·exact⟨.refl _,.refl _,.refl _,Q4 (by rw[Q9,if_neg (by omega)]),.refl _,.refl _,.refl _,trivial⟩
      ·refine⟨⟨by decide,_,rfl,Q2 ?_ (fLR _ _)⟩,⟨by decide,_,rfl,Q2 ?_ (fL _)⟩,trivial⟩
       ·exact QZ (x:=i) (y:=(Qq fs ps i).r+1) (z:=(Qq fs ps i).d+1) (w:=(fs.getD i default).kind) hin hM
       ·rw[Q9,if_neg (by omega)])
    |(have hr:(fs.getD i default).rep=2:=by assumption
      have hk:¬(fs.getD i default).kind=0:=by assumption
      have hM:mkL fs ps (Qi fs ps i) i=⟨i,(Qq fs ps i).r+1,(Qq fs ps i).d+1,(fs.getD i default).kind⟩:=by(simp only[mkL,hB];rw[if_pos hr,if_pos (by omega)])
      refine⟨_,lB fs ps fs.length (i+1),Q1 [0,8] rfl ?_ ?_,⟨i+1,⟨by omega,rfl⟩,.inr rfl⟩,by omega⟩
      ·exact⟨.refl _,.refl _,.refl _,Q4 (by rw[Q9,if_pos hk,List.length_append];rfl),.refl _,.refl _,.refl _,trivial⟩
      ·refine⟨⟨by decide,_,rfl,Q2 ?_ (fLR _ _)⟩,⟨by decide,_,rfl,Q2 ?_ (fL _)⟩,trivial⟩
       ·exact QZ (x:=i) (y:=(Qq fs ps i).r+1) (z:=(Qq fs ps i).d+1) (w:=(fs.getD i default).kind) hin hM
       ·(rw[Q9,if_pos hk,hM,List.map_append];show List.take _ (List.drop 0 ((QV fs ps i).map QW))++[_]=_;rw[List.drop_zero,List.take_of_length_le (by rw[List.length_map];exact Nat.le_refl _)];rfl))
    |(have hr:¬(fs.getD i default).rep=2:=by assumption
      have hz:¬(fs.getD i default).rep=0:=by assumption
      have hk:(fs.getD i default).kind=0:=by assumption
      have hM:mkL fs ps (Qi fs ps i) i=⟨i,(Qq fs ps i).r,(Qq fs ps i).d+1,(fs.getD i default).kind⟩:=by(simp only[mkL,hB];rw[if_neg hr,if_pos hz])
      refine⟨_,lB fs ps fs.length (i+1),Q1 [0,1] rfl ?_ ?_,⟨i+1,⟨by omega,rfl⟩,.inr rfl⟩,by omega⟩
      ·exact⟨.refl _,.refl _,.refl _,Q4 (by rw[Q9,if_neg (by omega)]),.refl _,.refl _,.refl _,trivial⟩
      ·refine⟨⟨by decide,_,rfl,Q2 ?_ (fLR _ _)⟩,⟨by decide,_,rfl,Q2 ?_ (fL _)⟩,trivial⟩
       ·exact QZ (x:=i) (y:=(Qq fs ps i).r) (z:=(Qq fs ps i).d+1) (w:=(fs.getD i default).kind) hin hM
       ·rw[Q9,if_neg (by omega)])
    |(have hr:¬(fs.getD i default).rep=2:=by assumption
      have hz:¬(fs.getD i default).rep=0:=by assumption
      have hk:¬(fs.getD i default).kind=0:=by assumption
      have hM:mkL fs ps (Qi fs ps i) i=⟨i,(Qq fs ps i).r,(Qq fs ps i).d+1,(fs.getD i default).kind⟩:=by(simp only[mkL,hB];rw[if_neg hr,if_pos hz])
      refine⟨_,lB fs ps fs.length (i+1),Q1 [0,7] rfl ?_ ?_,⟨i+1,⟨by omega,rfl⟩,.inr rfl⟩,by omega⟩
      ·exact⟨.refl _,.refl _,.refl _,Q4 (by rw[Q9,if_pos hk,List.length_append];rfl),.refl _,.refl _,.refl _,trivial⟩
      ·refine⟨⟨by decide,_,rfl,Q2 ?_ (fLR _ _)⟩,⟨by decide,_,rfl,Q2 ?_ (fL _)⟩,trivial⟩
       ·exact QZ (x:=i) (y:=(Qq fs ps i).r) (z:=(Qq fs ps i).d+1) (w:=(fs.getD i default).kind) hin hM
       ·(rw[Q9,if_pos hk,hM,List.map_append];show List.take _ (List.drop 0 ((QV fs ps i).map QW))++[_]=_;rw[List.drop_zero,List.take_of_length_le (by rw[List.length_map];exact Nat.le_refl _)];rfl))
    |(have hr:(fs.getD i default).rep=0:=by assumption
      have hk:(fs.getD i default).kind=0:=by assumption
      have hM:mkL fs ps (Qi fs ps i) i=⟨i,(Qq fs ps i).r,(Qq fs ps i).d,(fs.getD i default).kind⟩:=by(simp only[mkL,hB];rw[if_neg (by omega),if_neg (by omega)])
      refine⟨_,lB fs ps fs.length (i+1),Q1 [0,1] rfl ?_ ?_,⟨i+1,⟨by omega,rfl⟩,.inr rfl⟩,by omega⟩
      ·exact⟨.refl _,.refl _,.refl _,Q4 (by rw[Q9,if_neg (by omega)]),.refl _,.refl _,.refl _,trivial⟩
      ·refine⟨⟨by decide,_,rfl,Q2 ?_ (fLR _ _)⟩,⟨by decide,_,rfl,Q2 ?_ (fL _)⟩,trivial⟩
       ·exact QZ (x:=i) (y:=(Qq fs ps i).r) (z:=(Qq fs ps i).d) (w:=(fs.getD i default).kind) hin hM
       ·rw[Q9,if_neg (by omega)])
    |(have hr:(fs.getD i default).rep=0:=by assumption
      have hk:¬(fs.getD i default).kind=0:=by assumption
      have hM:mkL fs ps (Qi fs ps i) i=⟨i,(Qq fs ps i).r,(Qq fs ps i).d,(fs.getD i default).kind⟩:=by(simp only[mkL,hB];rw[if_neg (by omega),if_neg (by omega)])
      refine⟨_,lB fs ps fs.length (i+1),Q1 [0,6] rfl ?_ ?_,⟨i+1,⟨by omega,rfl⟩,.inr rfl⟩,by omega⟩
      ·exact⟨.refl _,.refl _,.refl _,Q4 (by rw[Q9,if_pos hk,List.length_append];rfl),.refl _,.refl _,.refl _,trivial⟩
      ·refine⟨⟨by decide,_,rfl,Q2 ?_ (fLR _ _)⟩,⟨by decide,_,rfl,Q2 ?_ (fL _)⟩,trivial⟩
       ·exact QZ (x:=i) (y:=(Qq fs ps i).r) (z:=(Qq fs ps i).d) (w:=(fs.getD i default).kind) hin hM
       ·(rw[Q9,if_pos hk,hM,List.map_append];show List.take _ (List.drop 0 ((QV fs ps i).map QW))++[_]=_;rw[List.drop_zero,List.take_of_length_le (by rw[List.length_map];exact Nat.le_refl _)];rfl))
  ·obtain rfl:i=fs.length:=by omega
   repeat' first|refine And.intro ?_ ?_|(intro h;(try first|replace h:=of_decide_eq_true h|replace h:=of_decide_eq_false h);(try simp only[Q6,YA,XA,Qb,QI,V3,V2,V1,Qr,Yy,Yx,Yw,Ql,V0,WZ,WY,WX,Yv,Yu,Yt,Ys,Nat.zero_add,Nat.add_zero,Int.toNat_natCast,Int.toNat_zero]at h);(try simp only[decide_eq_true_eq,decide_eq_false_iff_not,Int.not_lt,Int.not_le,Int.toNat_natCast,↓reduceIte,Nat.reduceAdd,reduceCtorEq,Int.reduceLT,Int.lt_irrefl,gt_iff_lt,not_true_eq_false,not_false_eq_true,Bool.not_true,Bool.not_false,decide_false,decide_true,Int.reduceLE,Int.reduceSub,Bool.false_eq_true,Bool.true_eq_false,Nat.reduceEqDiff,Nat.one_ne_zero,Nat.reduceLT,and_self,and_true,true_and,Int.natCast_zero,Int.cast_ofNat_Int,List.length_nil,ne_eq,Decidable.not_not]at h);try(exfalso;omega))
   all_goals(try first|exact PlanIs.mk (by kernel_rfl)|omega|(show(_:Int)*((32:Nat):Int)≤_;omega)|(show(_:Int)*((8:Nat):Int)≤_;omega)|(show(_:Int)*((24:Nat):Int)≤_;omega)|exact rfl|exact Nat.le_of_ble_eq_true rfl|(show(_:Nat)≤(_:Nat);simp;done)|(show(_:Nat)≤(_:Nat);simp;omega))
   all_goals(try first|exact VP (enc:=QW) (z:=4) (fun _=>rfl) _ _ _|(show(0+(QV fs ps fs.length).length)*32≤_;omega))
   ·refine⟨_,.refl _ _ _,_,rfl,?_⟩
    refine⟨_,Kw (k:=2) 4 QW default rfl,_,rfl,?_,rfl⟩
    have h0:QV fs ps fs.length=[]:=List.eq_nil_of_length_eq_zero (by omega)
    rw[h0];rfl
   ·refine⟨_,.refl _ _ _,_,rfl,?_⟩
    refine⟨_,XD (enc:=QW) (k:=2) default (l:=QV fs ps fs.length) rfl rfl (QC QG (JF (fL _))) ?_ ?_,_,rfl,rfl,rfl⟩
    ·show List.take (0+(QV fs ps fs.length).length) ([]++List.take (QV fs ps fs.length).length (List.drop 0 ((QV fs ps fs.length).map QW)))=_
     rw[List.nil_append,List.drop_zero,Nat.zero_add,List.take_take,Nat.min_self]
     exact List.take_of_length_le (Nat.le_of_eq (List.length_map ..))
    ·show 0+(QV fs ps fs.length).length≤([]++List.take (QV fs ps fs.length).length (List.drop 0 ((QV fs ps fs.length).map QW))).length
     simp
end
def S_leaves:SpecI:=fun args K=>∃fs,args=[vF fs]∧FsOk fs∧K (vL (Q5 fs))
theorem FR[Syms]:X0 Try.prog 16 S_leaves:=by
 rintro args K ⟨fs,rfl,h,hk⟩
 exact⟨rfl,_,rfl,hk,fnI QN QO Qn (Qp Lo (YF (YP QN QO Qn Qy Za) Qy)) Za (LL fs h)⟩
end Go.Proofs.Ytcpikannlnmafaa
