/-
  The document's 'Leaves':by climbing from each leaf. Conditions of raw numbers. The statements' (chapter 21). Is a record as asked? The program's (query.Holds). Conditions of a made shape may be asked. Plain. Records made of raw numbers. The statements' (chapter 8). What is asked of 'Make',and what it answers. Of several conditions all must be so,in whatever order they are asked. The statement's function. The statements' arguments:numbers,conditions.
-/
import Derived.Test.YtekipcaifckffaaGreatL4
import Derived.Test.YtekipcaifckffaaGreatL3
import Derived.Test.YtekipcaifckffaaGreatL2
import Derived.Test.YtekipcaifckffaaGreatSxOne
set_option linter.unusedVariables false
set_option linter.unusedSimpArgs false
namespace Go.Proofs.YtekipcaifckffaaGreat
open Go Go.Av
section
set_option maxRecDepth 100000
set_option maxHeartbeats 4000000
def rlE(fs:List Fd)(ps:List Int)(i:Nat)(o:AVal):Env:=[(0,vF fs),(3,vI ps),(4,o),(5,.int .i64 i)]
def rlA(fs:List Fd)(ps:List Int)(i:Nat):St:=⟨rlE fs ps i .nils,[],0⟩
def rlB(fs:List Fd)(ps:List Int)(i:Nat):St:=⟨rlE fs ps i (.slice 0 0 (QF fs ps i).length 4 none),[(0,some (.cells ((QF fs ps i).map QQ) false))],1⟩
def clA(fs:List Fd)(ps:List Int)(i:Nat)(x:Lf)(k:Int):St:=⟨rlE fs ps i .nils++[(6,.ptr 0 0 0),(7,.int .i64 k)],[(0,some (.cells [QQ x] false))],1⟩
def clB(fs:List Fd)(ps:List Int)(i:Nat)(x:Lf)(k:Int):St:=⟨rlE fs ps i (.slice 0 0 (QF fs ps i).length 4 none)++[(6,.ptr 1 0 0),(7,.int .i64 k)],[(0,some (.cells ((QF fs ps i).map QQ) false)),(1,some (.cells [QQ x] false))],2⟩
theorem Hk{a b:Lf}(h1:a.field=b.field)(h2:a.r=b.r)(h3:a.d=b.d)(h4:a.kind=b.kind):a=b:=by cases a;cases b;simp_all
theorem E2[Syms](fs:List Fd)(hF:FsOk fs):
 fnT Ql HU (QW fns) (QP tys) (Z1 plt) 100 18 [vF fs] [] 0 (fun v H _=>v=vL (Q2 fs)∧H=[]):=by
 have hl:=hF.len
 refine⟨fs,rfl,hF,?_⟩
 have hpl:=XB fs
 have ha:=VR fs
 unfold Q2
 generalize Q6 fs=ps at *
 refine⟨fun m s=>∃i:Nat,(i≤fs.length∧m=fs.length-i)∧((QF fs ps i=[]∧s=rlA fs ps i)∨s=rlB fs ps i),⟨_,rlA fs ps 0,Q9 [0,3,4,5] rfl,0,⟨by omega,rfl⟩,.inl ⟨rfl,rfl⟩⟩,?_⟩
 rintro m s ⟨i,⟨hi,rfl⟩,(⟨h0,rfl⟩|rfl)⟩
 ·have hol:=ZE fs ps i
  by_cases hin:i<fs.length
  ·by_cases hk:(fs.getD i default).kind=0
   · repeat' first|refine And.intro ?_ ?_|(intro h;try first|exact dz|replace h:=cv)
     all_goals try exact cz
     exact⟨_,rlA fs ps (i+1),Q9 [0,3,4,5] rfl,⟨i+1,⟨by omega,rfl⟩,.inl ⟨by rw[Q4,if_neg (fun h=>h hk)];exact h0,rfl⟩⟩,by omega⟩
   · repeat' first|refine And.intro ?_ ?_|(intro h;try first|exact dz|replace h:=cv)
     all_goals try exact cz
     have hq:=Wx (fs:=fs) ha fs.length (Nat.le_refl _) i hin
     have hL:mkL fs ps (Qd fs ps i) i=(Qd fs ps fs.length).getD i default:=(Ya fs ps hin).symm
     have hR:upR fs ps fs.length i=(mkL fs ps (Qd fs ps i) i).r:=by rw[upR,if_pos (by omega),hL];rfl
     have hD:upD fs ps fs.length i=(mkL fs ps (Qd fs ps i) i).d:=by rw[upD,if_pos (by omega),hL];rfl
     rw[←hL]at hq
     have hf0:(mkL fs ps (Qd fs ps i) i).field=i:=rfl
     have hf3:(mkL fs ps (Qd fs ps i) i).kind=(fs.getD i default).kind:=rfl
     have hl1:(QF fs ps (i+1)).length=(QF fs ps i).length+1:=by rw[Q4,if_pos hk,List.length_append];rfl
     have hl2:QF fs ps (i+1)=QF fs ps i++[mkL fs ps (Qd fs ps i) i]:=by rw[Q4,if_pos hk]
     generalize mkL fs ps (Qd fs ps i) i=L at *
     refine⟨fun m s=>∃(k r d:Int),(m=(k+1).toNat∧ -1≤k∧k≤i∧r+upR fs ps fs.length k=L.r∧d+upD fs ps fs.length k=L.d∧0≤r∧r≤i-k∧0≤d∧d≤i-k)∧s=clA fs ps i ⟨i,r,d,(fs.getD i default).kind⟩ k,⟨_,clA fs ps i ⟨i,0,0,(fs.getD i default).kind⟩ i,Q0 [0] rfl ?_ ?_,i,0,0,⟨rfl,by omega,by omega,by omega,by omega,by omega,by omega,by omega,by omega⟩,rfl⟩,?_⟩
     ·exact⟨.refl _,.refl _,.refl _,.refl _,.refl _,.refl _,trivial⟩
     ·exact⟨⟨by decide,_,rfl,Q1 rfl (fL [_])⟩,trivial⟩
     rintro m s ⟨k,r,d,⟨rfl,hk1,hk2,hr1,hd1,hr0,hr2,hd0,hd2⟩,rfl⟩
     by_cases hk0:0≤k
     ·obtain⟨k,rfl⟩:=Int.eq_ofNat_of_zero_le hk0
      have hs1:=FY (fs:=fs) ha (k:=k) (by omega)
      have hs2:=FZ (fs:=fs) ha (k:=k) (by omega)
      have hq2:=ha k (by omega)
      rw[hs1]at hr1
      rw[hs2]at hd1
      repeat' first|refine And.intro ?_ ?_|(intro h;try first|exact dz|replace h:=cv)
      all_goals try exact cz
      all_goals(try first|(show(-9223372036854775808:Int)≤r+1;omega)|(show r+1≤(9223372036854775807:Int);omega)|(show(-9223372036854775808:Int)≤d+1;omega)|(show d+1≤(9223372036854775807:Int);omega))
      ·rw[if_pos (by assumption)]at hr1
       rw[if_pos (by assumption)]at hd1
       refine⟨_,clA fs ps i ⟨i,r+1,d+1,(fs.getD i default).kind⟩ (ps.getD k 0),Q0 [0] rfl ?_ ?_,⟨_,_,_,⟨rfl,by omega,by omega,by omega,by omega,by omega,by omega,by omega,by omega⟩,rfl⟩,by omega⟩
       ·exact⟨.refl _,.refl _,.refl _,.refl _,.refl _,.refl _,trivial⟩
       ·exact⟨⟨by decide,_,rfl,Q1 rfl (fL [_])⟩,trivial⟩
      ·rw[if_neg (by assumption)]at hr1
       rw[if_pos (by assumption)]at hd1
       refine⟨_,clA fs ps i ⟨i,r,d+1,(fs.getD i default).kind⟩ (ps.getD k 0),Q0 [0] rfl ?_ ?_,⟨_,_,_,⟨rfl,by omega,by omega,by omega,by omega,by omega,by omega,by omega,by omega⟩,rfl⟩,by omega⟩
       ·exact⟨.refl _,.refl _,.refl _,.refl _,.refl _,.refl _,trivial⟩
       ·exact⟨⟨by decide,_,rfl,Q1 rfl (fL [_])⟩,trivial⟩
      ·rw[if_neg (by assumption)]at hr1
       rw[if_neg (fun hh=>hh (by assumption))]at hd1
       refine⟨_,clA fs ps i ⟨i,r,d,(fs.getD i default).kind⟩ (ps.getD k 0),Q0 [0] rfl ?_ ?_,⟨_,_,_,⟨rfl,by omega,by omega,by omega,by omega,by omega,by omega,by omega,by omega⟩,rfl⟩,by omega⟩
       ·exact⟨.refl _,.refl _,.refl _,.refl _,.refl _,.refl _,trivial⟩
       ·exact⟨⟨by decide,_,rfl,Q1 rfl (fL [_])⟩,trivial⟩
     ·have hu1:upR fs ps fs.length k=0:=by rw[upR,if_neg hk0]
      have hu2:upD fs ps fs.length k=0:=by rw[upD,if_neg hk0]
      have hxL:(⟨i,r,d,(fs.getD i default).kind⟩:Lf)=L:=Hk hf0.symm (by show r=L.r;omega) (by show d=L.d;omega) hf3.symm
      repeat' first|refine And.intro ?_ ?_|(intro h;try first|exact dz|replace h:=cv)
      all_goals try exact cz
      refine⟨_,rlB fs ps (i+1),Q0 [2] rfl ?_ ?_,⟨i+1,⟨by omega,rfl⟩,.inr rfl⟩,by omega⟩
      ·exact⟨.refl _,.refl _,Q3 (by rw[hl1];rw[h0];rfl),.refl _,trivial⟩
      ·refine⟨⟨by decide,_,rfl,Q1 ?_ (fL _)⟩,trivial⟩
       rw[hl2,h0,←hxL];rfl
  · repeat' first|refine And.intro ?_ ?_|(intro h;try first|exact dz|replace h:=cv)
    all_goals try exact cz
    obtain rfl:i=fs.length:=by omega
    exact⟨_,WN (k:=2) 4 QQ default rfl,_,rfl,by rw[h0];rfl,rfl⟩
 ·have hol:=ZE fs ps i
  by_cases hin:i<fs.length
  ·by_cases hk:(fs.getD i default).kind=0
   · repeat' first|refine And.intro ?_ ?_|(intro h;try first|exact dz|replace h:=cv)
     all_goals try exact cz
     refine⟨_,rlB fs ps (i+1),Q0 [0] rfl ?_ ?_,⟨i+1,⟨by omega,rfl⟩,.inr rfl⟩,by omega⟩
     ·exact⟨.refl _,.refl _,Q3 (by rw[Q4,if_neg (fun h=>h hk)]),.refl _,trivial⟩
     ·exact⟨⟨by decide,_,rfl,Q1 (by rw[Q4,if_neg (fun h=>h hk)]) (fL _)⟩,trivial⟩
   · repeat' first|refine And.intro ?_ ?_|(intro h;try first|exact dz|replace h:=cv)
     all_goals try exact cz
     have hq:=Wx (fs:=fs) ha fs.length (Nat.le_refl _) i hin
     have hL:mkL fs ps (Qd fs ps i) i=(Qd fs ps fs.length).getD i default:=(Ya fs ps hin).symm
     have hR:upR fs ps fs.length i=(mkL fs ps (Qd fs ps i) i).r:=by rw[upR,if_pos (by omega),hL];rfl
     have hD:upD fs ps fs.length i=(mkL fs ps (Qd fs ps i) i).d:=by rw[upD,if_pos (by omega),hL];rfl
     rw[←hL]at hq
     have hf0:(mkL fs ps (Qd fs ps i) i).field=i:=rfl
     have hf3:(mkL fs ps (Qd fs ps i) i).kind=(fs.getD i default).kind:=rfl
     have hl1:(QF fs ps (i+1)).length=(QF fs ps i).length+1:=by rw[Q4,if_pos hk,List.length_append];rfl
     have hl2:QF fs ps (i+1)=QF fs ps i++[mkL fs ps (Qd fs ps i) i]:=by rw[Q4,if_pos hk]
     generalize mkL fs ps (Qd fs ps i) i=L at *
     refine⟨fun m s=>∃(k r d:Int),(m=(k+1).toNat∧ -1≤k∧k≤i∧r+upR fs ps fs.length k=L.r∧d+upD fs ps fs.length k=L.d∧0≤r∧r≤i-k∧0≤d∧d≤i-k)∧s=clB fs ps i ⟨i,r,d,(fs.getD i default).kind⟩ k,⟨_,clB fs ps i ⟨i,0,0,(fs.getD i default).kind⟩ i,Q0 [0,1] rfl ?_ ?_,i,0,0,⟨rfl,by omega,by omega,by omega,by omega,by omega,by omega,by omega,by omega⟩,rfl⟩,?_⟩
     ·exact⟨.refl _,.refl _,.refl _,.refl _,.refl _,.refl _,trivial⟩
     ·exact⟨⟨by decide,_,rfl,Qo (fL _)⟩,⟨by decide,_,rfl,Q1 rfl (fL [_])⟩,trivial⟩
     rintro m s ⟨k,r,d,⟨rfl,hk1,hk2,hr1,hd1,hr0,hr2,hd0,hd2⟩,rfl⟩
     by_cases hk0:0≤k
     ·obtain⟨k,rfl⟩:=Int.eq_ofNat_of_zero_le hk0
      have hs1:=FY (fs:=fs) ha (k:=k) (by omega)
      have hs2:=FZ (fs:=fs) ha (k:=k) (by omega)
      have hq2:=ha k (by omega)
      rw[hs1]at hr1
      rw[hs2]at hd1
      repeat' first|refine And.intro ?_ ?_|(intro h;try first|exact dz|replace h:=cv)
      all_goals try exact cz
      all_goals(try first|(show(-9223372036854775808:Int)≤r+1;omega)|(show r+1≤(9223372036854775807:Int);omega)|(show(-9223372036854775808:Int)≤d+1;omega)|(show d+1≤(9223372036854775807:Int);omega))
      ·rw[if_pos (by assumption)]at hr1
       rw[if_pos (by assumption)]at hd1
       refine⟨_,clB fs ps i ⟨i,r+1,d+1,(fs.getD i default).kind⟩ (ps.getD k 0),Q0 [0,1] rfl ?_ ?_,⟨_,_,_,⟨rfl,by omega,by omega,by omega,by omega,by omega,by omega,by omega,by omega⟩,rfl⟩,by omega⟩
       ·exact⟨.refl _,.refl _,.refl _,.refl _,.refl _,.refl _,trivial⟩
       ·exact⟨⟨by decide,_,rfl,Qo (fL _)⟩,⟨by decide,_,rfl,Q1 rfl (fL [_])⟩,trivial⟩
      ·rw[if_neg (by assumption)]at hr1
       rw[if_pos (by assumption)]at hd1
       refine⟨_,clB fs ps i ⟨i,r,d+1,(fs.getD i default).kind⟩ (ps.getD k 0),Q0 [0,1] rfl ?_ ?_,⟨_,_,_,⟨rfl,by omega,by omega,by omega,by omega,by omega,by omega,by omega,by omega⟩,rfl⟩,by omega⟩
       ·exact⟨.refl _,.refl _,.refl _,.refl _,.refl _,.refl _,trivial⟩
       ·exact⟨⟨by decide,_,rfl,Qo (fL _)⟩,⟨by decide,_,rfl,Q1 rfl (fL [_])⟩,trivial⟩
      ·rw[if_neg (by assumption)]at hr1
       rw[if_neg (fun hh=>hh (by assumption))]at hd1
       refine⟨_,clB fs ps i ⟨i,r,d,(fs.getD i default).kind⟩ (ps.getD k 0),Q0 [0,1] rfl ?_ ?_,⟨_,_,_,⟨rfl,by omega,by omega,by omega,by omega,by omega,by omega,by omega,by omega⟩,rfl⟩,by omega⟩
       ·exact⟨.refl _,.refl _,.refl _,.refl _,.refl _,.refl _,trivial⟩
       ·exact⟨⟨by decide,_,rfl,Qo (fL _)⟩,⟨by decide,_,rfl,Q1 rfl (fL [_])⟩,trivial⟩
     ·have hu1:upR fs ps fs.length k=0:=by rw[upR,if_neg hk0]
      have hu2:upD fs ps fs.length k=0:=by rw[upD,if_neg hk0]
      have hxL:(⟨i,r,d,(fs.getD i default).kind⟩:Lf)=L:=Hk hf0.symm (by show r=L.r;omega) (by show d=L.d;omega) hf3.symm
      repeat' first|refine And.intro ?_ ?_|(intro h;try first|exact dz|replace h:=cv)
      all_goals try exact cz
      refine⟨_,rlB fs ps (i+1),Q0 [3] rfl ?_ ?_,⟨i+1,⟨by omega,rfl⟩,.inr rfl⟩,by omega⟩
      ·exact⟨.refl _,.refl _,Q3 (by rw[hl1]),.refl _,trivial⟩
      ·refine⟨⟨by decide,_,rfl,Q1 ?_ (fL _)⟩,trivial⟩
       rw[hl2,List.map_append,←hxL];show List.take _ (List.drop 0 ((QF fs ps i).map QQ))++[_]=_;rw[List.drop_zero,List.take_of_length_le (by rw[List.length_map];exact Nat.le_refl _)];rfl
  · repeat' first|refine And.intro ?_ ?_|(intro h;try first|exact dz|replace h:=cv)
    all_goals try exact cz
    obtain rfl:i=fs.length:=by omega
    exact⟨_,Xy (enc:=QQ) (k:=2) default (l:=QF fs ps fs.length) rfl rfl (fL _) (List.take_of_length_le (by simp)) (by simp),_,rfl,rfl,rfl⟩
theorem Bh[Syms]:Z8 Tryz.prog 18 S_leaves:=by
 rintro args K ⟨fs,rfl,h,hk⟩
 exact⟨rfl,_,rfl,hk,fnI QC Qz Qe DP QV (E2 fs h)⟩
end
section
set_option maxRecDepth 100000
set_option maxHeartbeats 4000000
structure Rc where
 leaf:Int
 op:Int
 v:Vl
 deriving Inhabited
def Oz(x:Rc):List AVal:=[.int .i64 x.leaf,.int .i64 x.op]++Yc x.v
abbrev vRc(l:List Rc):AVal:=vT 4 Oz default l
def cdL(fs:List Fd)(x:Rc):Lf:=(Q2 fs).getD (wi x.leaf (Q2 fs).length).toNat default
def DK(fs:List Fd)(any:Bool)(x:Rc):Cd:=⟨Zc fs (Q6 fs) (cdL fs x).field,if any then x.op else wi x.op 6,if any then x.v else Yq (cdL fs x).kind x.v⟩
def VX(fs:List Fd)(any:Bool):List Rc→List Cd
 |[]=>[]
 |x::t=>if(cdL fs x).r=0∨any=true then DK fs any x::VX fs any t else VX fs any t
def KK(fs:List Fd)(any:Bool)(l:List Rc):List Cd:=VX fs any (l.take 5)
theorem KL(fs:List Fd)(any:Bool):∀l:List Rc,(VX fs any l).length≤l.length
 |[]=>Nat.le_refl _
 |x::t=>by
  rw[VX]
  split
  ·simp only[List.length_cons];have:=KL fs any t;omega
  ·simp only[List.length_cons];have:=KL fs any t;omega
theorem fC(l:List Cd):Qg (l.map encC):=X1 (fun a x hx=>by simp[encC,Yc]at hx;rcases hx with rfl|rfl|rfl|rfl<;>rfl) l
theorem gC(l:List Cd)(x:Cd):List.take l.length (List.drop 0 (l.map encC))++[encC x]=(l++[x]).map encC:=by
 rw[List.drop_zero,List.take_of_length_le (by simp),List.map_append];rfl
abbrev Lg:CallT:=Qu 19 (ZJ S_path) (Qu 11 (FW G_wi) (Qu 20 (ZJ S_good) Ql))
theorem HX[Syms]:Lg.det Tryz.prog:=ZL D7 (Kr MK (ZL CA Qe))
theorem Le[Syms]:Lg.ok Tryz.prog:=Q8 D7 (XA MK (Q8 CA Qk))
abbrev cCo:CallT:=Qu 18 (ZJ S_leaves) Lg
theorem NJ[Syms]:cCo.ok Tryz.prog:=Q8 Bh Le
noncomputable def P5:Nat→Nat→Pl:=YK [(8,6)] (Z1 plt)
def coS(fs:List Fd)(l:List Rc)(any:Bool)(i:Nat)(out:List Cd):St:=⟨[(0,vF fs),(1,vRc l),(2,.bool any),(7,vL (Q2 fs)),(8,XR 0 4 out),(9,.int .i64 i)],[(0,Xn encC out)],1⟩
def coT(fs:List Fd)(l:List Rc)(any:Bool)(i:Nat)(out:List Cd)(lf:Lf):St:=⟨[(0,vF fs),(1,vRc l),(2,.bool any),(7,vL (Q2 fs)),(8,XR 0 4 out),(9,.int .i64 i),(10,.ptr 2 0 0)],[(0,Xn encC out),(2,some (.cells [QQ lf] false))],3⟩
theorem IZ[Syms](fs:List Fd)(l:List Rc)(hF:FsOk fs)(h0:0<(Q2 fs).length)(hll:l.length≤9223372036854775807):
 fnT Lg cCo (QW fns) (QP tys) P5 100 8 [vF fs,vRc l,.bool false] [] 0 (fun v H _=>v=vC (KK fs false l)∧H=[]):=by
 have hfl:=hF.len
 have hle:(Q2 fs).length≤fs.length:=ZE _ _ _
 repeat' first|refine And.intro ?_ ?_|(intro h;try first|exact dz|replace h:=cv)
 all_goals try exact cz
 refine⟨fs,rfl,hF,?_⟩
 repeat' first|refine And.intro ?_ ?_|(intro h;try first|exact dz|replace h:=cv)
 all_goals try exact cz
 refine⟨fun m s=>∃(i:Nat) (out:List Cd),(i≤(l.take 5).length∧m=(l.take 5).length-i∧out++VX fs false ((l.take 5).drop i)=KK fs false l∧out.length≤i)∧s=coS fs l false i out,⟨_,coS fs l false 0 [],(Yh (nx':=1) (by omega)).trans (Q0 [0] (by exact rfl) ⟨.refl _,.refl _,.refl _,.refl _,.refl _,.refl _,trivial⟩ trivial),0,[],⟨by omega,rfl,rfl,Nat.le_refl _⟩,rfl⟩,?_⟩
 rintro m s ⟨i,out,⟨hi,rfl,hv,ho⟩,rfl⟩
 have h5:(l.take 5).length≤5:=by rw[List.length_take];omega
 unfold coS
 by_cases h1:i<(l.take 5).length
 ·have hd:(l.take 5).drop i=l.getD i default::(l.take 5).drop (i+1):=by
   rw[List.drop_eq_getElem_cons h1,List.getElem_take,List.getD_eq_getElem?_getD,List.getElem?_eq_getElem (by rw[List.length_take]at h1;omega)];rfl
  have hil:i<l.length∧i<5:=by rw[List.length_take]at h1;omega
  rw[hd,VX]at hv
  obtain⟨w1,w2⟩:=Zs (a:=(l.getD i default).leaf) (n:=(Q2 fs).length) (by omega)
  cases out with
  |nil=>
   repeat' first|refine And.intro ?_ ?_|(intro h;try first|exact dz|replace h:=cv)
   all_goals try exact cz
   refine⟨(l.getD i default).leaf,(Q2 fs).length,rfl,⟨by omega,by omega⟩,?_⟩
   repeat' first|refine And.intro ?_ ?_|(intro h;try first|exact dz|replace h:=cv)
   all_goals try exact cz
   refine⟨coT fs l false i [] (cdL fs (l.getD i default)),?_,?_⟩
   ·unfold coT
    exact(Yh (nx':=5) (by omega)).trans (Q0 [0,3,1] (by exact rfl) ⟨.refl _,.refl _,.refl _,.refl _,.refl _,.refl _,.refl _,trivial⟩ ⟨⟨by decide,_,rfl,.refl _⟩,trivial⟩)
   unfold coT
   have hcd:DK fs false (l.getD i default)=⟨Zc fs (Q6 fs) (cdL fs (l.getD i default)).field,wi (l.getD i default).op 6,Yq (cdL fs (l.getD i default)).kind (l.getD i default).v⟩:=rfl
   rw[hcd]at hv
   generalize cdL fs (l.getD i default)=lf at *
   by_cases hr:lf.r=0
   ·rw[if_pos (.inl hr)]at hv
    repeat' first|refine And.intro ?_ ?_|(intro h;try first|exact dz|replace h:=cv)
    all_goals try exact cz
    refine⟨fs,lf.field,rfl,hF,?_⟩
    repeat' first|refine And.intro ?_ ?_|(intro h;try first|exact dz|replace h:=cv)
    all_goals try exact cz
    refine⟨(l.getD i default).op,6,rfl,by decide,?_⟩
    repeat' first|refine And.intro ?_ ?_|(intro h;try first|exact dz|replace h:=cv)
    all_goals try exact cz
    refine⟨lf.kind,(l.getD i default).v,rfl,?_⟩
    repeat' first|refine And.intro ?_ ?_|(intro h;try first|exact dz|replace h:=cv)
    all_goals try exact cz
    refine⟨_,coS fs l false (i+1) ([]++[⟨Zc fs (Q6 fs) lf.field,wi (l.getD i default).op 6,Yq lf.kind (l.getD i default).v⟩]),?_,⟨i+1,_,⟨by omega,rfl,(by rw[List.append_assoc];exact hv),(by rw[List.length_append,List.length_singleton];omega)⟩,rfl⟩,by omega⟩
    unfold coS
    exact Q0 [85899345925] (by exact rfl) ⟨.refl _,.refl _,.refl _,.refl _,.cap _ _ _ _ _,Qa (by first|rfl|omega),trivial⟩ ⟨⟨by decide,_,rfl,Q1 (by exact rfl) (fC _)⟩,trivial⟩
   ·rw[if_neg (fun h=>h.elim hr Bool.noConfusion)]at hv
    repeat' first|refine And.intro ?_ ?_|(intro h;try first|exact dz|replace h:=cv)
    all_goals try exact cz
    refine⟨fs,lf.field,rfl,hF,?_⟩
    repeat' first|refine And.intro ?_ ?_|(intro h;try first|exact dz|replace h:=cv)
    all_goals try exact cz
    refine⟨(l.getD i default).op,6,rfl,by decide,?_⟩
    repeat' first|refine And.intro ?_ ?_|(intro h;try first|exact dz|replace h:=cv)
    all_goals try exact cz
    refine⟨lf.kind,(l.getD i default).v,rfl,?_⟩
    repeat' first|refine And.intro ?_ ?_|(intro h;try first|exact dz|replace h:=cv)
    all_goals try exact cz
    refine⟨_,coS fs l false (i+1) [],?_,⟨i+1,_,⟨by omega,rfl,hv,by omega⟩,rfl⟩,by omega⟩
    unfold coS
    exact Q0 [0] (by exact rfl) ⟨.refl _,.refl _,.refl _,.refl _,.refl _,Qa (by first|rfl|omega),trivial⟩ trivial
  |cons o0 ot=>
   have hol:(o0::ot).length≤1000:=by omega
   repeat' first|refine And.intro ?_ ?_|(intro h;try first|exact dz|replace h:=cv)
   all_goals try exact cz
   refine⟨(l.getD i default).leaf,(Q2 fs).length,rfl,⟨by omega,by omega⟩,?_⟩
   repeat' first|refine And.intro ?_ ?_|(intro h;try first|exact dz|replace h:=cv)
   all_goals try exact cz
   refine⟨coT fs l false i (o0::ot) (cdL fs (l.getD i default)),?_,?_⟩
   ·unfold coT
    exact(Yh (nx':=5) (by omega)).trans (Q0 [0,3,1] (by exact rfl) ⟨.refl _,.refl _,.refl _,.refl _,.refl _,.refl _,.refl _,trivial⟩ ⟨⟨by decide,_,rfl,Qo (fC _)⟩,⟨by decide,_,rfl,.refl _⟩,trivial⟩)
   unfold coT
   have hcd:DK fs false (l.getD i default)=⟨Zc fs (Q6 fs) (cdL fs (l.getD i default)).field,wi (l.getD i default).op 6,Yq (cdL fs (l.getD i default)).kind (l.getD i default).v⟩:=rfl
   rw[hcd]at hv
   generalize cdL fs (l.getD i default)=lf at *
   by_cases hr:lf.r=0
   ·rw[if_pos (.inl hr)]at hv
    repeat' first|refine And.intro ?_ ?_|(intro h;try first|exact dz|replace h:=cv)
    all_goals try exact cz
    refine⟨fs,lf.field,rfl,hF,?_⟩
    repeat' first|refine And.intro ?_ ?_|(intro h;try first|exact dz|replace h:=cv)
    all_goals try exact cz
    refine⟨(l.getD i default).op,6,rfl,by decide,?_⟩
    repeat' first|refine And.intro ?_ ?_|(intro h;try first|exact dz|replace h:=cv)
    all_goals try exact cz
    refine⟨lf.kind,(l.getD i default).v,rfl,?_⟩
    repeat' first|refine And.intro ?_ ?_|(intro h;try first|exact dz|replace h:=cv)
    all_goals try exact cz
    refine⟨_,coS fs l false (i+1) ((o0::ot)++[⟨Zc fs (Q6 fs) lf.field,wi (l.getD i default).op 6,Yq lf.kind (l.getD i default).v⟩]),?_,⟨i+1,_,⟨by omega,rfl,(by rw[List.append_assoc];exact hv),(by rw[List.length_append,List.length_singleton];omega)⟩,rfl⟩,by omega⟩
    unfold coS
    exact Q0 [85899345925] (by exact rfl) ⟨.refl _,.refl _,.refl _,.refl _,Q3 (by simp),Qa (by first|rfl|omega),trivial⟩ ⟨⟨by decide,_,rfl,Q1 (by exact gC (o0::ot) ⟨Zc fs (Q6 fs) lf.field,wi (l.getD i default).op 6,Yq lf.kind (l.getD i default).v⟩) (fC _)⟩,trivial⟩
   ·rw[if_neg (fun h=>h.elim hr Bool.noConfusion)]at hv
    repeat' first|refine And.intro ?_ ?_|(intro h;try first|exact dz|replace h:=cv)
    all_goals try exact cz
    refine⟨fs,lf.field,rfl,hF,?_⟩
    repeat' first|refine And.intro ?_ ?_|(intro h;try first|exact dz|replace h:=cv)
    all_goals try exact cz
    refine⟨(l.getD i default).op,6,rfl,by decide,?_⟩
    repeat' first|refine And.intro ?_ ?_|(intro h;try first|exact dz|replace h:=cv)
    all_goals try exact cz
    refine⟨lf.kind,(l.getD i default).v,rfl,?_⟩
    repeat' first|refine And.intro ?_ ?_|(intro h;try first|exact dz|replace h:=cv)
    all_goals try exact cz
    refine⟨_,coS fs l false (i+1) (o0::ot),?_,⟨i+1,_,⟨by omega,rfl,hv,by omega⟩,rfl⟩,by omega⟩
    unfold coS
    exact Q0 [0] (by exact rfl) ⟨.refl _,.refl _,.refl _,.refl _,.refl _,Qa (by first|rfl|omega),trivial⟩ ⟨⟨by decide,_,rfl,Qo (fC _)⟩,trivial⟩
 ·have hx:¬(i<l.length∧i<5):=by rw[List.length_take]at h1;omega
  have hie:i=(l.take 5).length:=by omega
  rw[hie,List.drop_length,VX,List.append_nil]at hv
  rw[←hv]
  clear hv hie
  cases out with
  |nil=>
   repeat' first|refine And.intro ?_ ?_|(intro h;try first|exact dz|replace h:=cv)
   all_goals try exact cz
   all_goals(first|(exfalso;omega)|exact⟨_,WN 4 encC default (k:=6) rfl,_,rfl,rfl,rfl⟩)
  |cons o0 ot=>
   repeat' first|refine And.intro ?_ ?_|(intro h;try first|exact dz|replace h:=cv)
   all_goals try exact cz
   all_goals(first|(exfalso;omega)|exact⟨_,Xy default (k:=6) (n:=0) (sz:=4) (enc:=encC) (l:=o0::ot) (len:=(o0::ot).length) rfl rfl (fC _) (List.take_of_length_le (by simp)) (by simp),_,rfl,rfl,rfl⟩)
def S_conds:SpecI:=fun args K=>∃(fs:List Fd) (l:List Rc),args=[vF fs,vRc l,.bool false]∧(FsOk fs∧0<(Q2 fs).length∧l.length≤9223372036854775807)∧K (vC (KK fs false l))
theorem HO[Syms]:Z8 Tryz.prog 8 S_conds:=by
 rintro args K ⟨fs,l,rfl,⟨h1,h2,h3⟩,hk⟩
 exact⟨rfl,_,rfl,hk,fnI QC Qz HX NJ QV (IZ fs l h1 h2 h3)⟩
end
section
set_option maxRecDepth 100000
set_option maxHeartbeats 4000000
def opB(op k:Int):Bool:=if op=0 then decide (k<0)else if op=1 then decide (k≤0)else if op=2 then decide (k=0)else if op=3 then decide (0≤k)else decide (0<k)
def W9(x:Ask)(t:Tr):Bool:=
 if(V7 x t).2=false∨x.op=5 then(if(V7 x t).2=false then decide (x.op=5)else false)else opB x.op (HR x.leaf.kind (V7 x t).1 x.v)
structure AskOk(x:Ask):Prop where
 len:x.way.length≤1000
 ge:∀k,0≤x.way.getD k 0
abbrev cHo:CallT:=Qu 89 (GT CS) (Qu 90 (ZJ S_cmp) Ql)
theorem NC[Syms]:cHo.ok Tryz.prog:=YL EK (Q8 Q05 Qk)
noncomputable def P1:Nat→Nat→Pl:=YK [(51,0),(51,1)] (Z1 plt)
abbrev Oh(x:Ask):List AVal:=[.int .i64 x.at',.int .i64 x.leaf.field,.int .i64 x.leaf.r,.int .i64 x.leaf.d,.int .i64 x.leaf.kind,.vs 1 (x.way.map encI),.str x.path,.int .i64 x.op,.int .i64 x.v.n,.str x.v.s]
theorem N4[Syms](x:Ask)(t:Tr)(hx:AskOk x):
 fnT Ql cHo (QW fns) (QP tys) P1 100 51 [.agg (encA x),.agg (encT t)] [] 0 (fun v H _=>v= .bool (W9 x t)∧H=[]):=by
 have e0:encT t=[.int .i64 t.num,.str t.txt,.vs 1 (t.kids.map fun x=>[.vs 3 (x.map encT)])]:=by cases t;exact QL _ _ _
 rw[e0]
 refine⟨⟨[(2,.ptr 0 0 0),(3,.ptr 2 0 0),(4,.bool false)],[(0,some (.cells [Oh x] false)),(2,some (.cells [[.int .i64 t.num,.str t.txt,.vs 1 (t.kids.map fun x=>[.vs 3 (x.map encT)])]] false))],3⟩,?_,?_⟩
 ·exact(Yh (nx':=5) (by omega)).trans (Q0 [0,3,1] (by exact rfl) ⟨.refl _,.refl _,.refl _,trivial⟩ ⟨⟨by decide,_,rfl,.refl _⟩,⟨by decide,_,rfl,.refl _⟩,trivial⟩)
 repeat' first|refine And.intro ?_ ?_|(intro h;try first|exact dz|replace h:=cv)
 all_goals try exact cz
 refine⟨[],[.agg (encA x),.agg (encT t)],[],rfl,⟨?_,?_,trivial⟩,trivial,x,t,rfl,rfl,rfl,⟨hx.len,hx.ge⟩,?_⟩
 ·exact .refl _
 ·rw[e0];exact .refl _
 clear e0
 repeat' first|refine And.intro ?_ ?_|(intro h;try first|exact dz|replace h:=cv)
 all_goals try exact cz
 refine⟨⟨[(2,.ptr 0 0 0),(4,.bool false),(5,.ptr 2 0 0),(6,.bool (V7 x t).2)],[(0,some (.cells [Oh x] false)),(2,some (.cells [[.int .i64 (V7 x t).1.n,.str (V7 x t).1.s]] false))],3⟩,Q0 [0,3,4] (by exact rfl) ⟨.refl _,.refl _,.refl _,.refl _,trivial⟩ ⟨⟨by decide,_,rfl,.refl _⟩,⟨by decide,_,rfl,.refl _⟩,trivial⟩,?_⟩
 have hH:W9 x t=W9 x t:=rfl
 conv at hH=>rhs;unfold W9
 generalize V7 x t=q at *
 obtain⟨v,is⟩:=q
 cases is with
 |false=>
  rw[if_pos (.inl rfl),if_pos rfl]at hH
  rw[hH]
  repeat' first|refine And.intro ?_ ?_|(intro h;try first|exact dz|replace h:=cv)
  all_goals try exact cz
  exact⟨_,Q9 [4] rfl,_,rfl,rfl,rfl⟩
 |true=>
  by_cases h5:x.op=5
  ·rw[if_pos (.inr h5),if_neg (by simp)]at hH
   rw[hH]
   repeat' first|refine And.intro ?_ ?_|(intro h;try first|exact dz|replace h:=cv)
   all_goals try exact cz
   exact⟨_,Q9 [4] rfl,_,rfl,rfl,rfl⟩
  ·rw[if_neg (by simp[h5])]at hH
   rw[hH]
   repeat' first|refine And.intro ?_ ?_|(intro h;try first|exact dz|replace h:=cv)
   all_goals try exact cz
   refine⟨x.leaf.kind,v,x.v,rfl,?_⟩
   unfold opB
   generalize HR x.leaf.kind v x.v=k
   repeat' first|refine And.intro ?_ ?_|(intro h;try first|exact dz|replace h:=cv)
   all_goals try exact cz
   ·exact⟨_,Q9 [4] rfl,_,rfl,congrArg AVal.bool (by rw[if_pos ‹x.op=0›]),rfl⟩
   ·exact⟨_,Q9 [4] rfl,_,rfl,congrArg AVal.bool (by rw[if_neg ‹¬x.op=0›,if_pos ‹x.op=1›]),rfl⟩
   ·exact⟨_,Q9 [4] rfl,_,rfl,congrArg AVal.bool (by rw[if_neg ‹¬x.op=0›,if_neg ‹¬x.op=1›,if_pos ‹x.op=2›]),rfl⟩
   ·exact⟨_,Q9 [4] rfl,_,rfl,congrArg AVal.bool (by rw[if_neg ‹¬x.op=0›,if_neg ‹¬x.op=1›,if_neg ‹¬x.op=2›,if_pos ‹x.op=3›]),rfl⟩
   ·exact⟨_,Q9 [4] rfl,_,rfl,congrArg AVal.bool (by rw[if_neg ‹¬x.op=0›,if_neg ‹¬x.op=1›,if_neg ‹¬x.op=2›,if_neg ‹¬x.op=3›]),rfl⟩
theorem Lz(v:AVal)(t:Tr)(h:v.imm=true):Vk [v,.agg (encT t)]=true:=by
 obtain⟨ks,n,s⟩:=t
 rw[QL]
 show(v.imm&&_)=true
 rw[h];rfl
def S_hold:SpecI:=fun args K=>∃(x:Ask) (t:Tr),args=[.agg (encA x),.agg (encT t)]∧AskOk x∧K (.bool (W9 x t))
theorem IQ[Syms]:Z8 Tryz.prog 51 S_hold:=by
 rintro args K ⟨x,t,rfl,h1,hk⟩
 exact⟨Lz _ t rfl,_,rfl,hk,fnI QC Qz Qe NC QV (N4 x t h1)⟩
def Xt:List Ask→Tr→Bool
 |[],_=>true
 |x::l,t=>if W9 x t=true then Xt l t else false
abbrev vA(l:List Ask):AVal:=vT 10 encA default l
abbrev cAl:CallT:=Qu 51 (ZJ S_hold) Ql
theorem NL[Syms]:cAl.ok Tryz.prog:=Q8 IQ Qk
noncomputable def P6:Nat→Nat→Pl:=YK [(22,0)] (Z1 plt)
abbrev YH(t:Tr):List AVal:=[.int .i64 t.num,.str t.txt,.vs 1 (t.kids.map fun x=>[.vs 3 (x.map encT)])]
def I8(l:List Ask)(t:Tr)(i:Nat):St:=⟨[(3,.ptr 0 0 0),(7,vA l),(8,.int .i64 l.length),(9,.int .i64 i)],[(0,some (.cells [YH t] false))],1⟩
theorem OH[Syms](l:List Ask)(t:Tr)(hx:∀i,AskOk (l.getD i default))(hl:l.length≤1000):
 fnT Ql cAl (QW fns) (QP tys) P6 100 22 [vA l,.agg (encT t)] [] 0 (fun v H _=>v= .bool (Xt l t)∧H=[]):=by
 have e0:encT t=YH t:=by cases t;exact QL _ _ _
 rw[e0]
 refine⟨⟨[(0,vA l),(3,.ptr 0 0 0),(4,.bool false)],[(0,some (.cells [YH t] false))],1⟩,Q0 [0] (by exact rfl) ⟨.refl _,.refl _,.refl _,trivial⟩ ⟨⟨by decide,_,rfl,.refl _⟩,trivial⟩,?_⟩
 repeat' first|refine And.intro ?_ ?_|(intro h;try first|exact dz|replace h:=cv)
 all_goals try exact cz
 refine⟨fun m s=>∃i:Nat,(i≤l.length∧m=l.length-i∧Xt (l.drop i) t=Xt l t)∧s=I8 l t i,⟨_,I8 l t 0,Q0 [0] (by exact rfl) ⟨.refl _,.refl _,.refl _,.refl _,trivial⟩ ⟨⟨by decide,_,rfl,.refl _⟩,trivial⟩,0,⟨by omega,rfl,rfl⟩,rfl⟩,?_⟩
 rintro m s ⟨i,⟨hi,rfl,hv⟩,rfl⟩
 unfold I8
 by_cases h1:i<l.length
 ·have hd:l.drop i=l.getD i default::l.drop (i+1):=by
   rw[List.drop_eq_getElem_cons h1,List.getD_eq_getElem?_getD,List.getElem?_eq_getElem h1];rfl
  rw[hd,Xt]at hv
  have hx0:=hx i
  by_cases hh:W9 (l.getD i default) t=true
  ·rw[if_pos hh]at hv
   repeat' first|refine And.intro ?_ ?_|(intro h;try first|exact dz|replace h:=cv)
   all_goals try exact cz
   refine⟨l.getD i default,t,?_,hx0,?_⟩
   ·rw[e0];rfl
   rw[hh]
   repeat' first|refine And.intro ?_ ?_|(intro h;try first|exact dz|replace h:=cv)
   all_goals try exact cz
   refine⟨_,I8 l t (i+1),?_,⟨i+1,⟨by omega,rfl,hv⟩,rfl⟩,by omega⟩
   unfold I8
   exact Q0 [0] (by exact rfl) ⟨.refl _,.refl _,.refl _,Qa (by first|rfl|omega),trivial⟩ ⟨⟨by decide,_,rfl,.refl _⟩,trivial⟩
  ·rw[if_neg hh]at hv
   rw[←hv]
   repeat' first|refine And.intro ?_ ?_|(intro h;try first|exact dz|replace h:=cv)
   all_goals try exact cz
   refine⟨l.getD i default,t,?_,hx0,?_⟩
   ·rw[e0];rfl
   rw[Bool.eq_false_iff.2 hh]
   repeat' first|refine And.intro ?_ ?_|(intro h;try first|exact dz|replace h:=cv)
   all_goals try exact cz
   exact⟨_,Q9 [4] rfl,_,rfl,rfl,rfl⟩
 ·obtain rfl:i=l.length:=by omega
  rw[List.drop_length,Xt]at hv
  rw[←hv]
  repeat' first|refine And.intro ?_ ?_|(intro h;try first|exact dz|replace h:=cv)
  all_goals try exact cz
  exact⟨_,Q9 [4] rfl,_,rfl,rfl,rfl⟩
def S_all:SpecI:=fun args K=>∃(l:List Ask) (t:Tr),args=[vA l,.agg (encT t)]∧((∀i,AskOk (l.getD i default))∧l.length≤1000)∧K (.bool (Xt l t))
theorem NU[Syms]:Z8 Tryz.prog 22 S_all:=by
 rintro args K ⟨l,t,rfl,⟨h1,h2⟩,hk⟩
 exact⟨Lz _ t rfl,_,rfl,hk,fnI QC Qz Qe NL QV (OH l t h1 h2)⟩
def KB(fs:List Fd)(t:Tr)(cs:List Cd):Bool:=if XG fs cs=0 then Xt (Xq fs cs) t else false
theorem Og(l:List Ask):SeeV (.vs 10 (l.map encA)) (vA l):=.tab _ _ _ _ (Xw encA default l).symm
theorem Ll(fs:List Fd)(c:Cd)(hl:(ZR c.path).length≤1000):AskOk (XH fs c):=⟨by show(UB fs c.path).length≤1000;unfold UB;rw[FQ];exact hl,fun k=>C3 fs _ _ k⟩
theorem Lm:AskOk default:=⟨Nat.zero_le _,fun k=>by show 0≤([]:List Int).getD k 0;simp⟩
abbrev cHl:CallT:=Qu 21 (ZJ S_asks) (Qu 22 (ZJ (D5 S_all)) Ql)
theorem ND[Syms]:cHl.ok Tryz.prog:=Q8 Lk (Q8 NU.see Qk)
noncomputable def P2:Nat→Nat→Pl:=YK [(9,0)] (Z1 plt)
theorem Lt[Syms](fs:List Fd)(t:Tr)(cs:List Cd)(hQ:QOk fs)(hc:cs.length≤1000)(hs:∀i,(cs.getD i default).v.s.length≤9223372036854775807)(hx:XG fs cs=0→ ∀i,AskOk ((Xq fs cs).getD i default)):
 fnT Ql cHl (QW fns) (QP tys) P2 100 9 [vF fs,.agg (encT t),vC cs] [] 0 (fun v H _=>v= .tup [.bool (KB fs t cs),.int .i64 (XG fs cs)]∧H=[]):=by
 have e0:encT t=YH t:=by cases t;exact QL _ _ _
 rw[e0]
 refine⟨⟨[(0,vF fs),(2,vC cs),(4,.ptr 0 0 0),(6,.bool false),(7,.int .i64 0)],[(0,some (.cells [YH t] false))],1⟩,Q0 [0] (by exact rfl) ⟨.refl _,.refl _,.refl _,.refl _,.refl _,trivial⟩ ⟨⟨by decide,_,rfl,.refl _⟩,trivial⟩,?_⟩
 repeat' first|refine And.intro ?_ ?_|(intro h;try first|exact dz|replace h:=cv)
 all_goals try exact cz
 refine⟨fs,cs,rfl,⟨hQ,hc,hs⟩,?_⟩
 by_cases he:XG fs cs=0
 ·have hF:KB fs t cs=Xt (Xq fs cs) t:=if_pos he
  have hl:(Xq fs cs).length≤1000:=by
   unfold Xq
   rw[if_pos he,List.length_map];exact hc
  rw[hF,he]
  repeat' first|refine And.intro ?_ ?_|(intro h;try first|exact dz|replace h:=cv)
  all_goals try exact cz
  refine⟨[vA (Xq fs cs),.agg (encT t)],⟨Og _,?_,trivial⟩,Xq fs cs,t,rfl,⟨hx he,hl⟩,?_⟩
  ·rw[e0];exact .same _
  repeat' first|refine And.intro ?_ ?_|(intro h;try first|exact dz|replace h:=cv)
  all_goals try exact cz
  exact⟨_,Q9 [6,7] rfl,_,rfl,rfl,rfl⟩
 ·have hF:KB fs t cs=false:=if_neg he
  rw[hF]
  repeat' first|refine And.intro ?_ ?_|(intro h;try first|exact dz|replace h:=cv)
  all_goals try exact cz
  exact⟨_,Q9 [6,7] rfl,_,rfl,rfl,rfl⟩
theorem Ov(u v:AVal)(t:Tr)(hu:u.imm=true)(h:v.imm=true):Vk [u,.agg (encT t),v]=true:=by
 obtain⟨ks,n,s⟩:=t
 rw[QL]
 show(u.imm&&_)=true
 rw[hu]
 show(true&&(true&&(v.imm&&true)))=true
 rw[h];rfl
def S_holds:SpecI:=fun args K=>∃(fs:List Fd) (t:Tr) (cs:List Cd),args=[vF fs,.agg (encT t),vC cs]∧(QOk fs∧cs.length≤1000∧(∀i,(cs.getD i default).v.s.length≤9223372036854775807)∧(XG fs cs=0→ ∀i,AskOk ((Xq fs cs).getD i default)))∧K (.tup [.bool (KB fs t cs),.int .i64 (XG fs cs)])
theorem Dx[Syms]:Z8 Tryz.prog 9 S_holds:=by
 rintro args K ⟨fs,t,cs,rfl,⟨h1,h2,h3,h4⟩,hk⟩
 exact⟨Ov _ _ t rfl rfl,_,rfl,hk,fnI QC Qz Qe ND QV (Lt fs t cs h1 h2 h3 h4)⟩
end
theorem Gb(fs:List Fd)(a j:Nat):((Xj fs a).getD j default).kind=(fs.getD j default).kind:=by
 unfold Xj
 rw[List.getD_eq_getElem?_getD,List.getD_eq_getElem?_getD,List.getElem?_set]
 split
 ·rename_i h;subst h
  split
  ·rename_i h;simp[h]
  ·rename_i h;simp[Nat.le_of_not_lt h]
 ·rfl
theorem GW(ns:List Int):∀(n i:Nat) (fs:List Fd) (op:List Int),0<fs.length→(fs.getD 0 default).kind=0→0<(X8 ns n i fs op).1.length∧((X8 ns n i fs op).1.getD 0 default).kind=0
 |0,_,fs,op,h0,h=>⟨h0,h⟩
 |n+1,i,fs,op,h0,h=>by
  rw[X8]
  split
  ·refine GW ns n (i+1) _ _ ?_ ?_
   ·simp[YF]
   ·simp only[YF]
    rw[QY (by rw[Qb];exact h0),Gb];exact h
  ·exact⟨h0,h⟩
theorem Ku(ns:List Int):((Qs ns).getD 0 default).kind=0:=by
 obtain⟨h0,h⟩:=GW ns 12 0 fs0 [0] (by decide) rfl
 simp only[Qs]
 generalize(X8 ns 12 0 fs0 [0]).1=fs at *
 generalize(X8 ns 12 0 fs0 [0]).2=op at *
 unfold Yu
 split
 ·rw[QY (by rw[Qb];exact h0),Gb];exact h
 ·exact h
theorem VD{fs:List Fd}{ps:List Int}:∀(n:Nat) (l:Lf),l∈QF fs ps n→0≤l.field∧l.field<n∧l.kind=(fs.getD l.field.toNat default).kind∧l.kind≠0
 |0,l,h=>by cases h
 |n+1,l,h=>by
  rw[Q4]at h
  split at h
  ·rename_i hk
   rcases List.mem_append.1 h with h|h
   ·have:=VD n l h;exact⟨this.1,by omega,this.2.2⟩
   ·simp only[List.mem_singleton]at h
    subst h
    exact⟨by simp[mkL],by simp only[mkL];omega,by simp[mkL],by simpa[mkL]using hk⟩
  ·have:=VD n l h;exact⟨this.1,by omega,this.2.2⟩
theorem VE{fs:List Fd}{ps:List Int}:∀(n:Nat) (a b:Nat),a<b→b<(QF fs ps n).length→((QF fs ps n).getD a default).field<((QF fs ps n).getD b default).field
 |0,a,b,_,h=>by simp[QF,Qd]at h
 |n+1,a,b,hab,h=>by
  rw[Q4]at h ⊢
  split at h
  ·rename_i hk
   rw[if_pos hk]
   rw[List.length_append,List.length_singleton]at h
   by_cases hb:b<(QF fs ps n).length
   ·rw[QY (by omega),QY hb];exact VE n a b hab hb
   ·obtain rfl:b=(QF fs ps n).length:=by omega
    rw[QY hab,Zn]
    have hm:(QF fs ps n).getD a default∈QF fs ps n:=by rw[List.getD_eq_getElem?_getD,List.getElem?_eq_getElem hab];exact List.getElem_mem hab
    exact(VD n _ hm).2.1
  ·rename_i hk
   rw[if_neg hk]
   exact VE n a b hab h
theorem Jw{fs:List Fd}(hr:(fs.getD 0 default).kind=0){k:Nat}(h:k<(Q2 fs).length):∃j:Nat,((Q2 fs).getD k default).field=(j:Int)∧1≤j∧j<fs.length∧((Q2 fs).getD k default).kind=(fs.getD j default).kind∧((Q2 fs).getD k default).kind≠0:=by
 have hm:(Q2 fs).getD k default∈Q2 fs:=by rw[List.getD_eq_getElem?_getD,List.getElem?_eq_getElem h];exact List.getElem_mem h
 obtain⟨a,b,c,d⟩:=VD fs.length _ hm
 refine⟨((Q2 fs).getD k default).field.toNat,by omega,?_,by omega,c,d⟩
 by_cases h0:((Q2 fs).getD k default).field.toNat=0
 ·rw[h0]at c;exact absurd (c.trans hr) d
 ·omega
theorem E6{fs:List Fd}(hn:Nam fs)(hr:(fs.getD 0 default).kind=0){k j:Nat}(hk:k<(Q2 fs).length)(hj:j<(Q2 fs).length)(h:Xc fs k=Xc fs j):k=j:=by
 obtain⟨a,a1,a2,a3,_⟩:=Jw hr hk
 obtain⟨b,b1,b2,b3,_⟩:=Jw hr hj
 unfold Xc at h
 rw[a1,b1]at h
 have hab:a=b:=by
  rcases Nat.lt_trichotomy a b with hl|hl|hl
  ·exact absurd h.symm (J0 hn b2 b3 hl)
  ·exact hl
  ·exact absurd h (J0 hn a2 a3 hl)
 rcases Nat.lt_trichotomy k j with hl|hl|hl
 ·have:=VE (ps:=Q6 fs) fs.length k j hl hj
  have e:((Q2 fs).getD k default).field<((Q2 fs).getD j default).field:=this
  rw[a1,b1,hab]at e;omega
 ·exact hl
 ·have:=VE (ps:=Q6 fs) fs.length j k hl hk
  have e:((Q2 fs).getD j default).field<((Q2 fs).getD k default).field:=this
  rw[a1,b1,hab]at e;omega
theorem Ho{fs:List Fd}{p:List UInt8}{k:Nat}(hp:Xc fs k=p)(hk:k<(Q2 fs).length):∀n,n≤(Q2 fs).length→(Q2 fs).length-n≤k→0≤ixP fs p n
 |0,_,h=>by omega
 |n+1,hn,h=>by
  rw[ixP]
  split
  ·exact Int.natCast_nonneg _
  ·rename_i hne
   refine Ho hp hk n (by omega) ?_
   by_cases he:(Q2 fs).length-(n+1)=k
   ·rw[he]at hne;exact absurd hp hne
   ·omega
theorem BJ{fs:List Fd}(hn:Nam fs)(hr:(fs.getD 0 default).kind=0){k:Nat}(hk:k<(Q2 fs).length):Wb fs (Xc fs k)=k:=by
 obtain⟨j,h1,h2,h3⟩:=Gi (fs:=fs) (p:=Xc fs k) (Ho rfl hk _ (Nat.le_refl _) (by omega))
 rw[h2,E6 hn hr h1 hk h3]
theorem C7{fs:List Fd}{ps:List Int}{P:UInt8→Prop}(h46:P 46)(hn:∀j,∀b∈(fs.getD j default).name,P b):∀(n:Nat) (k:Int) (out:List UInt8),(∀b∈out,P b)→ ∀b∈upK fs ps n k out,P b
 |0,k,out,h=>h
 |n+1,k,out,h=>by
  rw[upK]
  split
  ·refine C7 h46 hn n _ _ fun b hb=>?_
   rcases List.mem_append.1 hb with hb|hb
   ·rcases List.mem_append.1 hb with hb|hb
    ·exact hn _ b hb
    ·rw[List.mem_singleton.1 hb];exact h46
   ·exact h b hb
  ·exact h
theorem C4{fs:List Fd}{ps:List Int}(hn:∀j,(fs.getD j default).name.length≤1):∀(n:Nat) (k:Int) (out:List UInt8),(upK fs ps n k out).length≤out.length+2*n
 |0,k,out=>Nat.le_refl _
 |n+1,k,out=>by
  rw[upK]
  split
  ·have:=C4 hn (ps:=ps) n (ps.getD k.toNat 0) ((fs.getD k.toNat default).name++[46]++out)
   have:=hn k.toNat
   simp only[List.length_append,List.length_singleton]at *
   omega
  ·omega
theorem ID:∀i,i<12→ ∀b∈nmM i,b.toNat<128:=by decide
theorem Nam.low{fs:List Fd}(h:Nam fs)(j:Nat):∀b∈(fs.getD j default).name,b.toNat<128:=by
 by_cases hj:j<fs.length
 ·by_cases h0:j=0
  ·subst h0;rw[h.root];decide
  ·rcases h.at' j (by omega) hj with⟨e,_⟩|⟨e,_⟩
   ·rw[e];exact ID _ (by omega)
   ·rw[e];decide
 ·rw[List.getD_eq_getElem?_getD,List.getElem?_eq_none (by omega)]
  intro b hb;cases hb
theorem Dh{fs:List Fd}(h:Nam fs)(i:Int):(Zc fs (Q6 fs) i).length≤29∧ ∀b∈Zc fs (Q6 fs) i,b.toNat<128:=by
 unfold Zc
 split
 ·exact⟨Nat.zero_le _,fun b hb=>by cases hb⟩
 ·refine⟨?_,C7 (P:=fun b=>b.toNat<128) (by decide) h.low _ _ _ (h.low _)⟩
  have:=C4 (ps:=Q6 fs) h.len1 fs.length ((Q6 fs).getD i.toNat 0) (fs.getD i.toNat default).name
  have:=h.len1 i.toNat
  have:=h.le
  omega
theorem Hg(ns:List Int):QOk (Qs ns) where
 ok:=IK ns
 pos:=(YO ns).pos
 kind k h:=by obtain⟨_,_,_,_,_,e⟩:=Jw (Ku ns) h;exact e
 path k h:=by
  obtain⟨a,b⟩:=Dh (YO ns) ((Q2 (Qs ns)).getD k default).field
  refine⟨Nat.le_trans a (by omega),fun j hj=>b _ ?_⟩
  have e:(Xc (Qs ns) k).getD j 0=(Xc (Qs ns) k)[j]:=by simp[hj]
  rw[e];exact List.getElem_mem hj
theorem Cx(ns rec:List Int)(hl:rec.length≤9223372036854775807)(hr:∀k,-9223372036854775808≤rec.getD k 0∧rec.getD k 0≤9223372036854775807):MkOk (Qs ns) (Q6 (Qs ns)) rec where
 len:=(YO ns).le
 par:=by rw[Q6,List.length_map,W3]
 kind i h:=by
  have:=Dl ns ((Qs ns).getD i default) (by rw[List.getD_eq_getElem?_getD,List.getElem?_eq_getElem h];exact List.getElem_mem h)
  exact⟨this.2.2.1,this.2.2.2⟩
 rep i h:=by
  have:=Dl ns ((Qs ns).getD i default) (by rw[List.getD_eq_getElem?_getD,List.getElem?_eq_getElem h];exact List.getElem_mem h)
  exact⟨this.1,this.2.1⟩
 raw:=hl
 int:=hr
theorem Ig(x:Int):-2147483648≤wr .i32 x∧wr .i32 x≤2147483647:=by
 unfold wr
 split
 ·rename_i h
  exact⟨h.1,h.2⟩
 ·show(-2147483648:Int)≤(if(true&&decide (x%(2^32:Int)≥(2^31:Int)))=true then x%(2^32:Int)-(2^32:Int)else x%(2^32:Int))∧(if(true&&decide (x%(2^32:Int)≥(2^31:Int)))=true then x%(2^32:Int)-(2^32:Int)else x%(2^32:Int))≤(2147483647:Int)
  split
  ·rename_i h;simp at h;omega
  ·rename_i h;simp at h;omega
theorem BD{k:Int}(h0:0≤k)(h4:k≤4)(hk:k≠0)(v:Vl):YG k (Yq k v).n (Yq k v).s=true:=by
 refine decide_eq_true ?_
 have:k=1∨k=2∨k=3∨k=4:=by omega
 rcases this with rfl|rfl|rfl|rfl
 ·obtain⟨w1,w2⟩:=Zs (a:=v.n) (n:=2) (by decide)
  show ZC 1 (wi v.n 2) []=0
  unfold ZC
  rw[if_neg (by simp),if_neg (by decide),if_neg (by decide),if_pos (by decide),if_pos rfl,if_neg (by omega)]
 ·obtain⟨w1,w2⟩:=Ig v.n
  show ZC 2 (wr .i32 v.n) []=0
  unfold ZC
  rw[if_neg (by simp),if_neg (by decide),if_pos rfl,if_neg (by omega)]
 ·show ZC 3 v.n []=0
  unfold ZC
  rw[if_neg (by simp),if_pos rfl]
 ·show ZC 4 0 (v.s.take 100)=0
  unfold ZC
  rw[if_neg (by simp),if_neg (by decide),if_neg (by decide),if_pos (by simp;omega),if_neg (by decide)]
def B4(fs:List Fd)(c:Cd):Prop:=Xu fs c=0∧c.v.s.length≤9223372036854775807∧AskOk (XH fs c)
theorem L1(ns:List Int)(x:Rc)(hr:(cdL (Qs ns) x).r=0):B4 (Qs ns) (DK (Qs ns) false x):=by
 have hL:=J3 ns
 obtain⟨w1,w2⟩:=Zs (a:=x.leaf) (n:=(Q2 (Qs ns)).length) (by omega)
 have hk:(wi x.leaf (Q2 (Qs ns)).length).toNat<(Q2 (Qs ns)).length:=by omega
 unfold DK
 unfold cdL at hr ⊢
 generalize(wi x.leaf (Q2 (Qs ns)).length).toNat=k at *
 have hf:=BJ (YO ns) (Ku ns) hk
 obtain⟨j,j1,j2,j3,j4,j5⟩:=Jw (Ku ns) hk
 have hkd:=(Cx ns [] (by decide) (fun k=>by simp)).kind j j3
 obtain⟨o1,o2⟩:=Zs (a:=x.op) (n:=6) (by decide)
 have hsd:=BD (k:=((Q2 (Qs ns)).getD k default).kind) (by omega) (by omega) j5 x.v
 have hp:=Dh (YO ns) ((Q2 (Qs ns)).getD k default).field
 refine⟨?_,?_,Ll _ _ ?_⟩
 ·have hl:F7 (Qs ns) ⟨Xc (Qs ns) k,if false then x.op else wi x.op 6,if false then x.v else Yq ((Q2 (Qs ns)).getD k default).kind x.v⟩=(Q2 (Qs ns)).getD k default:=by
   unfold F7
   rw[hf];rfl
  unfold Xu
  show(if Wb (Qs ns) (Xc (Qs ns) k)<0 then(2:Int)else _)=0
  rw[hf,if_neg (by omega),hl]
  refine if_neg ?_
  show ¬(0<((Q2 (Qs ns)).getD k default).r∨wi x.op 6<0∨5<wi x.op 6∨(wi x.op 6≠5∧YG ((Q2 (Qs ns)).getD k default).kind (Yq ((Q2 (Qs ns)).getD k default).kind x.v).n (Yq ((Q2 (Qs ns)).getD k default).kind x.v).s=false))
  rintro(h|h|h|⟨_,h⟩)
  ·omega
  ·omega
  ·omega
  ·rw[hsd]at h;cases h
 ·show(Yq ((Q2 (Qs ns)).getD k default).kind x.v).s.length≤_
  unfold Yq
  split
  ·exact Nat.zero_le _
  ·split
   ·exact Nat.zero_le _
   ·split
    ·exact Nat.zero_le _
    ·show(x.v.s.take 100).length≤_
     rw[List.length_take];omega
 ·have:=G6 (Zc (Qs ns) (Q6 (Qs ns)) ((Q2 (Qs ns)).getD k default).field)
  show(ZR (Zc (Qs ns) (Q6 (Qs ns)) ((Q2 (Qs ns)).getD k default).field)).length≤1000
  omega
theorem Um(ns:List Int):∀l:List Rc,∀c∈VX (Qs ns) false l,B4 (Qs ns) c
 |[],c,h=>by cases h
 |x::t,c,h=>by
  rw[VX]at h
  split at h
  ·rename_i hr
   rcases List.mem_cons.1 h with rfl|h
   ·exact L1 ns x (hr.elim id fun h=>Bool.noConfusion h)
   ·exact Um ns t c h
  ·exact Um ns t c h
theorem JC{fs:List Fd}:∀{cs:List Cd},(∀c∈cs,B4 fs c)→WE fs cs=0
 |[],_=>rfl
 |c::t,h=>by
  rw[WE,if_pos (h c (List.mem_cons_self ..)).1]
  exact JC fun d hd=>h d (List.mem_cons_of_mem _ hd)
section
set_option maxRecDepth 100000
set_option maxHeartbeats 4000000
abbrev cM8(F:Nat):CallT:=Qu 16 (ZJ S_par) (Qu 17 (GT (Ib F)) Ql)
theorem Nz[Syms](F:Nat):(cM8 F).ok Tryz.prog:=Q8 Cg (YL (EN F) Qk)
noncomputable def OY:Nat→Nat→Pl:=YK [(7,1)] (Z1 plt)
theorem IL[Syms](fs:List Fd)(ns:List Int)(hm:MkOk fs (Q6 fs) ns)(hF:FsOk fs)(h0:0<fs.length):
 fnT Ql (cM8 fs.length) (QW fns) (QP tys) OY 100 7 [vF fs,vI ns] [] 0 (D1 (fun v H _=>v= .agg (encT (J4 fs ns))∧H=[])):=by
 refine⟨fs,rfl,hF,?_⟩
 repeat' first|refine And.intro ?_ ?_|(intro h;try first|exact dz|replace h:=cv)
 all_goals try exact cz
 refine⟨⟨[(4,.ptr 1 0 0),(5,.ptr 0 0 0)],[(0,Zj fs (Q6 fs) ns 0),(1,some (.cells [tr0] false))],2⟩,Q0 [1,0] (by exact rfl) ⟨.refl _,.refl _,trivial⟩ ⟨⟨by decide,_,rfl,.refl _⟩,⟨by decide,_,rfl,.refl _⟩,trivial⟩,?_⟩
 refine⟨[0],[.ptr 0 0 0,.int .i64 ((0:Nat):Int)],[(0,Zj fs (Q6 fs) ns 0)],rfl,⟨.refl _,.refl _,trivial⟩,⟨⟨by decide,_,rfl,.refl _⟩,trivial⟩,fs,Q6 fs,ns,0,0,rfl,rfl,rfl,hm,h0,by omega,Nat.zero_le _,?_⟩
 unfold J4
 rcases ZQ fs (Q6 fs) ns fs.length 0 0 with⟨⟨tk,tn,ts⟩,b⟩
 dsimp only
 rw[QL]
 repeat' first|refine And.intro ?_ ?_|(intro h;try first|exact dz|replace h:=cv)
 all_goals try exact cz
 exact⟨⟨[(4,.ptr 0 0 0)],[(0,some (.cells [[.int .i64 tn,.str ts,.vs 1 (tk.map fun(x:List Tr)=>[AVal.vs 3 (x.map encT)])]] false))],1⟩,(by exact Q0 [1] (by exact rfl) ⟨.refl _,trivial⟩ ⟨⟨by decide,_,rfl,ZP (row:=[.int .i64 tn,.str ts,.vs 1 (tk.map fun(x:List Tr)=>[AVal.vs 3 (x.map encT)])]) ⟨.refl _,.refl _,.refl _,trivial⟩⟩,trivial⟩),_,rfl,[],fun n b h=>(by rw[Heap.get_nil]at h;cases h),rfl,rfl⟩
def S_make8:SpecI:=fun args K=>∃fs ns,args=[vF fs,vI ns]∧MkOk fs (Q6 fs) ns∧FsOk fs∧0<fs.length∧K (.agg (encT (J4 fs ns)))
theorem HF(t:Tr):(AVal.agg (encT t)).imm=true:=by
 obtain⟨ks,n,s⟩:=t
 rw[QL];rfl
theorem Hi[Syms]:Z8 Tryz.prog 7 S_make8:=by
 rintro args K ⟨fs,ns,rfl,hm,hF,h0,hk⟩
 exact⟨rfl,_,HF _,hk,Xr.forget (Zr QC Qz Qe (Nz _) QV (IL fs ns hm hF h0))⟩
end
def S_make:SpecI:=fun args K=>∃ns,args=[vI ns]∧(ns.length≤9223372036854775807∧K (vF (Qs ns)))
theorem Hh[Syms]:Z8 Tryz.prog 6 S_make:=by
 rintro args K ⟨ns,rfl,h,hk⟩
 exact⟨rfl,_,rfl,hk,fnI QC Qz L7 Ns QV (LX ns h)⟩
section
set_option maxRecDepth 100000
set_option maxHeartbeats 4000000
theorem K7{l:List Ask}{t:Tr}:Xt l t=true↔ ∀x∈l,W9 x t=true:=by
 induction l with
 |nil=>exact⟨fun _ x h=>(List.not_mem_nil h).elim,fun _=>rfl⟩
 |cons a l ih=>
  rw[Xt]
  by_cases h:W9 a t=true
  ·rw[if_pos h,ih]
   exact⟨fun hl x hx=>(List.mem_cons.1 hx).elim (fun e=>e▸h) (hl x),fun hl x hx=>hl x (List.mem_cons_of_mem _ hx)⟩
  ·rw[if_neg h]
   exact⟨fun h'=>Bool.noConfusion h',fun hl=>absurd (hl a (List.mem_cons_self ..)) h⟩
theorem I7{l:List Ask}{a:Ask}{t:Tr}:Xt (l++[a]) t=if Xt l t=true then W9 a t else false:=by
 have h1:=@K7 (l++[a]) t
 have h2:=@K7 l t
 by_cases h:Xt l t=true
 ·rw[if_pos h]
  cases ha:W9 a t with
  |true=>exact h1.2 fun x hx=>(List.mem_append.1 hx).elim (h2.1 h x) (fun e=>by rw[List.mem_singleton.1 e];exact ha)
  |false=>exact Bool.eq_false_iff.2 fun hl=>by have:=h1.1 hl a (by simp);rw[ha]at this;cases this
 ·rw[if_neg h]
  exact Bool.eq_false_iff.2 fun hl=>h (h2.2 fun x hx=>h1.1 hl x (List.mem_append_left _ hx))
def KW(cs:List Cd)(w i:Nat):List Cd:=(List.range i).map fun j=>cs.getD ((j+w)%cs.length) default
theorem GS{cs:List Cd}{w:Nat}:∀c∈KW cs w cs.length,c∈cs:=fun c hc=>by
 obtain⟨j,hj,rfl⟩:=List.mem_map.1 hc
 have h0:0<cs.length:=by have:=List.mem_range.1 hj;omega
 have hm:=Nat.mod_lt (j+w) h0
 rw[List.getD_eq_getElem?_getD,List.getElem?_eq_getElem hm];exact List.getElem_mem hm
theorem CX{cs:List Cd}{w:Nat}:∀c∈cs,c∈KW cs w cs.length:=fun c hc=>by
 obtain⟨k,hk,rfl⟩:=List.getElem_of_mem hc
 have h0:0<cs.length:=by omega
 refine List.mem_map.2 ⟨(k+(cs.length-w%cs.length))%cs.length,List.mem_range.2 (Nat.mod_lt _ h0),?_⟩
 have hw:=Nat.mod_lt w h0
 have e:((k+(cs.length-w%cs.length))%cs.length+w)%cs.length=k:=by
  rw[Nat.mod_add_mod,←Nat.add_mod_mod,show k+(cs.length-w%cs.length)+w%cs.length=k+cs.length by omega,Nat.add_mod_right,Nat.mod_eq_of_lt hk]
 rw[e,List.getD_eq_getElem?_getD,List.getElem?_eq_getElem hk];rfl
theorem B9{fs:List Fd}{cs:List Cd}{w:Nat}{t:Tr}:Xt ((KW cs w cs.length).map (XH fs)) t=Xt (cs.map (XH fs)) t:=by
 have key:∀{a b:List Cd},(∀c∈a,c∈b)→Xt (b.map (XH fs)) t=true→Xt (a.map (XH fs)) t=true:=fun h hb=>K7.2 fun x hx=>by
  obtain⟨c,hc,rfl⟩:=List.mem_map.1 hx
  exact K7.1 hb _ (List.mem_map.2 ⟨c,h c hc,rfl⟩)
 cases h:Xt (cs.map (XH fs)) t with
 |true=>exact key GS h
 |false=>exact Bool.eq_false_iff.2 fun h'=>by rw[key CX h']at h;cases h
theorem IR{fs:List Fd}{cs:List Cd}{t:Tr}(hl:cs.length≤5)(h:∀c∈cs,B4 fs c):XG fs cs=0∧KB fs t cs=Xt (cs.map (XH fs)) t∧Xq fs cs=cs.map (XH fs):=by
 have hE:XG fs cs=0:=by rw[XG,if_neg (by omega),JC h]
 have hA:Xq fs cs=cs.map (XH fs):=by rw[Xq,if_pos hE]
 exact⟨hE,by rw[KB,if_pos hE,hA],hA⟩
theorem Ei{fs:List Fd}{cs:List Cd}{t:Tr}{K:AVal→Prop}(hQ:QOk fs)(hl:cs.length≤5)(h:∀c∈cs,B4 fs c)(hK:K (.tup [.bool (Xt (cs.map (XH fs)) t),.int .i64 0])):S_holds [vF fs,.agg (encT t),vC cs] K:=by
 obtain⟨hE,hH,hA⟩:=IR (t:=t) hl h
 refine⟨fs,t,cs,rfl,⟨hQ,by omega,fun i=>?_,fun _ i=>?_⟩,by rw[hE,hH];exact hK⟩
 ·by_cases hi:i<cs.length
  ·rw[List.getD_eq_getElem?_getD,List.getElem?_eq_getElem hi];exact(h _ (List.getElem_mem hi)).2.1
  ·rw[List.getD_eq_getElem?_getD,List.getElem?_eq_none (by omega)];exact Nat.zero_le _
 ·rw[hA]
  by_cases hi:i<cs.length
  ·rw[List.getD_eq_getElem?_getD,List.getElem?_map,List.getElem?_eq_getElem hi];exact(h _ (List.getElem_mem hi)).2.2
  ·rw[List.getD_eq_getElem?_getD,List.getElem?_eq_none (by rw[List.length_map];omega)];exact Lm
theorem YQ{fs:List Fd}{cs:List Cd}{t:Tr}{r:List AVal}{K:AVal→Prop}(e0:encT t=r)(hQ:QOk fs)(hl:cs.length≤5)(h:∀c∈cs,B4 fs c)(hK:K (.tup [.bool (Xt (cs.map (XH fs)) t),.int .i64 0])):S_holds [vF fs,.agg r,vC cs] K:=by
 subst e0;exact Ei hQ hl h hK
abbrev Lb:CallT:=Qu 9 (ZJ (D5 (D5 S_holds))) Ql
theorem HW[Syms]:Lb.det Tryz.prog:=ZL Dx.see.see Qe
theorem La[Syms]:Lb.ok Tryz.prog:=Q8 Dx.see.see Qk
abbrev cLb:CallT:=Qu 5 (ZJ S_known21) (Qu 6 (ZJ S_make) (Qu 7 (ZJ S_make8) (Qu 8 (ZJ S_conds) (Qu 11 (FW G_wi) Lb))))
theorem NA[Syms]:cLb.ok Tryz.prog:=Q8 Bw (Q8 Hh (Q8 Hi (Q8 HO (XA MK La))))
noncomputable def P0:Nat→Nat→Pl:=YK [(4,4),(4,19)] (Z1 plt)
def lbS(fs:List Fd)(t:Tr)(cs:List Cd)(by':Int)(all:Bool)(i:Nat):St:=⟨[(3,.int .i64 by'),(9,vF fs),(10,.ptr 0 0 0),(11,vC cs),(12,.bool all),(13,.int .i64 i)],[(0,some (.cells [YH t] false))],1⟩
theorem FP{a b:Bool}(h:a=b):WkV (.bool a) (.bool b):=h▸ .refl _
def lcS(fs:List Fd)(t:Tr)(cs:List Cd)(by':Int)(all:Bool)(i:Nat)(tl:List Cd):St:=⟨[(3,.int .i64 by'),(9,vF fs),(10,.ptr 0 0 0),(11,vC cs),(12,.bool all),(16,XR 2 4 tl),(17,.int .i64 i)],[(0,some (.cells [YH t] false)),(2,Xn encC tl)],3⟩
theorem LI(b1 b2:Blk):Heap.sub [(0,some b1)] (Heap.set [(0,some b1),(2,some b2)] 2 none):=fun m b h=>by
 rw[Heap.get_cons]at h
 cases hm:Nat.beq m 0 with
 |true=>rw[hm]at h;obtain rfl:=Nat.eq_of_beq_eq_true hm;exact h
 |false=>rw[hm,cond_false,Heap.get_nil]at h;cases h
theorem IM[Syms](ns rec:List Int)(l:List Rc)(by':Int)(hn:ns.length≤9223372036854775807)(hr:rec.length≤9223372036854775807)(hri:∀k,-9223372036854775808≤rec.getD k 0∧rec.getD k 0≤9223372036854775807)(hl:l.length≤9223372036854775807):
 fnT Lb cLb (QW fns) (QP tys) P0 100 4 [vI ns,vI rec,vRc l,.int .i64 by'] [] 0 (fun v H _=>v= .bool true∧H=[]):=by
 have hQ:=Hg ns
 have hmk:=Cx ns rec hr hri
 have hL:=J3 ns
 have hg:=Um ns (l.take 5)
 have hcl:(KK (Qs ns) false l).length≤5:=Nat.le_trans (KL _ _ _) (by rw[List.length_take];omega)
 repeat' first|refine And.intro ?_ ?_|(intro h;try first|exact dz|replace h:=cv)
 all_goals try exact cz
 refine⟨ns,rfl,hn,?_⟩
 repeat' first|refine And.intro ?_ ?_|(intro h;try first|exact dz|replace h:=cv)
 all_goals try exact cz
 refine⟨Qs ns,rec,rfl,hmk,hQ.ok,hQ.pos,?_⟩
 generalize J4 (Qs ns) rec=t
 have e0:encT t=YH t:=by cases t;exact QL _ _ _
 rw[e0]
 repeat' first|refine And.intro ?_ ?_|(intro h;try first|exact dz|replace h:=cv)
 all_goals try exact cz
 refine⟨⟨[(2,vRc l),(3,.int .i64 by'),(9,vF (Qs ns)),(10,.ptr 0 0 0)],[(0,some (.cells [YH t] false))],1⟩,Q0 [0] (by exact rfl) ⟨.refl _,.refl _,.refl _,.refl _,trivial⟩ ⟨⟨by decide,_,rfl,.refl _⟩,trivial⟩,?_⟩
 refine⟨Qs ns,l,rfl,⟨hQ.ok,hL,hl⟩,?_⟩
 replace hg:∀c∈KK (Qs ns) false l,B4 (Qs ns) c:=hg
 generalize KK (Qs ns) false l=cs at *
 generalize Qs ns=fs at *
 repeat' first|refine And.intro ?_ ?_|(intro h;try first|exact dz|replace h:=cv)
 all_goals try exact cz
 refine⟨fun m s=>∃i:Nat,(i≤cs.length∧m=cs.length-i)∧s=lbS fs t cs by' (Xt ((cs.take i).map (XH fs)) t) i,⟨_,lbS fs t cs by' true 0,Q0 [0] (by exact rfl) ⟨.refl _,.refl _,.refl _,.refl _,.refl _,.refl _,trivial⟩ ⟨⟨by decide,_,rfl,.refl _⟩,trivial⟩,0,⟨by omega,rfl⟩,rfl⟩,?_⟩
 rintro m s ⟨i,⟨hi,rfl⟩,rfl⟩
 unfold lbS
 by_cases h1:i<cs.length
 ·have htk:cs.take (i+1)=cs.take i++[cs.getD i default]:=by
   rw[List.take_add_one,List.getElem?_eq_getElem h1,List.getD_eq_getElem?_getD,List.getElem?_eq_getElem h1];rfl
  have hci:cs.getD i default∈cs:=by rw[List.getD_eq_getElem?_getD,List.getElem?_eq_getElem h1];exact List.getElem_mem h1
  have hone:∀b,(if b=true then Xt ([cs.getD i default].map (XH fs)) t else false)=(if b=true then W9 (XH fs (cs.getD i default)) t else false):=fun b=>by
   show(if b=true then(if W9 (XH fs (cs.getD i default)) t=true then true else false)else false)=_
   cases W9 (XH fs (cs.getD i default)) t<;>rfl
  have hnext:Xt ((cs.take (i+1)).map (XH fs)) t=(if Xt ((cs.take i).map (XH fs)) t=true then Xt ([cs.getD i default].map (XH fs)) t else false):=by
   rw[htk,List.map_append,hone];exact I7
  repeat' first|refine And.intro ?_ ?_|(intro h;try first|exact dz|replace h:=cv)
  all_goals try exact cz
  refine⟨[vF fs,.agg (YH t),.vs 4 [encC (cs.getD i default)]],⟨.same _,.same _,.un _ _ _ _ ?_,trivial⟩,rfl,[vF fs,.agg (YH t),vC [cs.getD i default]],⟨.same _,.same _,.tab _ _ _ _ rfl,trivial⟩,?_⟩
  ·rw[show(((i:Nat):Int)+1).toNat-((i:Nat):Int).toNat=1 by omega];rfl
  refine YQ (cs:=[cs.getD i default]) e0 hQ (by show 1≤5;decide) (fun c hc=>by rw[List.mem_singleton.1 hc];exact hg _ hci) ?_
  repeat' first|refine And.intro ?_ ?_|(intro h;try first|exact dz|replace h:=cv)
  all_goals try exact cz
  ·refine⟨_,lbS fs t cs by' (Xt ((cs.take (i+1)).map (XH fs)) t) (i+1),?_,⟨i+1,⟨by omega,rfl⟩,rfl⟩,by omega⟩
   unfold lbS
   exact Q0 [0] (by exact rfl) ⟨.refl _,.refl _,.refl _,.refl _,FP (by rw[hnext,h]<;>rfl),Qa (by first|rfl|omega),trivial⟩ ⟨⟨by decide,_,rfl,.refl _⟩,trivial⟩
  ·refine⟨_,lbS fs t cs by' (Xt ((cs.take (i+1)).map (XH fs)) t) (i+1),?_,⟨i+1,⟨by omega,rfl⟩,rfl⟩,by omega⟩
   unfold lbS
   exact Q0 [0] (by exact rfl) ⟨.refl _,.refl _,.refl _,.refl _,FP (by rw[hnext,h]<;>rfl),Qa (by first|rfl|omega),trivial⟩ ⟨⟨by decide,_,rfl,.refl _⟩,trivial⟩
 ·obtain rfl:i=cs.length:=by omega
  rw[List.take_length]
  have hw0:=fun h=>Zs (a:=by') (n:=cs.length) h
  obtain⟨w,hw⟩:∃w:Nat,0<cs.length→wi by' cs.length=w:=⟨(wi by' cs.length).toNat,fun h=>by have:=(hw0 (by omega)).1;omega⟩
  have hts:=B9 (fs:=fs) (cs:=cs) (w:=w) (t:=t)
  have htm:=GS (cs:=cs) (w:=w)
  generalize hA:Xt (cs.map (XH fs)) t=A at *
  repeat' first|refine And.intro ?_ ?_|(intro h;try first|exact dz|replace h:=cv)
  all_goals try exact cz
  refine⟨fun m s=>∃(i:Nat) (tl:List Cd),(i≤cs.length∧m=cs.length-i∧tl=KW cs w i)∧s=lcS fs t cs by' A i tl,⟨_,lcS fs t cs by' A 0 [],(Yh (nx':=3) (by omega)).trans (Q0 [0,1,2] (by exact rfl) ⟨.refl _,.refl _,.refl _,.refl _,.refl _,.refl _,.refl _,trivial⟩ ⟨⟨by decide,_,rfl,.refl _⟩,trivial⟩),0,[],⟨by omega,rfl,rfl⟩,rfl⟩,?_⟩
  rintro m s ⟨i,tl,⟨hi,rfl,htl⟩,rfl⟩
  unfold lcS
  by_cases h1:i<cs.length
  ·have hw1:=hw (by omega)
   obtain⟨w1,w2⟩:=hw0 (by omega)
   have hmod:=Nat.mod_lt (i+w) (show 0<cs.length by omega)
   have hm:(((i:Nat):Int)+((w:Nat):Int)).tmod ((cs.length:Nat):Int)=(((i+w)%cs.length:Nat):Int):=rfl
   rw[hw1]at w1 w2
   have htn:KW cs w (i+1)=tl++[cs.getD ((i+w)%cs.length) default]:=by
    rw[htl];unfold KW;rw[List.range_succ,List.map_append];rfl
   cases tl with
   |nil=>
    repeat' first|refine And.intro ?_ ?_|(intro h;try first|exact dz|replace h:=cv)
    all_goals try exact cz
    refine⟨by',cs.length,rfl,⟨by omega,by omega⟩,?_⟩
    rw[hw1]
    repeat' first|refine And.intro ?_ ?_|(intro h;try first|exact dz|replace h:=cv)
    all_goals try exact cz
    refine⟨_,lcS fs t cs by' A (i+1) ([]++[cs.getD ((i+w)%cs.length) default]),?_,⟨i+1,_,⟨by omega,rfl,htn.symm⟩,rfl⟩,by omega⟩
    unfold lcS
    exact Q0 [0,1,4] (by exact rfl) ⟨.refl _,.refl _,.refl _,.refl _,.refl _,.cap _ _ _ _ _,Qa (by first|rfl|omega),trivial⟩ ⟨⟨by decide,_,rfl,.refl _⟩,⟨by decide,_,rfl,Q1 (by exact rfl) (fC _)⟩,trivial⟩
   |cons o0 ot=>
    have hol:(o0::ot).length≤1000:=by rw[htl];unfold KW;rw[List.length_map,List.length_range];omega
    repeat' first|refine And.intro ?_ ?_|(intro h;try first|exact dz|replace h:=cv)
    all_goals try exact cz
    refine⟨by',cs.length,rfl,⟨by omega,by omega⟩,?_⟩
    rw[hw1]
    repeat' first|refine And.intro ?_ ?_|(intro h;try first|exact dz|replace h:=cv)
    all_goals try exact cz
    refine⟨_,lcS fs t cs by' A (i+1) ((o0::ot)++[cs.getD ((i+w)%cs.length) default]),?_,⟨i+1,_,⟨by omega,rfl,htn.symm⟩,rfl⟩,by omega⟩
    unfold lcS
    exact Q0 [0,1,4] (by exact rfl) ⟨.refl _,.refl _,.refl _,.refl _,.refl _,Q3 (by simp),Qa (by first|rfl|omega),trivial⟩ ⟨⟨by decide,_,rfl,.refl _⟩,⟨by decide,_,rfl,Q1 (by exact gC (o0::ot) (cs.getD ((i+w)%cs.length) default)) (fC _)⟩,trivial⟩
  ·obtain rfl:i=cs.length:=by omega
   rw[←htl]at hts htm
   have htll:tl.length≤5:=by rw[htl];unfold KW;rw[List.length_map,List.length_range];omega
   have htg:∀c∈tl,B4 fs c:=fun c hc=>hg c (htm c hc)
   clear htl hw hw0 htm
   cases tl with
   |nil=>
    repeat' first|refine And.intro ?_ ?_|(intro h;try first|exact dz|replace h:=cv)
    all_goals try exact cz
    refine⟨[vF fs,.agg (YH t),vC cs],⟨.same _,.same _,.same _,trivial⟩,rfl,[vF fs,.agg (YH t),vC cs],⟨.same _,.same _,.same _,trivial⟩,?_⟩
    refine YQ e0 hQ hcl hg ?_
    rw[hA]
    repeat' first|refine And.intro ?_ ?_|(intro h;try first|exact dz|replace h:=cv)
    all_goals try exact cz
    refine⟨⟨[(16,vC []),(9,vF fs),(10,.ptr 0 0 0),(12,.bool A),(18,.bool A),(19,.int .i64 0)],[(0,some (.cells [YH t] false))],1⟩,?_,?_⟩
    ·exact Q0 [0] (by exact rfl) ⟨.zeroT 4 _ _ rfl,.refl _,.refl _,.refl _,.refl _,.refl _,trivial⟩ ⟨⟨by decide,_,rfl,.refl _⟩,trivial⟩
    repeat' first|refine And.intro ?_ ?_|(intro h;try first|exact dz|replace h:=cv)
    all_goals try exact cz
    refine⟨[vF fs,.agg (YH t),vC []],⟨.same _,.same _,.same _,trivial⟩,rfl,[vF fs,.agg (YH t),vC []],⟨.same _,.same _,.same _,trivial⟩,?_⟩
    refine YQ e0 hQ htll htg ?_
    rw[hts]
    cases A
    all_goals
     repeat' first|refine And.intro ?_ ?_|(intro h;try first|exact dz|replace h:=cv)
    all_goals try exact cz
    all_goals exact⟨_,Q9 [8] rfl,_,rfl,rfl,rfl⟩
   |cons o0 ot=>
    repeat' first|refine And.intro ?_ ?_|(intro h;try first|exact dz|replace h:=cv)
    all_goals try exact cz
    refine⟨[vF fs,.agg (YH t),vC cs],⟨.same _,.same _,.same _,trivial⟩,rfl,[vF fs,.agg (YH t),vC cs],⟨.same _,.same _,.same _,trivial⟩,?_⟩
    refine YQ e0 hQ hcl hg ?_
    rw[hA]
    repeat' first|refine And.intro ?_ ?_|(intro h;try first|exact dz|replace h:=cv)
    all_goals try exact cz
    refine⟨⟨[(16,vC (o0::ot)),(9,vF fs),(10,.ptr 0 0 0),(12,.bool A),(18,.bool A),(19,.int .i64 0)],[(0,some (.cells [YH t] false))],3⟩,?_,?_⟩
    ·exact Reb.trans (s':=⟨[(16,.slice 2 0 (o0::ot).length 4 none),(9,vF fs),(10,.ptr 0 0 0),(12,.bool A),(18,.bool A),(19,.int .i64 0)],[(0,some (.cells [YH t] false)),(2,some (.cells ((o0::ot).map encC) false))],3⟩) (Q0 [0,1,2] (by exact rfl) ⟨.refl _,.refl _,.refl _,.refl _,.refl _,.refl _,trivial⟩ ⟨⟨by decide,_,rfl,.refl _⟩,⟨by decide,_,rfl,Qo (fC _)⟩,trivial⟩) (WM default (enc:=encC) (l:=o0::ot) (k:=16) (n:=2) (sz:=4) [(9,vF fs),(10,.ptr 0 0 0),(12,.bool A),(18,.bool A),(19,.int .i64 0)] [(0,some (.cells [YH t] false))] rfl rfl (fC _) (List.take_of_length_le (by simp)) (by simp) (fun p hp=>by simp at hp;rcases hp with rfl|rfl|rfl|rfl|rfl<;>exact⟨Nat.ne_of_beq_eq_false rfl,rfl⟩) (LI _ _))
    repeat' first|refine And.intro ?_ ?_|(intro h;try first|exact dz|replace h:=cv)
    all_goals try exact cz
    refine⟨[vF fs,.agg (YH t),vC (o0::ot)],⟨.same _,.same _,.same _,trivial⟩,rfl,[vF fs,.agg (YH t),vC (o0::ot)],⟨.same _,.same _,.same _,trivial⟩,?_⟩
    refine YQ e0 hQ htll htg ?_
    rw[hts]
    cases A
    all_goals
     repeat' first|refine And.intro ?_ ?_|(intro h;try first|exact dz|replace h:=cv)
    all_goals try exact cz
    all_goals exact⟨_,Q9 [8] rfl,_,rfl,rfl,rfl⟩
def I64(x:Int):Prop:=-9223372036854775808≤x∧x≤9223372036854775807
theorem N3{l:List Int}(h:∀a∈l,I64 a)(k:Nat):-9223372036854775808≤l.getD k 0∧l.getD k 0≤9223372036854775807:=by
 by_cases hk:k<l.length
 ·have e:l.getD k 0=l[k]:=by simp[hk]
  rw[e];exact h _ (List.getElem_mem hk)
 ·rw[List.getD_eq_getElem?_getD,List.getElem?_eq_none (by omega)]
  exact⟨by show(-9223372036854775808:Int)≤0;decide,by show(0:Int)≤9223372036854775807;decide⟩
theorem O0[Syms](ns rec:List Int)(l:List Rc)(by':Int)(hn:ns.length≤9223372036854775807)(_:∀g∈ns,I64 g)(hr:rec.length≤9223372036854775807)(hri:∀g∈rec,I64 g)(hl:l.length≤9223372036854775807)(_:∀v∈l,I64 v.v.n)(_:I64 by'):
 Xr Tryz.prog 4 [vI ns,vI rec,vRc l,.int .i64 by'] [] 0 (fun v H _=>v= .bool true∧H=[]):=
 Zr QC Qz HW NA QV (IM ns rec l by' hn hr (N3 hri) hl)
end
abbrev kI:Shp:=.slice (.int .i64)
abbrev kR:Shp:=.slice (.struct (.pair (.int .i64) (.pair (.int .i64) (.pair (.struct (.pair (.int .i64) (.pair .str .unit))) .unit))))
theorem OG[Syms]{ι:Inj}{x:AVal}{v:Value}(h:kI.ok [x])(hr:RelV ι x v):∃l:List Int,RelV ι (vI l) v∧l.length≤9223372036854775807∧ ∀a∈l,I64 a:=
 Shp.slice_of (enc:=encI) (G:=I64) 0 (fun r h=>by obtain⟨z,rfl,hz⟩:=h;exact⟨z,rfl,B7 hz⟩) h hr
theorem O1[Syms]{ι:Inj}{x:AVal}{v:Value}(h:kR.ok [x])(hr:RelV ι x v):∃l:List Rc,RelV ι (vRc l) v∧l.length≤9223372036854775807∧ ∀a∈l,I64 a.v.n:=
 Shp.slice_of (enc:=Oz) (G:=fun a=>I64 a.v.n) default (fun r h=>by
  obtain⟨_,_,rfl,⟨z1,rfl,h1⟩,_,_,rfl,⟨z2,rfl,h2⟩,_,_,rfl,⟨_,_,rfl,⟨z3,rfl,h3⟩,_,_,rfl,⟨s,rfl,hs⟩,rfl⟩,rfl⟩:=h
  exact⟨⟨z1,z2,⟨z3,s⟩⟩,rfl,B7 h3⟩) h hr
theorem OQ[Syms]{ι:Inj}{x:AVal}{v:Value}(h:(Shp.int .i64).ok [x])(hr:RelV ι x v):∃z:Int,RelV ι (.int .i64 z) v∧I64 z:=by
 obtain⟨z,h1,hz⟩:=h
 cases h1
 exact⟨z,hr,B7 hz⟩
end Go.Proofs.YtekipcaifckffaaGreat
