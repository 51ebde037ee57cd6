/-
  The document's 'Leaves':by climbing from each leaf. Conditions of raw numbers. The statements' (chapter 21). Is a record as asked? The program's (query.Holds). Conditions of a made shape may be asked. Plain.
-/
import Derived.Test.YtekipcaifckffaaGreatL12
import Derived.Test.YtekipcaifckffaaGreatL11
import Derived.Test.YtekipcaifckffaaGreatL8
set_option linter.unusedVariables false
set_option linter.unusedSimpArgs false
namespace Go.Proofs.YtekipcaifckffaaGreat
open Go Go.Av
section
set_option maxRecDepth 100000
set_option maxHeartbeats 4000000
def rlE(fs:List Fd)(ps:List Int)(i:Nat)(o:AVal):Env:=[(0,vF fs),(3,vI ps),(4,o),(5,.int .i64 i)]
def rlA(fs:List Fd)(ps:List Int)(i:Nat):St:=⟨rlE fs ps i .nils,[],0⟩
def rlB(fs:List Fd)(ps:List Int)(i:Nat):St:=⟨rlE fs ps i (.slice 0 0 (QL fs ps i).length 4 none),[(0,some (.cells ((QL fs ps i).map QT) false))],1⟩
def clA(fs:List Fd)(ps:List Int)(i:Nat)(x:Lf)(k:Int):St:=⟨rlE fs ps i .nils++[(6,.ptr 0 0 0),(7,.int .i64 k)],[(0,some (.cells [QT x] false))],1⟩
def clB(fs:List Fd)(ps:List Int)(i:Nat)(x:Lf)(k:Int):St:=⟨rlE fs ps i (.slice 0 0 (QL fs ps i).length 4 none)++[(6,.ptr 1 0 0),(7,.int .i64 k)],[(0,some (.cells ((QL fs ps i).map QT) false)),(1,some (.cells [QT x] false))],2⟩
theorem Lb{a b:Lf}(h1:a.field=b.field)(h2:a.r=b.r)(h3:a.d=b.d)(h4:a.kind=b.kind):a=b:=by cases a;cases b;simp_all
theorem Ho[Syms](fs:List Fd)(hF:FsOk fs):
 fnT Qi LS (QK fns) (QH tys) (QW plt) 100 18 [vF fs] [] 0 (fun v H _=>v=vL (Q3 fs)∧H=[]):=by
 have hl:=hF.len
 refine⟨fs,rfl,hF,?_⟩
 have hpl:=Y0 fs
 have ha:=Uo fs
 unfold Q3
 generalize Q0 fs=ps at *
 refine⟨fun m s=>∃i:Nat,(i≤fs.length∧m=fs.length-i)∧((QL fs ps i=[]∧s=rlA fs ps i)∨s=rlB fs ps i),⟨_,rlA fs ps 0,Q5 [0,3,4,5] rfl,0,⟨by omega,rfl⟩,.inl ⟨rfl,rfl⟩⟩,?_⟩
 rintro m s ⟨i,⟨hi,rfl⟩,(⟨h0,rfl⟩|rfl)⟩
 ·have hol:=Zb fs ps i
  by_cases hin:i<fs.length
  ·by_cases hk:(fs.getD i default).kind=0
   · repeat' first|refine And.intro ?_ ?_|(intro h;try first|exact dz|replace h:=cv)
     all_goals try exact cz
     exact⟨_,rlA fs ps (i+1),Q5 [0,3,4,5] rfl,⟨i+1,⟨by omega,rfl⟩,.inl ⟨by rw[Q9,if_neg (fun h=>h hk)];exact h0,rfl⟩⟩,by omega⟩
   · repeat' first|refine And.intro ?_ ?_|(intro h;try first|exact dz|replace h:=cv)
     all_goals try exact cz
     have hq:=WS (fs:=fs) ha fs.length (Nat.le_refl _) i hin
     have hL:mkL fs ps (Qg fs ps i) i=(Qg fs ps fs.length).getD i default:=(YB fs ps hin).symm
     have hR:upR fs ps fs.length i=(mkL fs ps (Qg fs ps i) i).r:=by rw[upR,if_pos (by omega),hL];rfl
     have hD:upD fs ps fs.length i=(mkL fs ps (Qg fs ps i) i).d:=by rw[upD,if_pos (by omega),hL];rfl
     rw[←hL]at hq
     have hf0:(mkL fs ps (Qg fs ps i) i).field=i:=rfl
     have hf3:(mkL fs ps (Qg fs ps i) i).kind=(fs.getD i default).kind:=rfl
     have hl1:(QL fs ps (i+1)).length=(QL fs ps i).length+1:=by rw[Q9,if_pos hk,List.length_append];rfl
     have hl2:QL fs ps (i+1)=QL fs ps i++[mkL fs ps (Qg fs ps i) i]:=by rw[Q9,if_pos hk]
     generalize mkL fs ps (Qg fs ps i) i=L at *
     refine⟨fun m s=>∃(k r d:Int),(m=(k+1).toNat∧ -1≤k∧k≤i∧r+upR fs ps fs.length k=L.r∧d+upD fs ps fs.length k=L.d∧0≤r∧r≤i-k∧0≤d∧d≤i-k)∧s=clA fs ps i ⟨i,r,d,(fs.getD i default).kind⟩ k,⟨_,clA fs ps i ⟨i,0,0,(fs.getD i default).kind⟩ i,Q1 [0] rfl ?_ ?_,i,0,0,⟨rfl,by omega,by omega,by omega,by omega,by omega,by omega,by omega,by omega⟩,rfl⟩,?_⟩
     ·exact⟨.refl _,.refl _,.refl _,.refl _,.refl _,.refl _,trivial⟩
     ·exact⟨⟨by decide,_,rfl,Q4 rfl (fL [_])⟩,trivial⟩
     rintro m s ⟨k,r,d,⟨rfl,hk1,hk2,hr1,hd1,hr0,hr2,hd0,hd2⟩,rfl⟩
     by_cases hk0:0≤k
     ·obtain⟨k,rfl⟩:=Int.eq_ofNat_of_zero_le hk0
      have hs1:=DR (fs:=fs) ha (k:=k) (by omega)
      have hs2:=DS (fs:=fs) ha (k:=k) (by omega)
      have hq2:=ha k (by omega)
      rw[hs1]at hr1
      rw[hs2]at hd1
      repeat' first|refine And.intro ?_ ?_|(intro h;try first|exact dz|replace h:=cv)
      all_goals try exact cz
      all_goals(try first|(show(-9223372036854775808:Int)≤r+1;omega)|(show r+1≤(9223372036854775807:Int);omega)|(show(-9223372036854775808:Int)≤d+1;omega)|(show d+1≤(9223372036854775807:Int);omega))
      ·rw[if_pos (by assumption)]at hr1
       rw[if_pos (by assumption)]at hd1
       refine⟨_,clA fs ps i ⟨i,r+1,d+1,(fs.getD i default).kind⟩ (ps.getD k 0),Q1 [0] rfl ?_ ?_,⟨_,_,_,⟨rfl,by omega,by omega,by omega,by omega,by omega,by omega,by omega,by omega⟩,rfl⟩,by omega⟩
       ·exact⟨.refl _,.refl _,.refl _,.refl _,.refl _,.refl _,trivial⟩
       ·exact⟨⟨by decide,_,rfl,Q4 rfl (fL [_])⟩,trivial⟩
      ·rw[if_neg (by assumption)]at hr1
       rw[if_pos (by assumption)]at hd1
       refine⟨_,clA fs ps i ⟨i,r,d+1,(fs.getD i default).kind⟩ (ps.getD k 0),Q1 [0] rfl ?_ ?_,⟨_,_,_,⟨rfl,by omega,by omega,by omega,by omega,by omega,by omega,by omega,by omega⟩,rfl⟩,by omega⟩
       ·exact⟨.refl _,.refl _,.refl _,.refl _,.refl _,.refl _,trivial⟩
       ·exact⟨⟨by decide,_,rfl,Q4 rfl (fL [_])⟩,trivial⟩
      ·rw[if_neg (by assumption)]at hr1
       rw[if_neg (fun hh=>hh (by assumption))]at hd1
       refine⟨_,clA fs ps i ⟨i,r,d,(fs.getD i default).kind⟩ (ps.getD k 0),Q1 [0] rfl ?_ ?_,⟨_,_,_,⟨rfl,by omega,by omega,by omega,by omega,by omega,by omega,by omega,by omega⟩,rfl⟩,by omega⟩
       ·exact⟨.refl _,.refl _,.refl _,.refl _,.refl _,.refl _,trivial⟩
       ·exact⟨⟨by decide,_,rfl,Q4 rfl (fL [_])⟩,trivial⟩
     ·have hu1:upR fs ps fs.length k=0:=by rw[upR,if_neg hk0]
      have hu2:upD fs ps fs.length k=0:=by rw[upD,if_neg hk0]
      have hxL:(⟨i,r,d,(fs.getD i default).kind⟩:Lf)=L:=Lb hf0.symm (by show r=L.r;omega) (by show d=L.d;omega) hf3.symm
      repeat' first|refine And.intro ?_ ?_|(intro h;try first|exact dz|replace h:=cv)
      all_goals try exact cz
      refine⟨_,rlB fs ps (i+1),Q1 [2] rfl ?_ ?_,⟨i+1,⟨by omega,rfl⟩,.inr rfl⟩,by omega⟩
      ·exact⟨.refl _,.refl _,Q7 (by rw[hl1];rw[h0];rfl),.refl _,trivial⟩
      ·refine⟨⟨by decide,_,rfl,Q4 ?_ (fL _)⟩,trivial⟩
       rw[hl2,h0,←hxL];rfl
  · repeat' first|refine And.intro ?_ ?_|(intro h;try first|exact dz|replace h:=cv)
    all_goals try exact cz
    obtain rfl:i=fs.length:=by omega
    exact⟨_,Ws (k:=2) 4 QT default rfl,_,rfl,by rw[h0];rfl,rfl⟩
 ·have hol:=Zb fs ps i
  by_cases hin:i<fs.length
  ·by_cases hk:(fs.getD i default).kind=0
   · repeat' first|refine And.intro ?_ ?_|(intro h;try first|exact dz|replace h:=cv)
     all_goals try exact cz
     refine⟨_,rlB fs ps (i+1),Q1 [0] rfl ?_ ?_,⟨i+1,⟨by omega,rfl⟩,.inr rfl⟩,by omega⟩
     ·exact⟨.refl _,.refl _,Q7 (by rw[Q9,if_neg (fun h=>h hk)]),.refl _,trivial⟩
     ·exact⟨⟨by decide,_,rfl,Q4 (by rw[Q9,if_neg (fun h=>h hk)]) (fL _)⟩,trivial⟩
   · repeat' first|refine And.intro ?_ ?_|(intro h;try first|exact dz|replace h:=cv)
     all_goals try exact cz
     have hq:=WS (fs:=fs) ha fs.length (Nat.le_refl _) i hin
     have hL:mkL fs ps (Qg fs ps i) i=(Qg fs ps fs.length).getD i default:=(YB fs ps hin).symm
     have hR:upR fs ps fs.length i=(mkL fs ps (Qg fs ps i) i).r:=by rw[upR,if_pos (by omega),hL];rfl
     have hD:upD fs ps fs.length i=(mkL fs ps (Qg fs ps i) i).d:=by rw[upD,if_pos (by omega),hL];rfl
     rw[←hL]at hq
     have hf0:(mkL fs ps (Qg fs ps i) i).field=i:=rfl
     have hf3:(mkL fs ps (Qg fs ps i) i).kind=(fs.getD i default).kind:=rfl
     have hl1:(QL fs ps (i+1)).length=(QL fs ps i).length+1:=by rw[Q9,if_pos hk,List.length_append];rfl
     have hl2:QL fs ps (i+1)=QL fs ps i++[mkL fs ps (Qg fs ps i) i]:=by rw[Q9,if_pos hk]
     generalize mkL fs ps (Qg fs ps i) i=L at *
     refine⟨fun m s=>∃(k r d:Int),(m=(k+1).toNat∧ -1≤k∧k≤i∧r+upR fs ps fs.length k=L.r∧d+upD fs ps fs.length k=L.d∧0≤r∧r≤i-k∧0≤d∧d≤i-k)∧s=clB fs ps i ⟨i,r,d,(fs.getD i default).kind⟩ k,⟨_,clB fs ps i ⟨i,0,0,(fs.getD i default).kind⟩ i,Q1 [0,1] rfl ?_ ?_,i,0,0,⟨rfl,by omega,by omega,by omega,by omega,by omega,by omega,by omega,by omega⟩,rfl⟩,?_⟩
     ·exact⟨.refl _,.refl _,.refl _,.refl _,.refl _,.refl _,trivial⟩
     ·exact⟨⟨by decide,_,rfl,Qp (fL _)⟩,⟨by decide,_,rfl,Q4 rfl (fL [_])⟩,trivial⟩
     rintro m s ⟨k,r,d,⟨rfl,hk1,hk2,hr1,hd1,hr0,hr2,hd0,hd2⟩,rfl⟩
     by_cases hk0:0≤k
     ·obtain⟨k,rfl⟩:=Int.eq_ofNat_of_zero_le hk0
      have hs1:=DR (fs:=fs) ha (k:=k) (by omega)
      have hs2:=DS (fs:=fs) ha (k:=k) (by omega)
      have hq2:=ha k (by omega)
      rw[hs1]at hr1
      rw[hs2]at hd1
      repeat' first|refine And.intro ?_ ?_|(intro h;try first|exact dz|replace h:=cv)
      all_goals try exact cz
      all_goals(try first|(show(-9223372036854775808:Int)≤r+1;omega)|(show r+1≤(9223372036854775807:Int);omega)|(show(-9223372036854775808:Int)≤d+1;omega)|(show d+1≤(9223372036854775807:Int);omega))
      ·rw[if_pos (by assumption)]at hr1
       rw[if_pos (by assumption)]at hd1
       refine⟨_,clB fs ps i ⟨i,r+1,d+1,(fs.getD i default).kind⟩ (ps.getD k 0),Q1 [0,1] rfl ?_ ?_,⟨_,_,_,⟨rfl,by omega,by omega,by omega,by omega,by omega,by omega,by omega,by omega⟩,rfl⟩,by omega⟩
       ·exact⟨.refl _,.refl _,.refl _,.refl _,.refl _,.refl _,trivial⟩
       ·exact⟨⟨by decide,_,rfl,Qp (fL _)⟩,⟨by decide,_,rfl,Q4 rfl (fL [_])⟩,trivial⟩
      ·rw[if_neg (by assumption)]at hr1
       rw[if_pos (by assumption)]at hd1
       refine⟨_,clB fs ps i ⟨i,r,d+1,(fs.getD i default).kind⟩ (ps.getD k 0),Q1 [0,1] rfl ?_ ?_,⟨_,_,_,⟨rfl,by omega,by omega,by omega,by omega,by omega,by omega,by omega,by omega⟩,rfl⟩,by omega⟩
       ·exact⟨.refl _,.refl _,.refl _,.refl _,.refl _,.refl _,trivial⟩
       ·exact⟨⟨by decide,_,rfl,Qp (fL _)⟩,⟨by decide,_,rfl,Q4 rfl (fL [_])⟩,trivial⟩
      ·rw[if_neg (by assumption)]at hr1
       rw[if_neg (fun hh=>hh (by assumption))]at hd1
       refine⟨_,clB fs ps i ⟨i,r,d,(fs.getD i default).kind⟩ (ps.getD k 0),Q1 [0,1] rfl ?_ ?_,⟨_,_,_,⟨rfl,by omega,by omega,by omega,by omega,by omega,by omega,by omega,by omega⟩,rfl⟩,by omega⟩
       ·exact⟨.refl _,.refl _,.refl _,.refl _,.refl _,.refl _,trivial⟩
       ·exact⟨⟨by decide,_,rfl,Qp (fL _)⟩,⟨by decide,_,rfl,Q4 rfl (fL [_])⟩,trivial⟩
     ·have hu1:upR fs ps fs.length k=0:=by rw[upR,if_neg hk0]
      have hu2:upD fs ps fs.length k=0:=by rw[upD,if_neg hk0]
      have hxL:(⟨i,r,d,(fs.getD i default).kind⟩:Lf)=L:=Lb hf0.symm (by show r=L.r;omega) (by show d=L.d;omega) hf3.symm
      repeat' first|refine And.intro ?_ ?_|(intro h;try first|exact dz|replace h:=cv)
      all_goals try exact cz
      refine⟨_,rlB fs ps (i+1),Q1 [3] rfl ?_ ?_,⟨i+1,⟨by omega,rfl⟩,.inr rfl⟩,by omega⟩
      ·exact⟨.refl _,.refl _,Q7 (by rw[hl1]),.refl _,trivial⟩
      ·refine⟨⟨by decide,_,rfl,Q4 ?_ (fL _)⟩,trivial⟩
       rw[hl2,List.map_append,←hxL];show List.take _ (List.drop 0 ((QL fs ps i).map QT))++[_]=_;rw[List.drop_zero,List.take_of_length_le (by rw[List.length_map];exact Nat.le_refl _)];rfl
  · repeat' first|refine And.intro ?_ ?_|(intro h;try first|exact dz|replace h:=cv)
    all_goals try exact cz
    obtain rfl:i=fs.length:=by omega
    exact⟨_,XJ (enc:=QT) (k:=2) default (l:=QL fs ps fs.length) rfl rfl (fL _) (List.take_of_length_le (by simp)) (by simp),_,rfl,rfl,rfl⟩
theorem UD[Syms]:Z5 Tryz.prog 18 S_leaves:=by
 rintro args K ⟨fs,rfl,h,hk⟩
 exact⟨rfl,_,rfl,hk,fnI Qu Qs Qd BQ QJ (Ho fs h)⟩
end
section
set_option maxRecDepth 100000
set_option maxHeartbeats 4000000
structure Rc where
 leaf:Int
 op:Int
 v:Vl
 deriving Inhabited
def Sf(x:Rc):List AVal:=[.int .i64 x.leaf,.int .i64 x.op]++ZT x.v
abbrev vRc(l:List Rc):AVal:=vT 4 Sf default l
def cdL(fs:List Fd)(x:Rc):Lf:=(Q3 fs).getD (wi x.leaf (Q3 fs).length).toNat default
def Uv(fs:List Fd)(any:Bool)(x:Rc):Cd:=⟨QS fs (Q0 fs) (cdL fs x).field,if any then x.op else wi x.op 6,if any then x.v else XG (cdL fs x).kind x.v⟩
def Y8(fs:List Fd)(any:Bool):List Rc→List Cd
 |[]=>[]
 |x::t=>if(cdL fs x).r=0∨any=true then Uv fs any x::Y8 fs any t else Y8 fs any t
def Xe(fs:List Fd)(any:Bool)(l:List Rc):List Cd:=Y8 fs any (l.take 5)
theorem WV(fs:List Fd)(any:Bool):∀l:List Rc,(Y8 fs any l).length≤l.length
 |[]=>Nat.le_refl _
 |x::t=>by
  rw[Y8]
  split
  ·simp only[List.length_cons];have:=WV fs any t;omega
  ·simp only[List.length_cons];have:=WV fs any t;omega
theorem fC(l:List Cd):Ql (l.map encC):=Xo (fun a x hx=>by simp[encC,ZT]at hx;rcases hx with rfl|rfl|rfl|rfl<;>rfl) l
theorem gC(l:List Cd)(x:Cd):List.take l.length (List.drop 0 (l.map encC))++[encC x]=(l++[x]).map encC:=by
 rw[List.drop_zero,List.take_of_length_le (by simp),List.map_append];rfl
abbrev I3:CallT:=Qm 19 (Zd S_path) (Qm 11 (C9 G_wi) (Qm 20 (Zd S_good) Qi))
theorem Mh[Syms]:I3.det Tryz.prog:=Zk Gx (J1 Ee (Zk EQ Qd))
theorem Oq[Syms]:I3.ok Tryz.prog:=Q6 Gx (YT Ee (Q6 EQ Qh))
abbrev cCo:CallT:=Qm 18 (Zd S_leaves) I3
theorem CZ[Syms]:cCo.ok Tryz.prog:=Q6 UD Oq
noncomputable def RW:Nat→Nat→Pl:=Xx [(8,6)] (QW plt)
def coS(fs:List Fd)(l:List Rc)(any:Bool)(i:Nat)(out:List Cd):St:=⟨[(0,vF fs),(1,vRc l),(2,.bool any),(7,vL (Q3 fs)),(8,XU 0 4 out),(9,.int .i64 i)],[(0,Xy encC out)],1⟩
def coT(fs:List Fd)(l:List Rc)(any:Bool)(i:Nat)(out:List Cd)(lf:Lf):St:=⟨[(0,vF fs),(1,vRc l),(2,.bool any),(7,vL (Q3 fs)),(8,XU 0 4 out),(9,.int .i64 i),(10,.ptr 2 0 0)],[(0,Xy encC out),(2,some (.cells [QT lf] false))],3⟩
theorem O1[Syms](fs:List Fd)(l:List Rc)(hF:FsOk fs)(h0:0<(Q3 fs).length)(hll:l.length≤9223372036854775807):
 fnT I3 cCo (QK fns) (QH tys) RW 100 8 [vF fs,vRc l,.bool false] [] 0 (fun v H _=>v=vC (Xe fs false l)∧H=[]):=by
 have hfl:=hF.len
 have hle:(Q3 fs).length≤fs.length:=Zb _ _ _
 repeat' first|refine And.intro ?_ ?_|(intro h;try first|exact dz|replace h:=cv)
 all_goals try exact cz
 refine⟨fs,rfl,hF,?_⟩
 repeat' first|refine And.intro ?_ ?_|(intro h;try first|exact dz|replace h:=cv)
 all_goals try exact cz
 refine⟨fun m s=>∃(i:Nat) (out:List Cd),(i≤(l.take 5).length∧m=(l.take 5).length-i∧out++Y8 fs false ((l.take 5).drop i)=Xe fs false l∧out.length≤i)∧s=coS fs l false i out,⟨_,coS fs l false 0 [],(ZB (nx':=1) (by omega)).trans (Q1 [0] (by exact rfl) ⟨.refl _,.refl _,.refl _,.refl _,.refl _,.refl _,trivial⟩ trivial),0,[],⟨by omega,rfl,rfl,Nat.le_refl _⟩,rfl⟩,?_⟩
 rintro m s ⟨i,out,⟨hi,rfl,hv,ho⟩,rfl⟩
 have h5:(l.take 5).length≤5:=by rw[List.length_take];omega
 unfold coS
 by_cases h1:i<(l.take 5).length
 ·have hd:(l.take 5).drop i=l.getD i default::(l.take 5).drop (i+1):=by
   rw[List.drop_eq_getElem_cons h1,List.getElem_take,List.getD_eq_getElem?_getD,List.getElem?_eq_getElem (by rw[List.length_take]at h1;omega)];rfl
  have hil:i<l.length∧i<5:=by rw[List.length_take]at h1;omega
  rw[hd,Y8]at hv
  obtain⟨w1,w2⟩:=Zr (a:=(l.getD i default).leaf) (n:=(Q3 fs).length) (by omega)
  cases out with
  |nil=>
   repeat' first|refine And.intro ?_ ?_|(intro h;try first|exact dz|replace h:=cv)
   all_goals try exact cz
   refine⟨(l.getD i default).leaf,(Q3 fs).length,rfl,⟨by omega,by omega⟩,?_⟩
   repeat' first|refine And.intro ?_ ?_|(intro h;try first|exact dz|replace h:=cv)
   all_goals try exact cz
   refine⟨coT fs l false i [] (cdL fs (l.getD i default)),?_,?_⟩
   ·unfold coT
    exact(ZB (nx':=5) (by omega)).trans (Q1 [0,3,1] (by exact rfl) ⟨.refl _,.refl _,.refl _,.refl _,.refl _,.refl _,.refl _,trivial⟩ ⟨⟨by decide,_,rfl,.refl _⟩,trivial⟩)
   unfold coT
   have hcd:Uv fs false (l.getD i default)=⟨QS fs (Q0 fs) (cdL fs (l.getD i default)).field,wi (l.getD i default).op 6,XG (cdL fs (l.getD i default)).kind (l.getD i default).v⟩:=rfl
   rw[hcd]at hv
   generalize cdL fs (l.getD i default)=lf at *
   by_cases hr:lf.r=0
   ·rw[if_pos (.inl hr)]at hv
    repeat' first|refine And.intro ?_ ?_|(intro h;try first|exact dz|replace h:=cv)
    all_goals try exact cz
    refine⟨fs,lf.field,rfl,hF,?_⟩
    repeat' first|refine And.intro ?_ ?_|(intro h;try first|exact dz|replace h:=cv)
    all_goals try exact cz
    refine⟨(l.getD i default).op,6,rfl,by decide,?_⟩
    repeat' first|refine And.intro ?_ ?_|(intro h;try first|exact dz|replace h:=cv)
    all_goals try exact cz
    refine⟨lf.kind,(l.getD i default).v,rfl,?_⟩
    repeat' first|refine And.intro ?_ ?_|(intro h;try first|exact dz|replace h:=cv)
    all_goals try exact cz
    refine⟨_,coS fs l false (i+1) ([]++[⟨QS fs (Q0 fs) lf.field,wi (l.getD i default).op 6,XG lf.kind (l.getD i default).v⟩]),?_,⟨i+1,_,⟨by omega,rfl,(by rw[List.append_assoc];exact hv),(by rw[List.length_append,List.length_singleton];omega)⟩,rfl⟩,by omega⟩
    unfold coS
    exact Q1 [85899345925] (by exact rfl) ⟨.refl _,.refl _,.refl _,.refl _,.cap _ _ _ _ _,Q8 (by first|rfl|omega),trivial⟩ ⟨⟨by decide,_,rfl,Q4 (by exact rfl) (fC _)⟩,trivial⟩
   ·rw[if_neg (fun h=>h.elim hr Bool.noConfusion)]at hv
    repeat' first|refine And.intro ?_ ?_|(intro h;try first|exact dz|replace h:=cv)
    all_goals try exact cz
    refine⟨fs,lf.field,rfl,hF,?_⟩
    repeat' first|refine And.intro ?_ ?_|(intro h;try first|exact dz|replace h:=cv)
    all_goals try exact cz
    refine⟨(l.getD i default).op,6,rfl,by decide,?_⟩
    repeat' first|refine And.intro ?_ ?_|(intro h;try first|exact dz|replace h:=cv)
    all_goals try exact cz
    refine⟨lf.kind,(l.getD i default).v,rfl,?_⟩
    repeat' first|refine And.intro ?_ ?_|(intro h;try first|exact dz|replace h:=cv)
    all_goals try exact cz
    refine⟨_,coS fs l false (i+1) [],?_,⟨i+1,_,⟨by omega,rfl,hv,by omega⟩,rfl⟩,by omega⟩
    unfold coS
    exact Q1 [0] (by exact rfl) ⟨.refl _,.refl _,.refl _,.refl _,.refl _,Q8 (by first|rfl|omega),trivial⟩ trivial
  |cons o0 ot=>
   have hol:(o0::ot).length≤1000:=by omega
   repeat' first|refine And.intro ?_ ?_|(intro h;try first|exact dz|replace h:=cv)
   all_goals try exact cz
   refine⟨(l.getD i default).leaf,(Q3 fs).length,rfl,⟨by omega,by omega⟩,?_⟩
   repeat' first|refine And.intro ?_ ?_|(intro h;try first|exact dz|replace h:=cv)
   all_goals try exact cz
   refine⟨coT fs l false i (o0::ot) (cdL fs (l.getD i default)),?_,?_⟩
   ·unfold coT
    exact(ZB (nx':=5) (by omega)).trans (Q1 [0,3,1] (by exact rfl) ⟨.refl _,.refl _,.refl _,.refl _,.refl _,.refl _,.refl _,trivial⟩ ⟨⟨by decide,_,rfl,Qp (fC _)⟩,⟨by decide,_,rfl,.refl _⟩,trivial⟩)
   unfold coT
   have hcd:Uv fs false (l.getD i default)=⟨QS fs (Q0 fs) (cdL fs (l.getD i default)).field,wi (l.getD i default).op 6,XG (cdL fs (l.getD i default)).kind (l.getD i default).v⟩:=rfl
   rw[hcd]at hv
   generalize cdL fs (l.getD i default)=lf at *
   by_cases hr:lf.r=0
   ·rw[if_pos (.inl hr)]at hv
    repeat' first|refine And.intro ?_ ?_|(intro h;try first|exact dz|replace h:=cv)
    all_goals try exact cz
    refine⟨fs,lf.field,rfl,hF,?_⟩
    repeat' first|refine And.intro ?_ ?_|(intro h;try first|exact dz|replace h:=cv)
    all_goals try exact cz
    refine⟨(l.getD i default).op,6,rfl,by decide,?_⟩
    repeat' first|refine And.intro ?_ ?_|(intro h;try first|exact dz|replace h:=cv)
    all_goals try exact cz
    refine⟨lf.kind,(l.getD i default).v,rfl,?_⟩
    repeat' first|refine And.intro ?_ ?_|(intro h;try first|exact dz|replace h:=cv)
    all_goals try exact cz
    refine⟨_,coS fs l false (i+1) ((o0::ot)++[⟨QS fs (Q0 fs) lf.field,wi (l.getD i default).op 6,XG lf.kind (l.getD i default).v⟩]),?_,⟨i+1,_,⟨by omega,rfl,(by rw[List.append_assoc];exact hv),(by rw[List.length_append,List.length_singleton];omega)⟩,rfl⟩,by omega⟩
    unfold coS
    exact Q1 [85899345925] (by exact rfl) ⟨.refl _,.refl _,.refl _,.refl _,Q7 (by simp),Q8 (by first|rfl|omega),trivial⟩ ⟨⟨by decide,_,rfl,Q4 (by exact gC (o0::ot) ⟨QS fs (Q0 fs) lf.field,wi (l.getD i default).op 6,XG lf.kind (l.getD i default).v⟩) (fC _)⟩,trivial⟩
   ·rw[if_neg (fun h=>h.elim hr Bool.noConfusion)]at hv
    repeat' first|refine And.intro ?_ ?_|(intro h;try first|exact dz|replace h:=cv)
    all_goals try exact cz
    refine⟨fs,lf.field,rfl,hF,?_⟩
    repeat' first|refine And.intro ?_ ?_|(intro h;try first|exact dz|replace h:=cv)
    all_goals try exact cz
    refine⟨(l.getD i default).op,6,rfl,by decide,?_⟩
    repeat' first|refine And.intro ?_ ?_|(intro h;try first|exact dz|replace h:=cv)
    all_goals try exact cz
    refine⟨lf.kind,(l.getD i default).v,rfl,?_⟩
    repeat' first|refine And.intro ?_ ?_|(intro h;try first|exact dz|replace h:=cv)
    all_goals try exact cz
    refine⟨_,coS fs l false (i+1) (o0::ot),?_,⟨i+1,_,⟨by omega,rfl,hv,by omega⟩,rfl⟩,by omega⟩
    unfold coS
    exact Q1 [0] (by exact rfl) ⟨.refl _,.refl _,.refl _,.refl _,.refl _,Q8 (by first|rfl|omega),trivial⟩ ⟨⟨by decide,_,rfl,Qp (fC _)⟩,trivial⟩
 ·have hx:¬(i<l.length∧i<5):=by rw[List.length_take]at h1;omega
  have hie:i=(l.take 5).length:=by omega
  rw[hie,List.drop_length,Y8,List.append_nil]at hv
  rw[←hv]
  clear hv hie
  cases out with
  |nil=>
   repeat' first|refine And.intro ?_ ?_|(intro h;try first|exact dz|replace h:=cv)
   all_goals try exact cz
   all_goals(first|(exfalso;omega)|exact⟨_,Ws 4 encC default (k:=6) rfl,_,rfl,rfl,rfl⟩)
  |cons o0 ot=>
   repeat' first|refine And.intro ?_ ?_|(intro h;try first|exact dz|replace h:=cv)
   all_goals try exact cz
   all_goals(first|(exfalso;omega)|exact⟨_,XJ default (k:=6) (n:=0) (sz:=4) (enc:=encC) (l:=o0::ot) (len:=(o0::ot).length) rfl rfl (fC _) (List.take_of_length_le (by simp)) (by simp),_,rfl,rfl,rfl⟩)
def S_conds:SpecI:=fun args K=>∃(fs:List Fd) (l:List Rc),args=[vF fs,vRc l,.bool false]∧(FsOk fs∧0<(Q3 fs).length∧l.length≤9223372036854775807)∧K (vC (Xe fs false l))
theorem LF[Syms]:Z5 Tryz.prog 8 S_conds:=by
 rintro args K ⟨fs,l,rfl,⟨h1,h2,h3⟩,hk⟩
 exact⟨rfl,_,rfl,hk,fnI Qu Qs Mh CZ QJ (O1 fs l h1 h2 h3)⟩
end
section
set_option maxRecDepth 100000
set_option maxHeartbeats 4000000
def opB(op k:Int):Bool:=if op=0 then decide (k<0)else if op=1 then decide (k≤0)else if op=2 then decide (k=0)else if op=3 then decide (0≤k)else decide (0<k)
def Ko(x:Ask)(t:Tr):Bool:=
 if(Vu x t).2=false∨x.op=5 then(if(Vu x t).2=false then decide (x.op=5)else false)else opB x.op (Mf x.leaf.kind (Vu x t).1 x.v)
structure AskOk(x:Ask):Prop where
 len:x.way.length≤1000
 ge:∀k,0≤x.way.getD k 0
abbrev cHo:CallT:=Qm 89 (Gp He) (Qm 90 (Zd S_cmp) Qi)
theorem Rb[Syms]:cHo.ok Tryz.prog:=Ye Il (Q6 PR Qh)
noncomputable def SP:Nat→Nat→Pl:=Xx [(51,0),(51,1)] (QW plt)
abbrev RS(x:Ask):List AVal:=[.int .i64 x.at',.int .i64 x.leaf.field,.int .i64 x.leaf.r,.int .i64 x.leaf.d,.int .i64 x.leaf.kind,.vs 1 (x.way.map encI),.str x.path,.int .i64 x.op,.int .i64 x.v.n,.str x.v.s]
theorem Px[Syms](x:Ask)(t:Tr)(hx:AskOk x):
 fnT Qi cHo (QK fns) (QH tys) SP 100 51 [.agg (encA x),.agg (encT t)] [] 0 (fun v H _=>v= .bool (Ko x t)∧H=[]):=by
 have e0:encT t=[.int .i64 t.num,.str t.txt,.vs 1 (t.kids.map fun x=>[.vs 3 (x.map encT)])]:=by cases t;exact QO _ _ _
 rw[e0]
 refine⟨⟨[(2,.ptr 0 0 0),(3,.ptr 2 0 0),(4,.bool false)],[(0,some (.cells [RS x] false)),(2,some (.cells [[.int .i64 t.num,.str t.txt,.vs 1 (t.kids.map fun x=>[.vs 3 (x.map encT)])]] false))],3⟩,?_,?_⟩
 ·exact(ZB (nx':=5) (by omega)).trans (Q1 [0,3,1] (by exact rfl) ⟨.refl _,.refl _,.refl _,trivial⟩ ⟨⟨by decide,_,rfl,.refl _⟩,⟨by decide,_,rfl,.refl _⟩,trivial⟩)
 repeat' first|refine And.intro ?_ ?_|(intro h;try first|exact dz|replace h:=cv)
 all_goals try exact cz
 refine⟨[],[.agg (encA x),.agg (encT t)],[],rfl,⟨?_,?_,trivial⟩,trivial,x,t,rfl,rfl,rfl,⟨hx.len,hx.ge⟩,?_⟩
 ·exact .refl _
 ·rw[e0];exact .refl _
 clear e0
 repeat' first|refine And.intro ?_ ?_|(intro h;try first|exact dz|replace h:=cv)
 all_goals try exact cz
 refine⟨⟨[(2,.ptr 0 0 0),(4,.bool false),(5,.ptr 2 0 0),(6,.bool (Vu x t).2)],[(0,some (.cells [RS x] false)),(2,some (.cells [[.int .i64 (Vu x t).1.n,.str (Vu x t).1.s]] false))],3⟩,Q1 [0,3,4] (by exact rfl) ⟨.refl _,.refl _,.refl _,.refl _,trivial⟩ ⟨⟨by decide,_,rfl,.refl _⟩,⟨by decide,_,rfl,.refl _⟩,trivial⟩,?_⟩
 have hH:Ko x t=Ko x t:=rfl
 conv at hH=>rhs;unfold Ko
 generalize Vu x t=q at *
 obtain⟨v,is⟩:=q
 cases is with
 |false=>
  rw[if_pos (.inl rfl),if_pos rfl]at hH
  rw[hH]
  repeat' first|refine And.intro ?_ ?_|(intro h;try first|exact dz|replace h:=cv)
  all_goals try exact cz
  exact⟨_,Q5 [4] rfl,_,rfl,rfl,rfl⟩
 |true=>
  by_cases h5:x.op=5
  ·rw[if_pos (.inr h5),if_neg (by simp)]at hH
   rw[hH]
   repeat' first|refine And.intro ?_ ?_|(intro h;try first|exact dz|replace h:=cv)
   all_goals try exact cz
   exact⟨_,Q5 [4] rfl,_,rfl,rfl,rfl⟩
  ·rw[if_neg (by simp[h5])]at hH
   rw[hH]
   repeat' first|refine And.intro ?_ ?_|(intro h;try first|exact dz|replace h:=cv)
   all_goals try exact cz
   refine⟨x.leaf.kind,v,x.v,rfl,?_⟩
   unfold opB
   generalize Mf x.leaf.kind v x.v=k
   repeat' first|refine And.intro ?_ ?_|(intro h;try first|exact dz|replace h:=cv)
   all_goals try exact cz
   ·exact⟨_,Q5 [4] rfl,_,rfl,congrArg AVal.bool (by rw[if_pos ‹x.op=0›]),rfl⟩
   ·exact⟨_,Q5 [4] rfl,_,rfl,congrArg AVal.bool (by rw[if_neg ‹¬x.op=0›,if_pos ‹x.op=1›]),rfl⟩
   ·exact⟨_,Q5 [4] rfl,_,rfl,congrArg AVal.bool (by rw[if_neg ‹¬x.op=0›,if_neg ‹¬x.op=1›,if_pos ‹x.op=2›]),rfl⟩
   ·exact⟨_,Q5 [4] rfl,_,rfl,congrArg AVal.bool (by rw[if_neg ‹¬x.op=0›,if_neg ‹¬x.op=1›,if_neg ‹¬x.op=2›,if_pos ‹x.op=3›]),rfl⟩
   ·exact⟨_,Q5 [4] rfl,_,rfl,congrArg AVal.bool (by rw[if_neg ‹¬x.op=0›,if_neg ‹¬x.op=1›,if_neg ‹¬x.op=2›,if_neg ‹¬x.op=3›]),rfl⟩
theorem ON(v:AVal)(t:Tr)(h:v.imm=true):Wb [v,.agg (encT t)]=true:=by
 obtain⟨ks,n,s⟩:=t
 rw[QO]
 show(v.imm&&_)=true
 rw[h];rfl
def S_hold:SpecI:=fun args K=>∃(x:Ask) (t:Tr),args=[.agg (encA x),.agg (encT t)]∧AskOk x∧K (.bool (Ko x t))
theorem NR[Syms]:Z5 Tryz.prog 51 S_hold:=by
 rintro args K ⟨x,t,rfl,h1,hk⟩
 exact⟨ON _ t rfl,_,rfl,hk,fnI Qu Qs Qd Rb QJ (Px x t h1)⟩
def Mo:List Ask→Tr→Bool
 |[],_=>true
 |x::l,t=>if Ko x t=true then Mo l t else false
abbrev vA(l:List Ask):AVal:=vT 10 encA default l
abbrev cAl:CallT:=Qm 51 (Zd S_hold) Qi
theorem Rk[Syms]:cAl.ok Tryz.prog:=Q6 NR Qh
noncomputable def ST:Nat→Nat→Pl:=Xx [(22,0)] (QW plt)
abbrev Qw(t:Tr):List AVal:=[.int .i64 t.num,.str t.txt,.vs 1 (t.kids.map fun x=>[.vs 3 (x.map encT)])]
def N5(l:List Ask)(t:Tr)(i:Nat):St:=⟨[(3,.ptr 0 0 0),(7,vA l),(8,.int .i64 l.length),(9,.int .i64 i)],[(0,some (.cells [Qw t] false))],1⟩
theorem Sr[Syms](l:List Ask)(t:Tr)(hx:∀i,AskOk (l.getD i default))(hl:l.length≤1000):
 fnT Qi cAl (QK fns) (QH tys) ST 100 22 [vA l,.agg (encT t)] [] 0 (fun v H _=>v= .bool (Mo l t)∧H=[]):=by
 have e0:encT t=Qw t:=by cases t;exact QO _ _ _
 rw[e0]
 refine⟨⟨[(0,vA l),(3,.ptr 0 0 0),(4,.bool false)],[(0,some (.cells [Qw t] false))],1⟩,Q1 [0] (by exact rfl) ⟨.refl _,.refl _,.refl _,trivial⟩ ⟨⟨by decide,_,rfl,.refl _⟩,trivial⟩,?_⟩
 repeat' first|refine And.intro ?_ ?_|(intro h;try first|exact dz|replace h:=cv)
 all_goals try exact cz
 refine⟨fun m s=>∃i:Nat,(i≤l.length∧m=l.length-i∧Mo (l.drop i) t=Mo l t)∧s=N5 l t i,⟨_,N5 l t 0,Q1 [0] (by exact rfl) ⟨.refl _,.refl _,.refl _,.refl _,trivial⟩ ⟨⟨by decide,_,rfl,.refl _⟩,trivial⟩,0,⟨by omega,rfl,rfl⟩,rfl⟩,?_⟩
 rintro m s ⟨i,⟨hi,rfl,hv⟩,rfl⟩
 unfold N5
 by_cases h1:i<l.length
 ·have hd:l.drop i=l.getD i default::l.drop (i+1):=by
   rw[List.drop_eq_getElem_cons h1,List.getD_eq_getElem?_getD,List.getElem?_eq_getElem h1];rfl
  rw[hd,Mo]at hv
  have hx0:=hx i
  by_cases hh:Ko (l.getD i default) t=true
  ·rw[if_pos hh]at hv
   repeat' first|refine And.intro ?_ ?_|(intro h;try first|exact dz|replace h:=cv)
   all_goals try exact cz
   refine⟨l.getD i default,t,?_,hx0,?_⟩
   ·rw[e0];rfl
   rw[hh]
   repeat' first|refine And.intro ?_ ?_|(intro h;try first|exact dz|replace h:=cv)
   all_goals try exact cz
   refine⟨_,N5 l t (i+1),?_,⟨i+1,⟨by omega,rfl,hv⟩,rfl⟩,by omega⟩
   unfold N5
   exact Q1 [0] (by exact rfl) ⟨.refl _,.refl _,.refl _,Q8 (by first|rfl|omega),trivial⟩ ⟨⟨by decide,_,rfl,.refl _⟩,trivial⟩
  ·rw[if_neg hh]at hv
   rw[←hv]
   repeat' first|refine And.intro ?_ ?_|(intro h;try first|exact dz|replace h:=cv)
   all_goals try exact cz
   refine⟨l.getD i default,t,?_,hx0,?_⟩
   ·rw[e0];rfl
   rw[Bool.eq_false_iff.2 hh]
   repeat' first|refine And.intro ?_ ?_|(intro h;try first|exact dz|replace h:=cv)
   all_goals try exact cz
   exact⟨_,Q5 [4] rfl,_,rfl,rfl,rfl⟩
 ·obtain rfl:i=l.length:=by omega
  rw[List.drop_length,Mo]at hv
  rw[←hv]
  repeat' first|refine And.intro ?_ ?_|(intro h;try first|exact dz|replace h:=cv)
  all_goals try exact cz
  exact⟨_,Q5 [4] rfl,_,rfl,rfl,rfl⟩
def S_all:SpecI:=fun args K=>∃(l:List Ask) (t:Tr),args=[vA l,.agg (encT t)]∧((∀i,AskOk (l.getD i default))∧l.length≤1000)∧K (.bool (Mo l t))
theorem Ru[Syms]:Z5 Tryz.prog 22 S_all:=by
 rintro args K ⟨l,t,rfl,⟨h1,h2⟩,hk⟩
 exact⟨ON _ t rfl,_,rfl,hk,fnI Qu Qs Qd Rk QJ (Sr l t h1 h2)⟩
def ZC(fs:List Fd)(t:Tr)(cs:List Cd):Bool:=if Z0 fs cs=0 then Mo (Y5 fs cs) t else false
theorem RQ(l:List Ask):SeeV (.vs 10 (l.map encA)) (vA l):=.tab _ _ _ _ (Qj encA default l).symm
theorem Hb(fs:List Fd)(c:Cd)(hl:(Zl c.path).length≤1000):AskOk (Uj fs c):=⟨by show(Vy fs c.path).length≤1000;unfold Vy;rw[DK];exact hl,fun k=>Ef fs _ _ k⟩
theorem Ow:AskOk default:=⟨Nat.zero_le _,fun k=>by show 0≤([]:List Int).getD k 0;simp⟩
abbrev cHl:CallT:=Qm 21 (Zd S_asks) (Qm 22 (Zd (MC S_all)) Qi)
theorem Rd[Syms]:cHl.ok Tryz.prog:=Q6 Ov (Q6 Ru.see Qh)
noncomputable def SQ:Nat→Nat→Pl:=Xx [(9,0)] (QW plt)
theorem OE[Syms](fs:List Fd)(t:Tr)(cs:List Cd)(hQ:QOk fs)(hc:cs.length≤1000)(hs:∀i,(cs.getD i default).v.s.length≤9223372036854775807)(hx:Z0 fs cs=0→ ∀i,AskOk ((Y5 fs cs).getD i default)):
 fnT Qi cHl (QK fns) (QH tys) SQ 100 9 [vF fs,.agg (encT t),vC cs] [] 0 (fun v H _=>v= .tup [.bool (ZC fs t cs),.int .i64 (Z0 fs cs)]∧H=[]):=by
 have e0:encT t=Qw t:=by cases t;exact QO _ _ _
 rw[e0]
 refine⟨⟨[(0,vF fs),(2,vC cs),(4,.ptr 0 0 0),(6,.bool false),(7,.int .i64 0)],[(0,some (.cells [Qw t] false))],1⟩,Q1 [0] (by exact rfl) ⟨.refl _,.refl _,.refl _,.refl _,.refl _,trivial⟩ ⟨⟨by decide,_,rfl,.refl _⟩,trivial⟩,?_⟩
 repeat' first|refine And.intro ?_ ?_|(intro h;try first|exact dz|replace h:=cv)
 all_goals try exact cz
 refine⟨fs,cs,rfl,⟨hQ,hc,hs⟩,?_⟩
 by_cases he:Z0 fs cs=0
 ·have hF:ZC fs t cs=Mo (Y5 fs cs) t:=if_pos he
  have hl:(Y5 fs cs).length≤1000:=by
   unfold Y5
   rw[if_pos he,List.length_map];exact hc
  rw[hF,he]
  repeat' first|refine And.intro ?_ ?_|(intro h;try first|exact dz|replace h:=cv)
  all_goals try exact cz
  refine⟨[vA (Y5 fs cs),.agg (encT t)],⟨RQ _,?_,trivial⟩,Y5 fs cs,t,rfl,⟨hx he,hl⟩,?_⟩
  ·rw[e0];exact .same _
  repeat' first|refine And.intro ?_ ?_|(intro h;try first|exact dz|replace h:=cv)
  all_goals try exact cz
  exact⟨_,Q5 [6,7] rfl,_,rfl,rfl,rfl⟩
 ·have hF:ZC fs t cs=false:=if_neg he
  rw[hF]
  repeat' first|refine And.intro ?_ ?_|(intro h;try first|exact dz|replace h:=cv)
  all_goals try exact cz
  exact⟨_,Q5 [6,7] rfl,_,rfl,rfl,rfl⟩
theorem Sb(u v:AVal)(t:Tr)(hu:u.imm=true)(h:v.imm=true):Wb [u,.agg (encT t),v]=true:=by
 obtain⟨ks,n,s⟩:=t
 rw[QO]
 show(u.imm&&_)=true
 rw[hu]
 show(true&&(true&&(v.imm&&true)))=true
 rw[h];rfl
def S_holds:SpecI:=fun args K=>∃(fs:List Fd) (t:Tr) (cs:List Cd),args=[vF fs,.agg (encT t),vC cs]∧(QOk fs∧cs.length≤1000∧(∀i,(cs.getD i default).v.s.length≤9223372036854775807)∧(Z0 fs cs=0→ ∀i,AskOk ((Y5 fs cs).getD i default)))∧K (.tup [.bool (ZC fs t cs),.int .i64 (Z0 fs cs)])
theorem Bv[Syms]:Z5 Tryz.prog 9 S_holds:=by
 rintro args K ⟨fs,t,cs,rfl,⟨h1,h2,h3,h4⟩,hk⟩
 exact⟨Sb _ _ t rfl rfl,_,rfl,hk,fnI Qu Qs Qd Rd QJ (OE fs t cs h1 h2 h3 h4)⟩
end
theorem GY(fs:List Fd)(a j:Nat):((ZS fs a).getD j default).kind=(fs.getD j default).kind:=by
 unfold ZS
 rw[List.getD_eq_getElem?_getD,List.getD_eq_getElem?_getD,List.getElem?_set]
 split
 ·rename_i h;subst h
  split
  ·rename_i h;simp[h]
  ·rename_i h;simp[Nat.le_of_not_lt h]
 ·rfl
theorem MQ(ns:List Int):∀(n i:Nat) (fs:List Fd) (op:List Int),0<fs.length→(fs.getD 0 default).kind=0→0<(ZL ns n i fs op).1.length∧((ZL ns n i fs op).1.getD 0 default).kind=0
 |0,_,fs,op,h0,h=>⟨h0,h⟩
 |n+1,i,fs,op,h0,h=>by
  rw[ZL]
  split
  ·refine MQ ns n (i+1) _ _ ?_ ?_
   ·simp[ZW]
   ·simp only[ZW]
    rw[Z8 (by rw[Qa];exact h0),GY];exact h
  ·exact⟨h0,h⟩
theorem W1(ns:List Int):((Q2 ns).getD 0 default).kind=0:=by
 obtain⟨h0,h⟩:=MQ ns 12 0 fs0 [0] (by decide) rfl
 simp only[Q2]
 generalize(ZL ns 12 0 fs0 [0]).1=fs at *
 generalize(ZL ns 12 0 fs0 [0]).2=op at *
 unfold XV
 split
 ·rw[Z8 (by rw[Qa];exact h0),GY];exact h
 ·exact h
theorem U7{fs:List Fd}{ps:List Int}:∀(n:Nat) (l:Lf),l∈QL fs ps n→0≤l.field∧l.field<n∧l.kind=(fs.getD l.field.toNat default).kind∧l.kind≠0
 |0,l,h=>by cases h
 |n+1,l,h=>by
  rw[Q9]at h
  split at h
  ·rename_i hk
   rcases List.mem_append.1 h with h|h
   ·have:=U7 n l h;exact⟨this.1,by omega,this.2.2⟩
   ·simp only[List.mem_singleton]at h
    subst h
    exact⟨by simp[mkL],by simp only[mkL];omega,by simp[mkL],by simpa[mkL]using hk⟩
  ·have:=U7 n l h;exact⟨this.1,by omega,this.2.2⟩
theorem U8{fs:List Fd}{ps:List Int}:∀(n:Nat) (a b:Nat),a<b→b<(QL fs ps n).length→((QL fs ps n).getD a default).field<((QL fs ps n).getD b default).field
 |0,a,b,_,h=>by simp[QL,Qg]at h
 |n+1,a,b,hab,h=>by
  rw[Q9]at h ⊢
  split at h
  ·rename_i hk
   rw[if_pos hk]
   rw[List.length_append,List.length_singleton]at h
   by_cases hb:b<(QL fs ps n).length
   ·rw[Z8 (by omega),Z8 hb];exact U8 n a b hab hb
   ·obtain rfl:b=(QL fs ps n).length:=by omega
    rw[Z8 hab,Zs]
    have hm:(QL fs ps n).getD a default∈QL fs ps n:=by rw[List.getD_eq_getElem?_getD,List.getElem?_eq_getElem hab];exact List.getElem_mem hab
    exact(U7 n _ hm).2.1
  ·rename_i hk
   rw[if_neg hk]
   exact U8 n a b hab h
theorem Vd{fs:List Fd}(hr:(fs.getD 0 default).kind=0){k:Nat}(h:k<(Q3 fs).length):∃j:Nat,((Q3 fs).getD k default).field=(j:Int)∧1≤j∧j<fs.length∧((Q3 fs).getD k default).kind=(fs.getD j default).kind∧((Q3 fs).getD k default).kind≠0:=by
 have hm:(Q3 fs).getD k default∈Q3 fs:=by rw[List.getD_eq_getElem?_getD,List.getElem?_eq_getElem h];exact List.getElem_mem h
 obtain⟨a,b,c,d⟩:=U7 fs.length _ hm
 refine⟨((Q3 fs).getD k default).field.toNat,by omega,?_,by omega,c,d⟩
 by_cases h0:((Q3 fs).getD k default).field.toNat=0
 ·rw[h0]at c;exact absurd (c.trans hr) d
 ·omega
theorem Ht{fs:List Fd}(hn:Nam fs)(hr:(fs.getD 0 default).kind=0){k j:Nat}(hk:k<(Q3 fs).length)(hj:j<(Q3 fs).length)(h:X7 fs k=X7 fs j):k=j:=by
 obtain⟨a,a1,a2,a3,_⟩:=Vd hr hk
 obtain⟨b,b1,b2,b3,_⟩:=Vd hr hj
 unfold X7 at h
 rw[a1,b1]at h
 have hab:a=b:=by
  rcases Nat.lt_trichotomy a b with hl|hl|hl
  ·exact absurd h.symm (JA hn b2 b3 hl)
  ·exact hl
  ·exact absurd h (JA hn a2 a3 hl)
 rcases Nat.lt_trichotomy k j with hl|hl|hl
 ·have:=U8 (ps:=Q0 fs) fs.length k j hl hj
  have e:((Q3 fs).getD k default).field<((Q3 fs).getD j default).field:=this
  rw[a1,b1,hab]at e;omega
 ·exact hl
 ·have:=U8 (ps:=Q0 fs) fs.length j k hl hk
  have e:((Q3 fs).getD j default).field<((Q3 fs).getD k default).field:=this
  rw[a1,b1,hab]at e;omega
theorem Le{fs:List Fd}{p:List UInt8}{k:Nat}(hp:X7 fs k=p)(hk:k<(Q3 fs).length):∀n,n≤(Q3 fs).length→(Q3 fs).length-n≤k→0≤ixP fs p n
 |0,_,h=>by omega
 |n+1,hn,h=>by
  rw[ixP]
  split
  ·exact Int.natCast_nonneg _
  ·rename_i hne
   refine Le hp hk n (by omega) ?_
   by_cases he:(Q3 fs).length-(n+1)=k
   ·rw[he]at hne;exact absurd hp hne
   ·omega
theorem CR{fs:List Fd}(hn:Nam fs)(hr:(fs.getD 0 default).kind=0){k:Nat}(hk:k<(Q3 fs).length):Xp fs (X7 fs k)=k:=by
 obtain⟨j,h1,h2,h3⟩:=Wg (fs:=fs) (p:=X7 fs k) (Le rfl hk _ (Nat.le_refl _) (by omega))
 rw[h2,Ht hn hr h1 hk h3]
theorem Ej{fs:List Fd}{ps:List Int}{P:UInt8→Prop}(h46:P 46)(hn:∀j,∀b∈(fs.getD j default).name,P b):∀(n:Nat) (k:Int) (out:List UInt8),(∀b∈out,P b)→ ∀b∈upK fs ps n k out,P b
 |0,k,out,h=>h
 |n+1,k,out,h=>by
  rw[upK]
  split
  ·refine Ej h46 hn n _ _ fun b hb=>?_
   rcases List.mem_append.1 hb with hb|hb
   ·rcases List.mem_append.1 hb with hb|hb
    ·exact hn _ b hb
    ·rw[List.mem_singleton.1 hb];exact h46
   ·exact h b hb
  ·exact h
theorem Eg{fs:List Fd}{ps:List Int}(hn:∀j,(fs.getD j default).name.length≤1):∀(n:Nat) (k:Int) (out:List UInt8),(upK fs ps n k out).length≤out.length+2*n
 |0,k,out=>Nat.le_refl _
 |n+1,k,out=>by
  rw[upK]
  split
  ·have:=Eg hn (ps:=ps) n (ps.getD k.toNat 0) ((fs.getD k.toNat default).name++[46]++out)
   have:=hn k.toNat
   simp only[List.length_append,List.length_singleton]at *
   omega
  ·omega
theorem NG:∀i,i<12→ ∀b∈nmM i,b.toNat<128:=by decide
theorem Nam.low{fs:List Fd}(h:Nam fs)(j:Nat):∀b∈(fs.getD j default).name,b.toNat<128:=by
 by_cases hj:j<fs.length
 ·by_cases h0:j=0
  ·subst h0;rw[h.root];decide
  ·rcases h.at' j (by omega) hj with⟨e,_⟩|⟨e,_⟩
   ·rw[e];exact NG _ (by omega)
   ·rw[e];decide
 ·rw[List.getD_eq_getElem?_getD,List.getElem?_eq_none (by omega)]
  intro b hb;cases hb
theorem GL{fs:List Fd}(h:Nam fs)(i:Int):(QS fs (Q0 fs) i).length≤29∧ ∀b∈QS fs (Q0 fs) i,b.toNat<128:=by
 unfold QS
 split
 ·exact⟨Nat.zero_le _,fun b hb=>by cases hb⟩
 ·refine⟨?_,Ej (P:=fun b=>b.toNat<128) (by decide) h.low _ _ _ (h.low _)⟩
  have:=Eg (ps:=Q0 fs) h.len1 fs.length ((Q0 fs).getD i.toNat 0) (fs.getD i.toNat default).name
  have:=h.len1 i.toNat
  have:=h.le
  omega
theorem Bj(ns:List Int):QOk (Q2 ns) where
 ok:=D2 ns
 pos:=(XD ns).pos
 kind k h:=by obtain⟨_,_,_,_,_,e⟩:=Vd (W1 ns) h;exact e
 path k h:=by
  obtain⟨a,b⟩:=GL (XD ns) ((Q3 (Q2 ns)).getD k default).field
  refine⟨Nat.le_trans a (by omega),fun j hj=>b _ ?_⟩
  have e:(X7 (Q2 ns) k).getD j 0=(X7 (Q2 ns) k)[j]:=by simp[hj]
  rw[e];exact List.getElem_mem hj
theorem D3(ns rec:List Int)(hl:rec.length≤9223372036854775807)(hr:∀k,-9223372036854775808≤rec.getD k 0∧rec.getD k 0≤9223372036854775807):MkOk (Q2 ns) (Q0 (Q2 ns)) rec where
 len:=(XD ns).le
 par:=by rw[Q0,List.length_map,Z7]
 kind i h:=by
  have:=Bi ns ((Q2 ns).getD i default) (by rw[List.getD_eq_getElem?_getD,List.getElem?_eq_getElem h];exact List.getElem_mem h)
  exact⟨this.2.2.1,this.2.2.2⟩
 rep i h:=by
  have:=Bi ns ((Q2 ns).getD i default) (by rw[List.getD_eq_getElem?_getD,List.getElem?_eq_getElem h];exact List.getElem_mem h)
  exact⟨this.1,this.2.1⟩
 raw:=hl
 int:=hr
theorem Ng(x:Int):-2147483648≤wr .i32 x∧wr .i32 x≤2147483647:=by
 unfold wr
 split
 ·rename_i h
  exact⟨h.1,h.2⟩
 ·show(-2147483648:Int)≤(if(true&&decide (x%(2^32:Int)≥(2^31:Int)))=true then x%(2^32:Int)-(2^32:Int)else x%(2^32:Int))∧(if(true&&decide (x%(2^32:Int)≥(2^31:Int)))=true then x%(2^32:Int)-(2^32:Int)else x%(2^32:Int))≤(2147483647:Int)
  split
  ·rename_i h;simp at h;omega
  ·rename_i h;simp at h;omega
theorem CK{k:Int}(h0:0≤k)(h4:k≤4)(hk:k≠0)(v:Vl):ZX k (XG k v).n (XG k v).s=true:=by
 refine decide_eq_true ?_
 have:k=1∨k=2∨k=3∨k=4:=by omega
 rcases this with rfl|rfl|rfl|rfl
 ·obtain⟨w1,w2⟩:=Zr (a:=v.n) (n:=2) (by decide)
  show ZM 1 (wi v.n 2) []=0
  unfold ZM
  rw[if_neg (by simp),if_neg (by decide),if_neg (by decide),if_pos (by decide),if_pos rfl,if_neg (by omega)]
 ·obtain⟨w1,w2⟩:=Ng v.n
  show ZM 2 (wr .i32 v.n) []=0
  unfold ZM
  rw[if_neg (by simp),if_neg (by decide),if_pos rfl,if_neg (by omega)]
 ·show ZM 3 v.n []=0
  unfold ZM
  rw[if_neg (by simp),if_pos rfl]
 ·show ZM 4 0 (v.s.take 100)=0
  unfold ZM
  rw[if_neg (by simp),if_neg (by decide),if_neg (by decide),if_pos (by simp;omega),if_neg (by decide)]
def RB(fs:List Fd)(c:Cd):Prop:=Zj fs c=0∧c.v.s.length≤9223372036854775807∧AskOk (Uj fs c)
theorem O2(ns:List Int)(x:Rc)(hr:(cdL (Q2 ns) x).r=0):RB (Q2 ns) (Uv (Q2 ns) false x):=by
 have hL:=JD ns
 obtain⟨w1,w2⟩:=Zr (a:=x.leaf) (n:=(Q3 (Q2 ns)).length) (by omega)
 have hk:(wi x.leaf (Q3 (Q2 ns)).length).toNat<(Q3 (Q2 ns)).length:=by omega
 unfold Uv
 unfold cdL at hr ⊢
 generalize(wi x.leaf (Q3 (Q2 ns)).length).toNat=k at *
 have hf:=CR (XD ns) (W1 ns) hk
 obtain⟨j,j1,j2,j3,j4,j5⟩:=Vd (W1 ns) hk
 have hkd:=(D3 ns [] (by decide) (fun k=>by simp)).kind j j3
 obtain⟨o1,o2⟩:=Zr (a:=x.op) (n:=6) (by decide)
 have hsd:=CK (k:=((Q3 (Q2 ns)).getD k default).kind) (by omega) (by omega) j5 x.v
 have hp:=GL (XD ns) ((Q3 (Q2 ns)).getD k default).field
 refine⟨?_,?_,Hb _ _ ?_⟩
 ·have hl:Xk (Q2 ns) ⟨X7 (Q2 ns) k,if false then x.op else wi x.op 6,if false then x.v else XG ((Q3 (Q2 ns)).getD k default).kind x.v⟩=(Q3 (Q2 ns)).getD k default:=by
   unfold Xk
   rw[hf];rfl
  unfold Zj
  show(if Xp (Q2 ns) (X7 (Q2 ns) k)<0 then(2:Int)else _)=0
  rw[hf,if_neg (by omega),hl]
  refine if_neg ?_
  show ¬(0<((Q3 (Q2 ns)).getD k default).r∨wi x.op 6<0∨5<wi x.op 6∨(wi x.op 6≠5∧ZX ((Q3 (Q2 ns)).getD k default).kind (XG ((Q3 (Q2 ns)).getD k default).kind x.v).n (XG ((Q3 (Q2 ns)).getD k default).kind x.v).s=false))
  rintro(h|h|h|⟨_,h⟩)
  ·omega
  ·omega
  ·omega
  ·rw[hsd]at h;cases h
 ·show(XG ((Q3 (Q2 ns)).getD k default).kind x.v).s.length≤_
  unfold XG
  split
  ·exact Nat.zero_le _
  ·split
   ·exact Nat.zero_le _
   ·split
    ·exact Nat.zero_le _
    ·show(x.v.s.take 100).length≤_
     rw[List.length_take];omega
 ·have:=UM (QS (Q2 ns) (Q0 (Q2 ns)) ((Q3 (Q2 ns)).getD k default).field)
  show(Zl (QS (Q2 ns) (Q0 (Q2 ns)) ((Q3 (Q2 ns)).getD k default).field)).length≤1000
  omega
theorem UW(ns:List Int):∀l:List Rc,∀c∈Y8 (Q2 ns) false l,RB (Q2 ns) c
 |[],c,h=>by cases h
 |x::t,c,h=>by
  rw[Y8]at h
  split at h
  ·rename_i hr
   rcases List.mem_cons.1 h with rfl|h
   ·exact O2 ns x (hr.elim id fun h=>Bool.noConfusion h)
   ·exact UW ns t c h
  ·exact UW ns t c h
theorem Ge{fs:List Fd}:∀{cs:List Cd},(∀c∈cs,RB fs c)→Xc fs cs=0
 |[],_=>rfl
 |c::t,h=>by
  rw[Xc,if_pos (h c (List.mem_cons_self ..)).1]
  exact Ge fun d hd=>h d (List.mem_cons_of_mem _ hd)
end Go.Proofs.YtekipcaifckffaaGreat
