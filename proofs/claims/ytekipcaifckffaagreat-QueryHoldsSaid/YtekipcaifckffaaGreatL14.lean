/-
  Records made of raw numbers. The statements' (chapter 8). What is asked of 'Make',and what it answers. Of several conditions all must be so,in whatever order they are asked. The statement's function. Conditions of raw numbers. The statements' (chapter 21). Answers of several values,structs among them,without addresses. A record's value of a field,from the field upwards. The document's.
-/
import Derived.Test.YtekipcaifckffaaGreatL8
import Derived.Test.YtekipcaifckffaaGreatL12
import Derived.Test.YtekipcaifckffaaGreatL4
import Derived.Test.YtekipcaifckffaaGreatL2
import Derived.Test.YtekipcaifckffaaGreatL13
import Derived.Test.YtekipcaifckffaaGreatSxOne
import Derived.Test.YtekipcaifckffaaGreatTab
set_option linter.unusedVariables false
set_option linter.unusedSimpArgs false
namespace Go.Proofs.YtekipcaifckffaaGreat
open Go Go.Av
section
set_option maxRecDepth 100000
set_option maxHeartbeats 4000000
abbrev cM8(F:Nat):CallT:=Qm 16 (Zd S_par) (Qm 17 (Gp (N8 F)) Qi)
theorem R8[Syms](F:Nat):(cM8 F).ok Tryz.prog:=Q6 FO (Ye (Io F) Qh)
noncomputable def SL:Nat→Nat→Pl:=Xx [(7,1)] (QW plt)
theorem NO[Syms](fs:List Fd)(ns:List Int)(hm:MkOk fs (Q0 fs) ns)(hF:FsOk fs)(h0:0<fs.length):
 fnT Qi (cM8 fs.length) (QK fns) (QH tys) SL 100 7 [vF fs,vI ns] [] 0 (FI (fun v H _=>v= .agg (encT (Qc fs ns))∧H=[])):=by
 refine⟨fs,rfl,hF,?_⟩
 repeat' first|refine And.intro ?_ ?_|(intro h;try first|exact dz|replace h:=cv)
 all_goals try exact cz
 refine⟨⟨[(4,.ptr 1 0 0),(5,.ptr 0 0 0)],[(0,ZA fs (Q0 fs) ns 0),(1,some (.cells [tr0] false))],2⟩,Q1 [1,0] (by exact rfl) ⟨.refl _,.refl _,trivial⟩ ⟨⟨by decide,_,rfl,.refl _⟩,⟨by decide,_,rfl,.refl _⟩,trivial⟩,?_⟩
 refine⟨[0],[.ptr 0 0 0,.int .i64 ((0:Nat):Int)],[(0,ZA fs (Q0 fs) ns 0)],rfl,⟨.refl _,.refl _,trivial⟩,⟨⟨by decide,_,rfl,.refl _⟩,trivial⟩,fs,Q0 fs,ns,0,0,rfl,rfl,rfl,hm,h0,by omega,Nat.zero_le _,?_⟩
 unfold Qc
 rcases ZV fs (Q0 fs) ns fs.length 0 0 with⟨⟨tk,tn,ts⟩,b⟩
 dsimp only
 rw[QO]
 repeat' first|refine And.intro ?_ ?_|(intro h;try first|exact dz|replace h:=cv)
 all_goals try exact cz
 exact⟨⟨[(4,.ptr 0 0 0)],[(0,some (.cells [[.int .i64 tn,.str ts,.vs 1 (tk.map fun(x:List Tr)=>[AVal.vs 3 (x.map encT)])]] false))],1⟩,(by exact Q1 [1] (by exact rfl) ⟨.refl _,trivial⟩ ⟨⟨by decide,_,rfl,ZU (row:=[.int .i64 tn,.str ts,.vs 1 (tk.map fun(x:List Tr)=>[AVal.vs 3 (x.map encT)])]) ⟨.refl _,.refl _,.refl _,trivial⟩⟩,trivial⟩),_,rfl,[],fun n b h=>(by rw[Heap.get_nil]at h;cases h),rfl,rfl⟩
def S_make8:SpecI:=fun args K=>∃fs ns,args=[vF fs,vI ns]∧MkOk fs (Q0 fs) ns∧FsOk fs∧0<fs.length∧K (.agg (encT (Qc fs ns)))
theorem Lw(t:Tr):(AVal.agg (encT t)).imm=true:=by
 obtain⟨ks,n,s⟩:=t
 rw[QO];rfl
theorem L8[Syms]:Z5 Tryz.prog 7 S_make8:=by
 rintro args K ⟨fs,ns,rfl,hm,hF,h0,hk⟩
 exact⟨rfl,_,Lw _,hk,Xw.forget (Zw Qu Qs Qd (R8 _) QJ (NO fs ns hm hF h0))⟩
end
def S_make:SpecI:=fun args K=>∃ns,args=[vI ns]∧(ns.length≤9223372036854775807∧K (vF (Q2 ns)))
theorem L6[Syms]:Z5 Tryz.prog 6 S_make:=by
 rintro args K ⟨ns,rfl,h,hk⟩
 exact⟨rfl,_,rfl,hk,fnI Qu Qs O8 PW QJ (Pm ns h)⟩
section
set_option maxRecDepth 100000
set_option maxHeartbeats 4000000
def I64(x:Int):Prop:=-9223372036854775808≤x∧x≤9223372036854775807
theorem Pw{l:List Int}(h:∀a∈l,I64 a)(k:Nat):-9223372036854775808≤l.getD k 0∧l.getD k 0≤9223372036854775807:=by
 by_cases hk:k<l.length
 ·have e:l.getD k 0=l[k]:=by simp[hk]
  rw[e];exact h _ (List.getElem_mem hk)
 ·rw[List.getD_eq_getElem?_getD,List.getElem?_eq_none (by omega)]
  exact⟨by show(-9223372036854775808:Int)≤0;decide,by show(0:Int)≤9223372036854775807;decide⟩
end
section
set_option maxRecDepth 100000
set_option maxHeartbeats 4000000
noncomputable def RV:Nat→Nat→Pl:=Xx [(8,6),(8,9)] (QW plt)
theorem LG[Syms](fs:List Fd)(l:List Rc)(hF:FsOk fs)(h0:0<(Q3 fs).length)(hll:l.length≤9223372036854775807):
 fnT I3 cCo (QK fns) (QH tys) RV 100 8 [vF fs,vRc l,.bool true] [] 0 (fun v H _=>v=vC (Xe fs true l)∧H=[]):=by
 have hfl:=hF.len
 have hle:(Q3 fs).length≤fs.length:=Zb _ _ _
 repeat' first|refine And.intro ?_ ?_|(intro h;try first|exact dz|replace h:=cv)
 all_goals try exact cz
 refine⟨fs,rfl,hF,?_⟩
 repeat' first|refine And.intro ?_ ?_|(intro h;try first|exact dz|replace h:=cv)
 all_goals try exact cz
 refine⟨fun m s=>∃(i:Nat) (out:List Cd),(i≤(l.take 5).length∧m=(l.take 5).length-i∧out++Y8 fs true ((l.take 5).drop i)=Xe fs true l∧out.length≤i)∧s=coS fs l true i out,⟨_,coS fs l true 0 [],(ZB (nx':=1) (by omega)).trans (Q1 [0] (by exact rfl) ⟨.refl _,.refl _,.refl _,.refl _,.refl _,.refl _,trivial⟩ trivial),0,[],⟨by omega,rfl,rfl,Nat.le_refl _⟩,rfl⟩,?_⟩
 rintro m s ⟨i,out,⟨hi,rfl,hv,ho⟩,rfl⟩
 have h5:(l.take 5).length≤5:=by rw[List.length_take];omega
 unfold coS
 by_cases h1:i<(l.take 5).length
 ·have hd:(l.take 5).drop i=l.getD i default::(l.take 5).drop (i+1):=by
   rw[List.drop_eq_getElem_cons h1,List.getElem_take,List.getD_eq_getElem?_getD,List.getElem?_eq_getElem (by rw[List.length_take]at h1;omega)];rfl
  have hil:i<l.length∧i<5:=by rw[List.length_take]at h1;omega
  rw[hd,Y8]at hv
  obtain⟨w1,w2⟩:=Zr (a:=(l.getD i default).leaf) (n:=(Q3 fs).length) (by omega)
  cases out with
  |nil=>
   repeat' first|refine And.intro ?_ ?_|(intro h;try first|exact dz|replace h:=cv)
   all_goals try exact cz
   refine⟨(l.getD i default).leaf,(Q3 fs).length,rfl,⟨by omega,by omega⟩,?_⟩
   repeat' first|refine And.intro ?_ ?_|(intro h;try first|exact dz|replace h:=cv)
   all_goals try exact cz
   refine⟨coT fs l true i [] (cdL fs (l.getD i default)),?_,?_⟩
   ·unfold coT
    exact(ZB (nx':=5) (by omega)).trans (Q1 [0,3,1] (by exact rfl) ⟨.refl _,.refl _,.refl _,.refl _,.refl _,.refl _,.refl _,trivial⟩ ⟨⟨by decide,_,rfl,.refl _⟩,trivial⟩)
   unfold coT
   have hcd:Uv fs true (l.getD i default)=⟨QS fs (Q0 fs) (cdL fs (l.getD i default)).field,(l.getD i default).op,(l.getD i default).v⟩:=rfl
   rw[hcd]at hv
   generalize cdL fs (l.getD i default)=lf at *
   rw[if_pos (.inr rfl)]at hv
   repeat' first|refine And.intro ?_ ?_|(intro h;try first|exact dz|replace h:=cv)
   all_goals try exact cz
   refine⟨fs,lf.field,rfl,hF,?_⟩
   repeat' first|refine And.intro ?_ ?_|(intro h;try first|exact dz|replace h:=cv)
   all_goals try exact cz
   refine⟨(l.getD i default).op,6,rfl,by decide,?_⟩
   repeat' first|refine And.intro ?_ ?_|(intro h;try first|exact dz|replace h:=cv)
   all_goals try exact cz
   refine⟨lf.kind,(l.getD i default).v,rfl,?_⟩
   repeat' first|refine And.intro ?_ ?_|(intro h;try first|exact dz|replace h:=cv)
   all_goals try exact cz
   refine⟨⟨[(0,vF fs),(1,vRc l),(2,.bool true),(7,vL (Q3 fs)),(8,XU 0 4 ([]:List Cd)),(9,.int .i64 i),(10,.ptr 2 0 0),(11,.ptr 4 0 0)],[(0,Xy encC ([]:List Cd)),(2,some (.cells [QT lf] false)),(4,some (.cells [[.str (QS fs (Q0 fs) lf.field),.int .i64 (l.getD i default).op,.int .i64 (l.getD i default).v.n,.str (l.getD i default).v.s]] false))],5⟩,?_,?_⟩
   ·skip
    repeat' first|refine And.intro ?_ ?_|(intro h;try first|exact dz|replace h:=cv)
    all_goals(try first|omega|exact trivial|((with_reducible refine Apart.mk ?_);kernel_rfl)|((with_reducible show _=true);exact rfl))
    all_goals(conv=>whnf)
    all_goals(try exact Nat.le_of_ble_eq_true rfl)
    repeat' first|refine And.intro ?_ ?_|(intro h;try first|exact dz|replace h:=cv)
    all_goals(try first|omega|exact trivial|((with_reducible refine Apart.mk ?_);kernel_rfl)|((with_reducible show _=true);exact rfl))
    all_goals(conv=>whnf)
    all_goals(try exact Nat.le_of_ble_eq_true rfl)
    repeat' first|refine And.intro ?_ ?_|(intro h;try first|exact dz|replace h:=cv)
    all_goals(try first|omega|exact trivial|((with_reducible refine Apart.mk ?_);kernel_rfl)|((with_reducible show _=true);exact rfl))
    all_goals(conv=>whnf)
    all_goals(try exact Nat.le_of_ble_eq_true rfl)
    all_goals(try rw[show(3+(0+1+1+1+1+1+1+1+1+1+1+1+1+1+1+1+1+1+1+1)*RR:Nat)=81604378627 from rfl])
    all_goals exact Exists.intro () (Q1 [0,1,2,3,81604378627] (by exact rfl) ⟨.refl _,.refl _,.refl _,.refl _,.refl _,.refl _,.refl _,.refl _,trivial⟩ ⟨⟨by decide,_,rfl,.refl _⟩,⟨by decide,.cells [[.str (QS fs (Q0 fs) lf.field),.int .i64 (l.getD i default).op,.int .i64 (l.getD i default).v.n,.str (l.getD i default).v.s]] false,rfl,.refl _⟩,trivial⟩)
   repeat' first|refine And.intro ?_ ?_|(intro h;try first|exact dz|replace h:=cv)
   all_goals try exact cz
   all_goals
    refine⟨_,coS fs l true (i+1) ([]++[⟨QS fs (Q0 fs) lf.field,(l.getD i default).op,(l.getD i default).v⟩]),?_,⟨i+1,_,⟨by omega,rfl,(by rw[List.append_assoc];exact hv),(by rw[List.length_append,List.length_singleton];omega)⟩,rfl⟩,by omega⟩
    unfold coS
    exact Q1 [6] (by exact rfl) ⟨.refl _,.refl _,.refl _,.refl _,.cap _ _ _ _ _,Q8 (by first|rfl|omega),trivial⟩ ⟨⟨by decide,_,rfl,Q4 (by exact rfl) (fC _)⟩,trivial⟩
  |cons o0 ot=>
   have hol:(o0::ot).length≤1000:=by omega
   repeat' first|refine And.intro ?_ ?_|(intro h;try first|exact dz|replace h:=cv)
   all_goals try exact cz
   refine⟨(l.getD i default).leaf,(Q3 fs).length,rfl,⟨by omega,by omega⟩,?_⟩
   repeat' first|refine And.intro ?_ ?_|(intro h;try first|exact dz|replace h:=cv)
   all_goals try exact cz
   refine⟨coT fs l true i (o0::ot) (cdL fs (l.getD i default)),?_,?_⟩
   ·unfold coT
    exact(ZB (nx':=5) (by omega)).trans (Q1 [0,3,1] (by exact rfl) ⟨.refl _,.refl _,.refl _,.refl _,.refl _,.refl _,.refl _,trivial⟩ ⟨⟨by decide,_,rfl,Qp (fC _)⟩,⟨by decide,_,rfl,.refl _⟩,trivial⟩)
   unfold coT
   have hcd:Uv fs true (l.getD i default)=⟨QS fs (Q0 fs) (cdL fs (l.getD i default)).field,(l.getD i default).op,(l.getD i default).v⟩:=rfl
   rw[hcd]at hv
   generalize cdL fs (l.getD i default)=lf at *
   rw[if_pos (.inr rfl)]at hv
   repeat' first|refine And.intro ?_ ?_|(intro h;try first|exact dz|replace h:=cv)
   all_goals try exact cz
   refine⟨fs,lf.field,rfl,hF,?_⟩
   repeat' first|refine And.intro ?_ ?_|(intro h;try first|exact dz|replace h:=cv)
   all_goals try exact cz
   refine⟨(l.getD i default).op,6,rfl,by decide,?_⟩
   repeat' first|refine And.intro ?_ ?_|(intro h;try first|exact dz|replace h:=cv)
   all_goals try exact cz
   refine⟨lf.kind,(l.getD i default).v,rfl,?_⟩
   repeat' first|refine And.intro ?_ ?_|(intro h;try first|exact dz|replace h:=cv)
   all_goals try exact cz
   refine⟨⟨[(0,vF fs),(1,vRc l),(2,.bool true),(7,vL (Q3 fs)),(8,XU 0 4 ((o0::ot):List Cd)),(9,.int .i64 i),(10,.ptr 2 0 0),(11,.ptr 4 0 0)],[(0,some (.cells ((o0::ot).map encC) false)),(2,some (.cells [QT lf] false)),(4,some (.cells [[.str (QS fs (Q0 fs) lf.field),.int .i64 (l.getD i default).op,.int .i64 (l.getD i default).v.n,.str (l.getD i default).v.s]] false))],5⟩,?_,?_⟩
   ·skip
    repeat' first|refine And.intro ?_ ?_|(intro h;try first|exact dz|replace h:=cv)
    all_goals(try first|omega|exact trivial|((with_reducible refine Apart.mk ?_);kernel_rfl)|((with_reducible show _=true);exact rfl))
    all_goals(conv=>whnf)
    all_goals(try exact Nat.le_of_ble_eq_true rfl)
    repeat' first|refine And.intro ?_ ?_|(intro h;try first|exact dz|replace h:=cv)
    all_goals(try first|omega|exact trivial|((with_reducible refine Apart.mk ?_);kernel_rfl)|((with_reducible show _=true);exact rfl))
    all_goals(conv=>whnf)
    all_goals(try exact Nat.le_of_ble_eq_true rfl)
    repeat' first|refine And.intro ?_ ?_|(intro h;try first|exact dz|replace h:=cv)
    all_goals(try first|omega|exact trivial|((with_reducible refine Apart.mk ?_);kernel_rfl)|((with_reducible show _=true);exact rfl))
    all_goals(conv=>whnf)
    all_goals(try exact Nat.le_of_ble_eq_true rfl)
    all_goals(try rw[show(3+(0+1+1+1+1+1+1+1+1+1+1+1+1+1+1+1+1+1+1+1)*RR:Nat)=81604378627 from rfl])
    all_goals exact Exists.intro () (Q1 [0,1,2,3,81604378627] (by exact rfl) ⟨.refl _,.refl _,.refl _,.refl _,.refl _,.refl _,.refl _,.refl _,trivial⟩ ⟨⟨by decide,_,rfl,Qp (fC _)⟩,⟨by decide,_,rfl,.refl _⟩,⟨by decide,.cells [[.str (QS fs (Q0 fs) lf.field),.int .i64 (l.getD i default).op,.int .i64 (l.getD i default).v.n,.str (l.getD i default).v.s]] false,rfl,.refl _⟩,trivial⟩)
   repeat' first|refine And.intro ?_ ?_|(intro h;try first|exact dz|replace h:=cv)
   all_goals try exact cz
   all_goals
    refine⟨_,coS fs l true (i+1) ((o0::ot)++[⟨QS fs (Q0 fs) lf.field,(l.getD i default).op,(l.getD i default).v⟩]),?_,⟨i+1,_,⟨by omega,rfl,(by rw[List.append_assoc];exact hv),(by rw[List.length_append,List.length_singleton];omega)⟩,rfl⟩,by omega⟩
    unfold coS
    exact Q1 [6] (by exact rfl) ⟨.refl _,.refl _,.refl _,.refl _,Q7 (by simp),Q8 (by first|rfl|omega),trivial⟩ ⟨⟨by decide,_,rfl,Q4 (by exact gC (o0::ot) ⟨QS fs (Q0 fs) lf.field,(l.getD i default).op,(l.getD i default).v⟩) (fC _)⟩,trivial⟩
 ·have hx:¬(i<l.length∧i<5):=by rw[List.length_take]at h1;omega
  have hie:i=(l.take 5).length:=by omega
  rw[hie,List.drop_length,Y8,List.append_nil]at hv
  rw[←hv]
  clear hv hie
  cases out with
  |nil=>
   repeat' first|refine And.intro ?_ ?_|(intro h;try first|exact dz|replace h:=cv)
   all_goals try exact cz
   all_goals(first|(exfalso;omega)|exact⟨_,Ws 4 encC default (k:=6) rfl,_,rfl,rfl,rfl⟩)
  |cons o0 ot=>
   repeat' first|refine And.intro ?_ ?_|(intro h;try first|exact dz|replace h:=cv)
   all_goals try exact cz
   all_goals(first|(exfalso;omega)|exact⟨_,XJ default (k:=6) (n:=0) (sz:=4) (enc:=encC) (l:=o0::ot) (len:=(o0::ot).length) rfl rfl (fC _) (List.take_of_length_le (by simp)) (by simp),_,rfl,rfl,rfl⟩)
theorem LH[Syms]{Post:AVal→Heap→Nat→Prop}(fs:List Fd)(l:List Rc)(hF:FsOk fs)(h0:0<(Q3 fs).length)(hll:l.length≤9223372036854775807)(hP:Post (XU 0 4 (Xe fs false l)) [(0,Xy encC (Xe fs false l))] 1):
 fnT I3 cCo (QK fns) (QH tys) RW 100 8 [vF fs,vRc l,.bool false] [] 0 Post:=by
 have hfl:=hF.len
 have hle:(Q3 fs).length≤fs.length:=Zb _ _ _
 repeat' first|refine And.intro ?_ ?_|(intro h;try first|exact dz|replace h:=cv)
 all_goals try exact cz
 refine⟨fs,rfl,hF,?_⟩
 repeat' first|refine And.intro ?_ ?_|(intro h;try first|exact dz|replace h:=cv)
 all_goals try exact cz
 refine⟨fun m s=>∃(i:Nat) (out:List Cd),(i≤(l.take 5).length∧m=(l.take 5).length-i∧out++Y8 fs false ((l.take 5).drop i)=Xe fs false l∧out.length≤i)∧s=coS fs l false i out,⟨_,coS fs l false 0 [],(ZB (nx':=1) (by omega)).trans (Q1 [0] (by exact rfl) ⟨.refl _,.refl _,.refl _,.refl _,.refl _,.refl _,trivial⟩ trivial),0,[],⟨by omega,rfl,rfl,Nat.le_refl _⟩,rfl⟩,?_⟩
 rintro m s ⟨i,out,⟨hi,rfl,hv,ho⟩,rfl⟩
 have h5:(l.take 5).length≤5:=by rw[List.length_take];omega
 unfold coS
 by_cases h1:i<(l.take 5).length
 ·have hd:(l.take 5).drop i=l.getD i default::(l.take 5).drop (i+1):=by
   rw[List.drop_eq_getElem_cons h1,List.getElem_take,List.getD_eq_getElem?_getD,List.getElem?_eq_getElem (by rw[List.length_take]at h1;omega)];rfl
  have hil:i<l.length∧i<5:=by rw[List.length_take]at h1;omega
  rw[hd,Y8]at hv
  obtain⟨w1,w2⟩:=Zr (a:=(l.getD i default).leaf) (n:=(Q3 fs).length) (by omega)
  cases out with
  |nil=>
   repeat' first|refine And.intro ?_ ?_|(intro h;try first|exact dz|replace h:=cv)
   all_goals try exact cz
   refine⟨(l.getD i default).leaf,(Q3 fs).length,rfl,⟨by omega,by omega⟩,?_⟩
   repeat' first|refine And.intro ?_ ?_|(intro h;try first|exact dz|replace h:=cv)
   all_goals try exact cz
   refine⟨coT fs l false i [] (cdL fs (l.getD i default)),?_,?_⟩
   ·unfold coT
    exact(ZB (nx':=5) (by omega)).trans (Q1 [0,3,1] (by exact rfl) ⟨.refl _,.refl _,.refl _,.refl _,.refl _,.refl _,.refl _,trivial⟩ ⟨⟨by decide,_,rfl,.refl _⟩,trivial⟩)
   unfold coT
   have hcd:Uv fs false (l.getD i default)=⟨QS fs (Q0 fs) (cdL fs (l.getD i default)).field,wi (l.getD i default).op 6,XG (cdL fs (l.getD i default)).kind (l.getD i default).v⟩:=rfl
   rw[hcd]at hv
   generalize cdL fs (l.getD i default)=lf at *
   by_cases hr:lf.r=0
   ·rw[if_pos (.inl hr)]at hv
    repeat' first|refine And.intro ?_ ?_|(intro h;try first|exact dz|replace h:=cv)
    all_goals try exact cz
    refine⟨fs,lf.field,rfl,hF,?_⟩
    repeat' first|refine And.intro ?_ ?_|(intro h;try first|exact dz|replace h:=cv)
    all_goals try exact cz
    refine⟨(l.getD i default).op,6,rfl,by decide,?_⟩
    repeat' first|refine And.intro ?_ ?_|(intro h;try first|exact dz|replace h:=cv)
    all_goals try exact cz
    refine⟨lf.kind,(l.getD i default).v,rfl,?_⟩
    repeat' first|refine And.intro ?_ ?_|(intro h;try first|exact dz|replace h:=cv)
    all_goals try exact cz
    refine⟨_,coS fs l false (i+1) ([]++[⟨QS fs (Q0 fs) lf.field,wi (l.getD i default).op 6,XG lf.kind (l.getD i default).v⟩]),?_,⟨i+1,_,⟨by omega,rfl,(by rw[List.append_assoc];exact hv),(by rw[List.length_append,List.length_singleton];omega)⟩,rfl⟩,by omega⟩
    unfold coS
    exact Q1 [85899345925] (by exact rfl) ⟨.refl _,.refl _,.refl _,.refl _,.cap _ _ _ _ _,Q8 (by first|rfl|omega),trivial⟩ ⟨⟨by decide,_,rfl,Q4 (by exact rfl) (fC _)⟩,trivial⟩
   ·rw[if_neg (fun h=>h.elim hr Bool.noConfusion)]at hv
    repeat' first|refine And.intro ?_ ?_|(intro h;try first|exact dz|replace h:=cv)
    all_goals try exact cz
    refine⟨fs,lf.field,rfl,hF,?_⟩
    repeat' first|refine And.intro ?_ ?_|(intro h;try first|exact dz|replace h:=cv)
    all_goals try exact cz
    refine⟨(l.getD i default).op,6,rfl,by decide,?_⟩
    repeat' first|refine And.intro ?_ ?_|(intro h;try first|exact dz|replace h:=cv)
    all_goals try exact cz
    refine⟨lf.kind,(l.getD i default).v,rfl,?_⟩
    repeat' first|refine And.intro ?_ ?_|(intro h;try first|exact dz|replace h:=cv)
    all_goals try exact cz
    refine⟨_,coS fs l false (i+1) [],?_,⟨i+1,_,⟨by omega,rfl,hv,by omega⟩,rfl⟩,by omega⟩
    unfold coS
    exact Q1 [0] (by exact rfl) ⟨.refl _,.refl _,.refl _,.refl _,.refl _,Q8 (by first|rfl|omega),trivial⟩ trivial
  |cons o0 ot=>
   have hol:(o0::ot).length≤1000:=by omega
   repeat' first|refine And.intro ?_ ?_|(intro h;try first|exact dz|replace h:=cv)
   all_goals try exact cz
   refine⟨(l.getD i default).leaf,(Q3 fs).length,rfl,⟨by omega,by omega⟩,?_⟩
   repeat' first|refine And.intro ?_ ?_|(intro h;try first|exact dz|replace h:=cv)
   all_goals try exact cz
   refine⟨coT fs l false i (o0::ot) (cdL fs (l.getD i default)),?_,?_⟩
   ·unfold coT
    exact(ZB (nx':=5) (by omega)).trans (Q1 [0,3,1] (by exact rfl) ⟨.refl _,.refl _,.refl _,.refl _,.refl _,.refl _,.refl _,trivial⟩ ⟨⟨by decide,_,rfl,Qp (fC _)⟩,⟨by decide,_,rfl,.refl _⟩,trivial⟩)
   unfold coT
   have hcd:Uv fs false (l.getD i default)=⟨QS fs (Q0 fs) (cdL fs (l.getD i default)).field,wi (l.getD i default).op 6,XG (cdL fs (l.getD i default)).kind (l.getD i default).v⟩:=rfl
   rw[hcd]at hv
   generalize cdL fs (l.getD i default)=lf at *
   by_cases hr:lf.r=0
   ·rw[if_pos (.inl hr)]at hv
    repeat' first|refine And.intro ?_ ?_|(intro h;try first|exact dz|replace h:=cv)
    all_goals try exact cz
    refine⟨fs,lf.field,rfl,hF,?_⟩
    repeat' first|refine And.intro ?_ ?_|(intro h;try first|exact dz|replace h:=cv)
    all_goals try exact cz
    refine⟨(l.getD i default).op,6,rfl,by decide,?_⟩
    repeat' first|refine And.intro ?_ ?_|(intro h;try first|exact dz|replace h:=cv)
    all_goals try exact cz
    refine⟨lf.kind,(l.getD i default).v,rfl,?_⟩
    repeat' first|refine And.intro ?_ ?_|(intro h;try first|exact dz|replace h:=cv)
    all_goals try exact cz
    refine⟨_,coS fs l false (i+1) ((o0::ot)++[⟨QS fs (Q0 fs) lf.field,wi (l.getD i default).op 6,XG lf.kind (l.getD i default).v⟩]),?_,⟨i+1,_,⟨by omega,rfl,(by rw[List.append_assoc];exact hv),(by rw[List.length_append,List.length_singleton];omega)⟩,rfl⟩,by omega⟩
    unfold coS
    exact Q1 [85899345925] (by exact rfl) ⟨.refl _,.refl _,.refl _,.refl _,Q7 (by simp),Q8 (by first|rfl|omega),trivial⟩ ⟨⟨by decide,_,rfl,Q4 (by exact gC (o0::ot) ⟨QS fs (Q0 fs) lf.field,wi (l.getD i default).op 6,XG lf.kind (l.getD i default).v⟩) (fC _)⟩,trivial⟩
   ·rw[if_neg (fun h=>h.elim hr Bool.noConfusion)]at hv
    repeat' first|refine And.intro ?_ ?_|(intro h;try first|exact dz|replace h:=cv)
    all_goals try exact cz
    refine⟨fs,lf.field,rfl,hF,?_⟩
    repeat' first|refine And.intro ?_ ?_|(intro h;try first|exact dz|replace h:=cv)
    all_goals try exact cz
    refine⟨(l.getD i default).op,6,rfl,by decide,?_⟩
    repeat' first|refine And.intro ?_ ?_|(intro h;try first|exact dz|replace h:=cv)
    all_goals try exact cz
    refine⟨lf.kind,(l.getD i default).v,rfl,?_⟩
    repeat' first|refine And.intro ?_ ?_|(intro h;try first|exact dz|replace h:=cv)
    all_goals try exact cz
    refine⟨_,coS fs l false (i+1) (o0::ot),?_,⟨i+1,_,⟨by omega,rfl,hv,by omega⟩,rfl⟩,by omega⟩
    unfold coS
    exact Q1 [0] (by exact rfl) ⟨.refl _,.refl _,.refl _,.refl _,.refl _,Q8 (by first|rfl|omega),trivial⟩ ⟨⟨by decide,_,rfl,Qp (fC _)⟩,trivial⟩
 ·have hx:¬(i<l.length∧i<5):=by rw[List.length_take]at h1;omega
  have hie:i=(l.take 5).length:=by omega
  rw[hie,List.drop_length,Y8,List.append_nil]at hv
  rw[←hv]at hP
  clear hv hie
  cases out with
  |nil=>
   repeat' first|refine And.intro ?_ ?_|(intro h;try first|exact dz|replace h:=cv)
   all_goals try exact cz
   all_goals(first|(exfalso;omega)|exact⟨⟨[(6,.nils)],[(0,none)],1⟩,Q1 [0] (by exact rfl) ⟨.refl _,trivial⟩ trivial,_,rfl,hP⟩)
  |cons o0 ot=>
   repeat' first|refine And.intro ?_ ?_|(intro h;try first|exact dz|replace h:=cv)
   all_goals try exact cz
   all_goals(first|(exfalso;omega)|exact⟨⟨[(6,.slice 0 0 (o0::ot).length 4 none)],[(0,some (.cells ((o0::ot).map encC) false))],1⟩,Q1 [0] (by exact rfl) ⟨.refl _,trivial⟩ ⟨⟨by decide,_,rfl,Qp (fC _)⟩,trivial⟩,_,rfl,hP⟩)
def S_condsT:SpecI:=fun args K=>∃(fs:List Fd) (l:List Rc),args=[vF fs,vRc l,.bool true]∧(FsOk fs∧0<(Q3 fs).length∧l.length≤9223372036854775807)∧K (vC (Xe fs true l))
theorem HX[Syms]:Z5 Tryz.prog 8 S_condsT:=by
 rintro args K ⟨fs,l,rfl,⟨h1,h2,h3⟩,hk⟩
 exact⟨rfl,_,rfl,hk,fnI Qu Qs Mh CZ QJ (LG fs l h1 h2 h3)⟩
def C4:SpecT:=fun args H nx Post=>∃(fs:List Fd) (l:List Rc),args=[vF fs,vRc l,.bool false]∧H=[]∧nx=0∧(FsOk fs∧0<(Q3 fs).length∧l.length≤9223372036854775807)∧Post (XU 0 4 (Xe fs false l)) [(0,Xy encC (Xe fs false l))] 1
theorem HY[Syms]:C4.ok Tryz.prog 8:=by
 rintro args H nx Post ⟨fs,l,rfl,rfl,rfl,⟨h1,h2,h3⟩,h⟩
 exact Zw Qu Qs Mh CZ QJ (LH fs l h1 h2 h3 h)
end
def AVal.imm2:AVal→Bool
 | .tup cs=>cs.all AVal.imm
 |v=>v.imm
theorem RelV.imm2[Syms]{ι κ:Inj}(hz:∀g cs,ι.fz g=some cs→κ.fz g=some cs){x:AVal}{v:Value}(hx:AVal.imm2 x=true)(h:RelV ι x v):RelV κ.bare x v:=by
 cases x with
 |tup cs=>
  obtain⟨vs,rfl,hl⟩:=h.of_tup
  exact .mk_tup ⟨hl.1,fun i c v h1 h2=>(hl.2 i c v h1 h2).imm hz (List.all_eq_true.1 hx c (List.mem_of_getElem? h1))⟩
 |_=>exact h.imm hz hx
def Eb[Syms](P:Program)(f:FuncId)(S:SpecI):Prop:=∀args K,S args K→Wb args=true∧ ∃v,AVal.imm2 v=true∧K v∧Xw P f args [] 0 fun v' H' _=>v'=v∧H'=[]
theorem HK[Syms]{P:Program}{f:FuncId}{args:List AVal}{v:AVal}(ha:Wb args=true)(hv:AVal.imm2 v=true)(h:Xw P f args [] 0 fun v' H' _=>v'=v∧H'=[])(H:Heap)(nx:Nat):X1 P f args H nx v H nx:=by
 intro ι w vs hvs hH hb
 have h0:RelH ι.bare [] w:=⟨fun n b hb=>(by rw[Heap.get_nil]at hb;cases hb),fun n m b c L M hb=>(by rw[Heap.get_nil]at hb;cases hb),fun g cs hg=>⟨(hH.fz g cs hg).1,fun⟨n,b,L,h1,_⟩=>by rw[Heap.get_nil]at h1;cases h1⟩⟩
 refine(h.2 ι.bare w vs (hvs.imm ha) h0 (fun n L hn=>nomatch hn)).mono ?_
 rintro e w' ⟨v',H',nx',r,κ,⟨rfl,rfl⟩,rfl,hr,hH',hst,_⟩
 have same:∀g,g<w.heap.size→w'.heap[g]?=w.heap[g]?:=fun g hg=>hst.same g hg fun⟨n,b,L,h1,_⟩=>by rw[Heap.get_nil]at h1;cases h1
 have noOwn:∀g,¬Own ι.bare [] g:=fun g ⟨n,b,L,h1,_⟩=>by rw[Heap.get_nil]at h1;cases h1
 let μ:Inj:=⟨ι.loc,κ.fz⟩
 have hle:ι.le μ:=⟨fun _ _ h=>h,fun g cs hg=>hst.fzle g cs hg⟩
 refine⟨r,μ,rfl,RelV.mono (ι:=μ.bare) (Inj.bare_le μ) (RelV.imm2 (κ:=κ) (fun _ _ h=>h) hv hr),⟨fun n b hn=>?_,hH.inj,fun g cs hg=>⟨(hH'.fz g cs hg).1,fun ho=>?_⟩⟩,⟨⟨hle,hst.os,hst.tape,hst.output,hst.size,fun g hg _=>same g hg,fun g hg=>.inl hg,fun g cs hg=>?_⟩,Nat.le_refl _,fun n L hn=>.inl hn⟩,fun n L hn=>⟨(hb n L hn).1,Nat.lt_of_lt_of_le (hb n L hn).2 hst.size⟩⟩
 ·obtain⟨L,h1,h2⟩:=hH.blk n b hn
  exact⟨L,h1,h2.keep hle (same _ (hb n L h1).2)⟩
 ·obtain⟨n,b,L,h1,h2,h3,h4⟩:=ho
  rcases hst.fzs g cs hg with h|h|h
  ·exact(hH.fz g cs h).2 ⟨n,b,L,h1,h2,h3,h4⟩
  ·have:=(hb n L h3).2;omega
  ·exact noOwn g h
 ·rcases hst.fzs g cs hg with h|h|h
  ·exact .inl h
  ·exact .inr (.inl h)
  ·exact absurd h (noOwn g)
theorem GK[Syms]{P:Program}{n:Nat}{S:SpecI}{d:CallT}(hS:Eb P n S)(hd:d.det P):(Qm n (Zd S) d).det P:=by
 intro f args H nx K h
 unfold Qm at h
 cases hf:Nat.beq f n with
 |true=>
  rw[hf]at h
  have:=Nat.eq_of_beq_eq_true hf
  subst this
  obtain⟨h1,v,h2,h3,h4⟩:=hS args _ h
  exact⟨v,H,nx,h4.1,HK h1 h2 h4 H nx,h3⟩
 |false=>rw[hf]at h;exact hd f args H nx K h
theorem Un[Syms]{P:Program}{n:Nat}{S:SpecI}{d:CallT}(hS:Eb P n S)(hd:d.ok P):(Qm n (Zd S) d).ok P:=by
 intro f args H nx K h
 unfold Qm at h
 cases hf:Nat.beq f n with
 |true=>
  rw[hf]at h
  have hd':(Qm f (Zd S) Qi).det P:=GK (Nat.eq_of_beq_eq_true hf▸hS) Qd
  refine hd'.ok f args H nx K ?_
  unfold Qm
  rw[Nat.beq_refl]
  exact h
 |false=>rw[hf]at h;exact hd f args H nx K h
section
set_option maxRecDepth 100000
set_option maxHeartbeats 4000000
def XW(ps:List Int)(g:Int):Nat→Nat→Nat
 |0,_=>0
 |n+1,i=>(if ps.getD i 0=g then 1 else 0)+XW ps g n (i+1)
def WC(ps:List Int)(a:Nat):Nat:=XW ps (ps.getD a 0) (a-((ps.getD a 0).toNat+1)) ((ps.getD a 0).toNat+1)
def Uk(u:Tr×Bool)(k:Nat):Tr×Bool:=if u.2=false then(.mk [] 0 [],false)else if u.1.kids.getD k []=[]then(.mk [] 0 [],false)else((u.1.kids.getD k []).getD 0 default,true)
def Ur(ps:List Int)(t:Tr):Nat→Nat→Tr×Bool
 |0,_=>(t,true)
 |n+1,a=>if a=0 then(t,true)else Uk (Ur ps t n (ps.getD a 0).toNat) (WC ps a)
def Zh(ps:List Int)(t:Tr)(a:Nat):Tr×Bool:=Ur ps t a a
def Ups(ps:List Int):Prop:=∀a,1≤a→a<ps.length→0≤ps.getD a 0∧ps.getD a 0<a
theorem Ve{ps:List Int}(hu:Ups ps)(t:Tr):∀n a,a≤n→a<ps.length→Ur ps t n a=Zh ps t a
 |0,a,h,_=>by
  obtain rfl:a=0:=by omega
  rfl
 |n+1,a,h,hl=>by
  unfold Zh
  cases a with
  |zero=>rfl
  |succ a=>
   have h1:=hu (a+1) (by omega) hl
   rw[Ur,Ur,if_neg (by omega),if_neg (by omega),Ve hu t n _ (by omega) (by omega),Ve hu t a _ (by omega) (by omega)]
theorem UP{ps:List Int}(hu:Ups ps)(t:Tr){a:Nat}(h1:1≤a)(hl:a<ps.length):Zh ps t a=Uk (Zh ps t (ps.getD a 0).toNat) (WC ps a):=by
 have h:=hu a h1 hl
 obtain⟨b,rfl⟩:∃b,a=b+1:=⟨a-1,by omega⟩
 have e:Zh ps t (b+1)=Ur ps t (b+1) (b+1):=rfl
 rw[e,Ur,if_neg (by omega),Ve hu t b _ (by omega) (by omega)]
structure LfOk(fs:List Fd)(t:Tr):Prop where
 len:fs.length<1000
 ups:Ups (Q0 fs)
 txt:∀a,a<(Q0 fs).length→(Zh (Q0 fs) t a).1.txt.length≤1000000
 idx:∀a,1≤a→a<(Q0 fs).length→(Zh (Q0 fs) t ((Q0 fs).getD a 0).toNat).2=true→WC (Q0 fs) a<(Zh (Q0 fs) t ((Q0 fs).getD a 0).toNat).1.kids.length
def DG(N:Nat):SpecI:=fun args K=>∃(fs:List Fd) (t:Tr) (a:Int),args=[vF fs,vI (Q0 fs),.int .i64 a,.agg (Qw t)]∧(LfOk fs t∧0≤a∧a<fs.length∧a<N)∧K (.tup [.agg (Qw (Zh (Q0 fs) t a.toNat).1),.bool (Zh (Q0 fs) t a.toNat).2])
abbrev cLe(N:Nat):CallT:=Qm 54 (Zd (DG N)) Qi
abbrev P6:List AVal:=[.int .i64 0,.str [],.nils]
noncomputable def SO:Nat→Nat→Pl:=Xx [(54,0),(54,3)] (QW plt)
def leS(fs:List Fd)(a:Int)(u:Tr)(n i:Nat):St:=⟨[(1,vI (Q0 fs)),(2,.int .i64 a),(8,.ptr 0 0 0),(10,.ptr 2 0 0),(12,.int .i64 n),(13,.int .i64 i)],[(0,some (.cells [P6] false)),(2,some (.cells [Qw u] false))],3⟩
theorem Nw[Syms](N:Nat)(fs:List Fd)(t:Tr)(a:Int)(hT:LfOk fs t)(h0:0≤a)(hl:a<fs.length)(hN:a<(N+1:Nat)):
 fnT (cLe N) (cLe N) (QK fns) (QH tys) SO 100 54 [vF fs,vI (Q0 fs),.int .i64 a,.agg (Qw t)] [] 0 (FI (fun v H _=>v= .tup [.agg (Qw (Zh (Q0 fs) t a.toNat).1),.bool (Zh (Q0 fs) t a.toNat).2]∧H=[])):=by
 have hpl:(Q0 fs).length=fs.length:=by rw[Q0,List.length_map,Z7]
 have hlen:=hT.len
 refine⟨⟨[(0,vF fs),(1,vI (Q0 fs)),(2,.int .i64 a),(7,.ptr 0 0 0),(8,.ptr 2 0 0),(9,.bool false)],[(0,some (.cells [Qw t] false)),(2,some (.cells [P6] false))],3⟩,?_,?_⟩
 ·exact(ZB (nx':=5) (by omega)).trans (Q1 [0,3,1] (by exact rfl) ⟨.refl _,.refl _,.refl _,.refl _,.refl _,.refl _,trivial⟩ ⟨⟨by decide,_,rfl,.refl _⟩,⟨by decide,_,rfl,.refl _⟩,trivial⟩)
 by_cases ha:a=0
 ·subst ha
  repeat' first|refine And.intro ?_ ?_|(intro h;try first|exact dz|replace h:=cv)
  all_goals try exact cz
  exact⟨⟨[(8,.ptr 0 0 0),(9,.bool true)],[(0,some (.cells [Qw t] false))],1⟩,Q1 [2] (by exact rfl) ⟨.refl _,.refl _,trivial⟩ ⟨⟨by decide,_,rfl,.refl _⟩,trivial⟩,_,rfl,[],V1 _,rfl,rfl⟩
 ·obtain⟨b,rfl⟩:∃b:Nat,a=b:=⟨a.toNat,by omega⟩
  have hb1:1≤b:=by omega
  have hbl:b<(Q0 fs).length:=by omega
  obtain⟨p0,p1⟩:=hT.ups b hb1 hbl
  have hix:=hT.idx b hb1 hbl
  have hst:=UP hT.ups t hb1 hbl
  rw[Int.toNat_natCast,hst]
  repeat' first|refine And.intro ?_ ?_|(intro h;try first|exact dz|replace h:=cv)
  all_goals try exact cz
  refine⟨⟨[(1,vI (Q0 fs)),(2,.int .i64 b),(8,.ptr 0 0 0),(10,.ptr 2 0 0),(11,.bool (Zh (Q0 fs) t ((Q0 fs).getD b 0).toNat).2)],[(0,some (.cells [P6] false)),(2,some (.cells [Qw (Zh (Q0 fs) t ((Q0 fs).getD b 0).toNat).1] false))],3⟩,?_,?_⟩
  ·skip
   repeat' first|refine And.intro ?_ ?_|(intro h;try first|exact dz|replace h:=cv)
   all_goals(try first|omega|exact trivial|((with_reducible refine Apart.mk ?_);kernel_rfl)|((with_reducible show _=true);exact rfl))
   all_goals(try refine⟨fs,t,(Q0 fs).getD b 0,rfl,⟨hT,p0,by omega,by omega⟩,?_⟩)
   all_goals(conv=>whnf)
   repeat' first|refine And.intro ?_ ?_|(intro h;try first|exact dz|replace h:=cv)
   all_goals(try first|omega|exact trivial|((with_reducible refine Apart.mk ?_);kernel_rfl)|((with_reducible show _=true);exact rfl))
   all_goals(try refine⟨fs,t,(Q0 fs).getD b 0,rfl,⟨hT,p0,by omega,by omega⟩,?_⟩)
   all_goals(conv=>whnf)
   repeat' first|refine And.intro ?_ ?_|(intro h;try first|exact dz|replace h:=cv)
   all_goals(try first|omega|exact trivial|((with_reducible refine Apart.mk ?_);kernel_rfl)|((with_reducible show _=true);exact rfl))
   all_goals(try refine⟨fs,t,(Q0 fs).getD b 0,rfl,⟨hT,p0,by omega,by omega⟩,?_⟩)
   all_goals(conv=>whnf)
   all_goals(try exact Nat.le_of_ble_eq_true rfl)
   all_goals first|exact Exists.intro () (Q1 [2,1,3] (by exact rfl) ⟨.refl _,.refl _,.refl _,.refl _,.refl _,trivial⟩ ⟨⟨by decide,_,rfl,.refl _⟩,⟨by decide,.cells [Qw (Zh (Q0 fs) t ((Q0 fs).getD b 0).toNat).1] false,rfl,.refl _⟩,trivial⟩)|exact Exists.intro () (Q1 [2,1,4] (by exact rfl) ⟨.refl _,.refl _,.refl _,.refl _,.refl _,trivial⟩ ⟨⟨by decide,_,rfl,.refl _⟩,⟨by decide,.cells [Qw (Zh (Q0 fs) t ((Q0 fs).getD b 0).toNat).1] false,rfl,.refl _⟩,trivial⟩)|exact Exists.intro () (Q1 [2,1,5] (by exact rfl) ⟨.refl _,.refl _,.refl _,.refl _,.refl _,trivial⟩ ⟨⟨by decide,_,rfl,.refl _⟩,⟨by decide,.cells [Qw (Zh (Q0 fs) t ((Q0 fs).getD b 0).toNat).1] false,rfl,.refl _⟩,trivial⟩)
  ·generalize(Zh (Q0 fs) t ((Q0 fs).getD b 0).toNat)=q at *
   obtain⟨u,is⟩:=q
   dsimp only at hix ⊢
   cases is with
   |false=>
    repeat' first|refine And.intro ?_ ?_|(intro h;try first|exact dz|replace h:=cv)
    all_goals try exact cz
    exact⟨⟨[(8,.ptr 0 0 0),(9,.bool false)],[(0,some (.cells [Qw (.mk [] 0 [])] false))],1⟩,Q1 [0] (by exact rfl) ⟨.refl _,.refl _,trivial⟩ ⟨⟨by decide,_,rfl,ZU (row:=Qw (.mk [] 0 [])) ⟨.refl _,.refl _,.zero _ _ rfl,trivial⟩⟩,trivial⟩,_,rfl,[],V1 _,rfl,rfl⟩
   |true=>
    have hix:=hix rfl
    generalize hg:(Q0 fs).getD b 0=g at *
    have hidx:WC (Q0 fs) b=XW (Q0 fs) g (b-(g.toNat+1)) (g.toNat+1):=by unfold WC;rw[hg]
    repeat' first|refine And.intro ?_ ?_|(intro h;try first|exact dz|replace h:=cv)
    all_goals try exact cz
    refine⟨fun m s=>∃n i:Nat,(i≤b∧m=b-i∧n≤i∧n+XW (Q0 fs) g (b-i) i=WC (Q0 fs) b)∧s=leS fs b u n i,⟨_,leS fs b u 0 (g.toNat+1),?_,0,g.toNat+1,⟨by omega,rfl,by omega,by rw[hidx,Nat.zero_add]⟩,rfl⟩,?_⟩
    ·unfold leS
     exact Q1 [0,1,2] (by exact rfl) ⟨.refl _,.refl _,.refl _,.refl _,.refl _,Q8 (by show(Q0 fs).getD b 0+1=_;rw[hg];omega),trivial⟩ ⟨⟨by decide,_,rfl,.refl _⟩,⟨by decide,_,rfl,.refl _⟩,trivial⟩
    rintro m s ⟨n,i,⟨hi,rfl,hn,hc⟩,rfl⟩
    unfold leS
    by_cases h1:i<b
    ·obtain⟨k,hk⟩:∃k,b-i=k+1:=⟨b-i-1,by omega⟩
     rw[hk,XW]at hc
     by_cases h2:(Q0 fs).getD i 0=g
     ·rw[if_pos h2]at hc
      have hx1:=hg
      repeat' first|refine And.intro ?_ ?_|(intro h;try first|exact dzh|replace h:=cvh)
      all_goals try exact cz
      refine⟨_,leS fs b u (n+1) (i+1),?_,⟨n+1,i+1,⟨by omega,rfl,by omega,by rw[show b-(i+1)=k by omega];omega⟩,rfl⟩,by omega⟩
      unfold leS
      exact Q1 [0,1,2] (by exact rfl) ⟨.refl _,.refl _,.refl _,.refl _,Q8 (by first|rfl|omega),Q8 (by first|rfl|omega),trivial⟩ ⟨⟨by decide,_,rfl,.refl _⟩,⟨by decide,_,rfl,.refl _⟩,trivial⟩
     ·rw[if_neg h2]at hc
      have hx1:=hg
      repeat' first|refine And.intro ?_ ?_|(intro h;try first|exact dzh|replace h:=cvh)
      all_goals try exact cz
      refine⟨_,leS fs b u (n) (i+1),?_,⟨n,i+1,⟨by omega,rfl,by omega,by rw[show b-(i+1)=k by omega];omega⟩,rfl⟩,by omega⟩
      unfold leS
      exact Q1 [0,1,2] (by exact rfl) ⟨.refl _,.refl _,.refl _,.refl _,Q8 (by first|rfl|omega),Q8 (by first|rfl|omega),trivial⟩ ⟨⟨by decide,_,rfl,.refl _⟩,⟨by decide,_,rfl,.refl _⟩,trivial⟩
    ·have hib:i=b:=by omega
     rw[hib,Nat.sub_self,XW,Nat.add_zero]at hc
     subst hc
     have hrow:(u.kids.map fun x=>[AVal.vs 3 (x.map encT)]).getD (WC (Q0 fs) b) []=[.vs 3 ((u.kids.getD (WC (Q0 fs) b) []).map encT)]:=VB (fun x=>[AVal.vs 3 (List.map encT x)]) [] hix
     clear hn
     generalize WC (Q0 fs) b=n at *
     have hmap:(u.kids.map fun x=>[AVal.vs 3 (x.map encT)]).length=u.kids.length:=List.length_map ..
     have e5:(u.kids.map fun x=>[AVal.vs 3 (x.map encT)]).getD ((n:Nat):Int).toNat []=[.vs 3 ((u.kids.getD n []).map encT)]:=hrow
     have sB:isC true AVal.nils (((u.kids.map fun x=>[AVal.vs 3 (x.map encT)]).getD ((n:Nat):Int).toNat []).getD 0 .any)=true:=by rw[e5];rfl
     have hx1:=hrow
     by_cases hz:u.kids.getD n []=[]
     ·have hs2:Uk (u,true) n=(.mk [] 0 [],false):=by unfold Uk;rw[if_neg (by simp),if_pos hz]
      rw[hs2]
      rw[hz]at hx1
      repeat' first|refine And.intro ?_ ?_|(intro h;try first|exact dzh|replace h:=cvh)
      all_goals try exact cz
      all_goals(try exact sB)
      ·exact⟨⟨[(8,.ptr 0 0 0),(9,.bool false)],[(0,some (.cells [Qw (.mk [] 0 [])] false))],1⟩,Q1 [0] (by exact rfl) ⟨.refl _,.refl _,trivial⟩ ⟨⟨by decide,_,rfl,ZU (row:=Qw (.mk [] 0 [])) ⟨.refl _,.refl _,.zero _ _ rfl,trivial⟩⟩,trivial⟩,_,rfl,[],V1 _,rfl,rfl⟩
      ·exact absurd rfl h
     ·obtain⟨l0,lt,hl0⟩:∃l0 lt,u.kids.getD n []=l0::lt:=by
       cases h:u.kids.getD n []with
       |nil=>exact absurd h hz
       |cons a b=>exact⟨a,b,rfl⟩
      have hs2:Uk (u,true) n=(l0,true):=by unfold Uk;rw[if_neg (by simp),if_neg hz,hl0];rfl
      rw[hs2]
      have e6:encT l0=Qw l0:=by cases l0;exact QO _ _ _
      rw[hl0]at hx1 e5
      rw[List.map_cons,e6]at e5
      repeat' first|refine And.intro ?_ ?_|(intro h;try first|exact dzh|replace h:=cvh)
      all_goals try exact cz
      all_goals(try exact sB)
      ·exact absurd h (by show ¬((((lt.map encT).length+1:Nat):Int)=0);omega)
      ·conv=>whnf
       rw[e5]
       repeat' first|refine And.intro ?_ ?_|(intro h;try first|exact dzh|replace h:=cvh)
       all_goals try exact cz
       ·show(0:Int)<(((lt.map encT).length+1:Nat):Int)
        omega
       ·exact⟨⟨[(8,.ptr 0 0 0),(9,.bool true)],[(0,some (.cells [Qw l0] false))],1⟩,Q1 [0] (by exact rfl) ⟨.refl _,.refl _,trivial⟩ ⟨⟨by decide,_,rfl,.refl _⟩,trivial⟩,_,rfl,[],V1 _,rfl,rfl⟩
theorem Sa(a b c:AVal)(t:Tr)(ha:a.imm=true)(hb:b.imm=true)(hc:c.imm=true):Wb [a,b,c,.agg (Qw t)]=true:=by
 show(a.imm&&(b.imm&&(c.imm&&_)))=true
 rw[ha,hb,hc];rfl
theorem Gy[Syms]:∀N:Nat,Eb Tryz.prog 54 (DG N)
 |0=>by
  rintro args K ⟨fs,t,a,rfl,⟨h1,h2,h3,h4⟩,hk⟩
  omega
 |N+1=>by
  rintro args K ⟨fs,t,a,rfl,⟨h1,h2,h3,h4⟩,hk⟩
  have hc:(cLe N).det Tryz.prog:=GK (Gy N) Qd
  have hc':(cLe N).ok Tryz.prog:=Un (Gy N) Qh
  exact⟨Sa _ _ _ t rfl rfl rfl,_,rfl,hk,Xw.forget (Zw Qu Qs hc hc' QJ (Nw N fs t a h1 h2 h3 h4))⟩
end
end Go.Proofs.YtekipcaifckffaaGreat
