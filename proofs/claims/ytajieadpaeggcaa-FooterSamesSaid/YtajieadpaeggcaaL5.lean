/-
  'check':what is wrong with one field. 'Check':what is wrong with a shape.
-/
import Derived.Test.YtajieadpaeggcaaL4
import Derived.Test.YtajieadpaeggcaaL1
import Derived.Test.YtajieadpaeggcaaSxOne
set_option linter.unusedVariables false
set_option linter.unusedSimpArgs false
namespace Go.Proofs.Ytajieadpaeggcaa
open Go Go.Av
section
set_option maxRecDepth 100000
set_option maxHeartbeats 4000000
def S_name:SpecI:=fun args K=>∃s,args=[.str s]∧s.length≤1000∧K (.bool (WJ s))
theorem C3[Syms]:Zi Try.prog 113 S_name:=by
 rintro args K ⟨s,rfl,h,hk⟩
 exact⟨rfl,_,rfl,hk,fnI Qp Qq Q5 Qb QJ (NL s h)⟩
def S_twin:SpecI:=fun args K=>∃(fs:List Fd) (ps:List Int) (i:Nat),args=[vF fs,vI ps,.int .i64 i]∧(i<fs.length∧ps.length=fs.length∧fs.length<1000)∧K (.bool (JJ fs ps i))
theorem BI[Syms]:Zi Try.prog 114 S_twin:=by
 rintro args K ⟨fs,ps,i,rfl,⟨h1,h2,h3⟩,hk⟩
 exact⟨rfl,_,rfl,hk,fnI Qp Qq Q5 Qb QJ (Ny fs ps i h1 h2 h3)⟩
abbrev cCk:CallT:=Qe 113 (Xw S_name) (Qe 114 (Xw S_twin) Q9)
theorem Ou[Syms]:cCk.ok Try.prog:=Qm C3 (Qm BI Qb)
theorem N3[Syms]:cCk.det Try.prog:=Y2 C3 (Y2 BI Q5)
theorem LQ[Syms](fs:List Fd)(ps:List Int)(i:Nat)(dep:Int)(hi:i<fs.length)(hp:ps.length=fs.length)(hl:fs.length<1000)(hnl:(fs.getD i default).name.length≤1000):
 fnT cCk cCk (QN fns) (Qz tys) (QV plt) 100 101 [vF fs,vI ps,.int .i64 i,.int .i64 dep] [] 0 (fun v H _=>v= .int .i64 (Wa fs ps i dep)∧H=[]):=by
 generalize he:Wa fs ps i dep=e
 unfold Wa Iw at he
 cases hnm:WJ (fs.getD i default).name
 ·simp only[hnm,reduceCtorEq,or_true,or_false,true_or,false_or,if_true,if_false]at he
  refine .inl ?_
  repeat' first|refine And.intro ?_ ?_|(intro h;try first|exact dz|replace h:=cv)
  all_goals try exact cz
  all_goals(try(refine⟨_,Q4 [8] rfl,_,rfl,congrArg (AVal.int .i64) ?_,rfl⟩;(repeat'(split at he))<;>omega))
  all_goals(refine⟨(fs.getD i default).name,rfl,hnl,?_⟩;rw[hnm])
  all_goals
   repeat' first|refine And.intro ?_ ?_|(intro h;try first|exact dz|replace h:=cv)
   all_goals try exact cz
  all_goals(try(refine⟨_,Q4 [8] rfl,_,rfl,congrArg (AVal.int .i64) ?_,rfl⟩;(repeat'(split at he))<;>omega))
 cases htw:JJ fs ps i
 all_goals
  simp only[hnm,htw,reduceCtorEq,or_true,or_false,true_or,false_or,if_true,if_false]at he
  refine .inl ?_
  repeat' first|refine And.intro ?_ ?_|(intro h;try first|exact dz|replace h:=cv)
  all_goals try exact cz
 all_goals(try(refine⟨_,Q4 [8] rfl,_,rfl,congrArg (AVal.int .i64) ?_,rfl⟩;(repeat'(split at he))<;>omega))
 all_goals(refine⟨(fs.getD i default).name,rfl,hnl,?_⟩;rw[hnm])
 all_goals
  repeat' first|refine And.intro ?_ ?_|(intro h;try first|exact dz|replace h:=cv)
  all_goals try exact cz
 all_goals(try(refine⟨_,Q4 [8] rfl,_,rfl,congrArg (AVal.int .i64) ?_,rfl⟩;(repeat'(split at he))<;>omega))
 all_goals(refine⟨fs,ps,i,rfl,⟨hi,hp,hl⟩,?_⟩;rw[htw])
 all_goals
  repeat' first|refine And.intro ?_ ?_|(intro h;try first|exact dz|replace h:=cv)
  all_goals try exact cz
 all_goals(try have q0:(fs.getD i default).rep<0:=by assumption)
 all_goals(try have q1:0≤(fs.getD i default).rep:=by assumption)
 all_goals(try have q2:2<(fs.getD i default).rep:=by assumption)
 all_goals(try have q3:(fs.getD i default).rep≤2:=by assumption)
 all_goals(try have q4:(fs.getD i default).kind<0:=by assumption)
 all_goals(try have q5:0≤(fs.getD i default).kind:=by assumption)
 all_goals(try have q6:4<(fs.getD i default).kind:=by assumption)
 all_goals(try have q7:(fs.getD i default).kind≤4:=by assumption)
 all_goals(try have q8:(fs.getD i default).rep=0:=by assumption)
 all_goals(try have q9:¬(fs.getD i default).rep=0:=by assumption)
 all_goals(try have q10:(fs.getD i default).kind=0:=by assumption)
 all_goals(try have q11:¬(fs.getD i default).kind=0:=by assumption)
 all_goals(try have q12:(fs.getD i default).kids<1:=by assumption)
 all_goals(try have q13:1≤(fs.getD i default).kids:=by assumption)
 all_goals(try have q14:(fs.getD i default).kids=0:=by assumption)
 all_goals(try have q15:¬(fs.getD i default).kids=0:=by assumption)
 all_goals(try(refine⟨_,Q4 [8] rfl,_,rfl,congrArg (AVal.int .i64) ?_,rfl⟩;(repeat'(split at he))<;>omega))
def S_check1:SpecI:=fun args K=>∃(fs:List Fd) (ps:List Int) (i:Nat) (dep:Int),args=[vF fs,vI ps,.int .i64 i,.int .i64 dep]∧(i<fs.length∧ps.length=fs.length∧fs.length<1000∧(fs.getD i default).name.length≤1000)∧K (.int .i64 (Wa fs ps i dep))
theorem Er[Syms]:Zi Try.prog 101 S_check1:=by
 rintro args K ⟨fs,ps,i,dep,rfl,⟨h1,h2,h3,h4⟩,hk⟩
 exact⟨rfl,_,rfl,hk,fnI Qp Qq N3 Ou QJ (LQ fs ps i dep h1 h2 h3 h4)⟩
end
section
set_option maxRecDepth 100000
set_option maxHeartbeats 4000000
abbrev c36:CallT:=Qe 101 (Xw S_check1) Q9
theorem Ow[Syms]:c36.ok Try.prog:=Qm Er Qb
abbrev P2[Syms]:CallT:=Qe 94 (tB Q9 (Qe 100 (tB Q9 c36) Q9)) (Qe 73 (Xw S_par) Q9)
theorem N4[Syms]:P2.ok Try.prog:=Xi (Xz Qp Qq Q5 (Xi (Xz Qp Qq Q5 Ow QJ) Qb) QJ) (Qm Hm Qb)
abbrev OQ:AVal:=.func 100 [.ptr 0 0 0,.ptr 2 0 0,.ptr 1 0 0]
def ckE(fs:List Fd)(i:Nat)(l:AVal):Env:=[(0,vF fs),(1,OQ),(4,.bool false),(5,l),(12,vF fs),(13,.int .i64 fs.length),(14,.int .i64 i)]
def ckA(fs:List Fd)(i:Nat):St:=⟨ckE fs i .nils,[(0,some (.cells [[vF fs]] false)),(1,some (.cells [[.int .i64 0]] false)),(2,some (.cells [[vI (Qu fs)]] false))],4⟩
def ckC(fs:List Fd)(i:Nat)(st:Stk)(junk:List (List AVal)):St:=⟨ckE fs i (.slice 4 0 st.length 2 none),[(0,some (.cells [[vF fs]] false)),(1,some (.cells [[.int .i64 0]] false)),(2,some (.cells [[vI (Qu fs)]] false)),(4,some (.cells (st.reverse.map encG++junk) false))],5⟩
def ckI(fs:List Fd)(i m:Nat)(R:List (List AVal)):St:=⟨[(0,vF fs),(1,OQ),(4,.bool false),(5,.slice 4 0 m 2 none),(6,.int .i64 i),(7,.ptr 5 0 0),(12,vF fs),(13,.int .i64 fs.length),(14,.int .i64 i)],[(0,some (.cells [[vF fs]] false)),(1,some (.cells [[.int .i64 0]] false)),(2,some (.cells [[vI (Qu fs)]] false)),(4,some (.cells R false)),(5,some (.cells [encF (fs.getD i default)] false))],6⟩
def ckJ(fs:List Fd)(j:Nat)(st:Stk)(R:List (List AVal))(b:Bool):St:=⟨[(4,.bool b),(74,.slice 4 0 st.length 2 none),(75,.int .i64 st.length),(76,.int .i64 j)],[(0,some (.cells [[vF fs]] false)),(1,some (.cells [[.int .i64 0]] false)),(2,some (.cells [[vI (Qu fs)]] false)),(4,some (.cells R false))],5⟩
theorem Gt[Syms]{N:Nat}{e:Env}{H:Heap}{nx:Nat}{x:Int}(h2:e.get 2= .ptr 1 0 0)(hb:H.get 1=some (.cells [[.int .i64 x]] false)):Reb 0 N ⟨e,H,nx⟩ ⟨[(2,.vp [.int .i64 x] 0)],[],nx⟩:=
 ZS (n:=1) (rows:=[[.int .i64 x]]) hb (fun q hq y hy=>by simp at hq;subst hq;simp at hy;subst hy;rfl) ⟨by rw[h2];exact .pt 0 0 _ [.int .i64 x] rfl ⟨.same _,trivial⟩,trivial⟩ trivial
theorem QY{a b:Bool}(h:a=b):WkV (.bool a) (.bool b):=h▸ .refl _
def ckR(fs:List Fd)(i:Nat)(e:Int):St:=⟨[(9,.bool (decide (e=0)))],[(0,some (.cells [[vF fs]] false)),(1,some (.cells [[.int .i64 e]] false)),(2,some (.cells [[vI (Qu fs)]] false)),(4,some (.cells [encF (fs.getD i default)] false))],6⟩
def LO(fs:List Fd)(i n:Nat)(e:Int)(R:List (List AVal)):St:=⟨[(9,.bool (decide (e=0)))],[(0,some (.cells [[vF fs]] false)),(1,some (.cells [[.int .i64 e]] false)),(2,some (.cells [[vI (Qu fs)]] false)),(4,some (.cells R false)),(5,some (.cells [encF (fs.getD i default)] false))],n⟩
theorem G9{l:Stk}{j:Nat}(h:j<l.length):YB (l.take (j+1))=(YB (l.take j)||decide (0<(l.getD j default).2)):=by
 rw[List.take_succ_eq_append_getElem h,YB,YB,List.any_append]
 simp[List.getD_eq_getElem?_getD,h]
theorem Do{fs:List Fd}{i:Nat}{st:Stk}(h:i<fs.length)(hw:Xo (fs.drop i) i st=(Xo fs 0 []).drop i):(XW fs).getD i 0=((Zr st).length:Int)∧Xo (fs.drop (i+1)) (i+1) (Zo i (fs.getD i default) (Yf (Zr st)))=(Xo fs 0 []).drop (i+1):=by
 have hl:i<(Xo fs 0 []).length:=by rw[Wi];exact h
 rw[BE h,List.drop_eq_getElem_cons hl]at hw
 injection hw with h1 h2
 refine⟨?_,h2⟩
 rw[XW,List.getD_eq_getElem?_getD,List.getElem?_map,List.getElem?_eq_getElem hl,←h1];rfl
theorem BH{fs:List Fd}{i:Nat}{st:Stk}(h:i<fs.length):WT (fs.drop i) i st=WT (fs.drop (i+1)) (i+1) (Zo i (fs.getD i default) (Yf (Zr st))):=by
 rw[Fl h];rfl
theorem NC[Syms](fs:List Fd)(hF:FsOk fs):
 fnT Q9 P2 (QN fns) (Qz tys) (QV plt) 100 83 [vF fs] [] 0 (fun v H _=>v= .int .i64 (Z8 fs)∧H=[]):=by
 have hl:=hF.len
 by_cases hn:fs.length<1∨40<fs.length
 ·have he:Z8 fs=4:=by rw[Z8,if_pos hn]
  rw[he]
  repeat' first|refine And.intro ?_ ?_|(intro h;try first|exact dz|replace h:=cv)
  all_goals try exact cz
  all_goals exact⟨_,Gt rfl rfl,_,rfl,rfl,rfl⟩
 have hk:=hF.kids
 have hpl:=W5 fs
 have hlast:Z8 fs=if ZJ fs 0 fs.length≠0 then ZJ fs 0 fs.length else if YB (WT fs 0 [])=true then 1 else 0:=by rw[Z8,if_neg hn]
 repeat' first|refine And.intro ?_ ?_|(intro h;try first|exact dz|replace h:=cv)
 all_goals try exact cz
 refine⟨fs,rfl,hF,?_⟩
 repeat' first|refine And.intro ?_ ?_|(intro h;try first|exact dz|replace h:=cv)
 all_goals try exact cz
 refine⟨fun n s=>∃(i:Nat) (st:Stk),(i≤fs.length∧n=fs.length-i∧ZJ fs i (fs.length-i)=ZJ fs 0 fs.length∧Xo (fs.drop i) i st=(Xo fs 0 []).drop i∧WT (fs.drop i) i st=WT fs 0 []∧(∀p∈st,p.2≤9223372036854775807)∧st.length≤i)∧((st=[]∧s=ckA fs i)∨(∃junk,Qj junk∧s=ckC fs i st junk)),
  ⟨_,ckA fs 0,Q0 [0,1,2,3] rfl ?_ ?_,0,[],⟨by omega,rfl,rfl,rfl,rfl,by simp,by simp⟩,.inl ⟨rfl,rfl⟩⟩,?_⟩
 ·exact⟨.refl _,.refl _,.refl _,.refl _,.refl _,.refl _,.refl _,trivial⟩
 ·exact⟨⟨by decide,_,rfl,.refl _⟩,⟨by decide,_,rfl,.refl _⟩,⟨by decide,_,rfl,.refl _⟩,trivial⟩
 rintro n s ⟨i,st,⟨hi,rfl,hc,hw,hfin,hb,hsl⟩,(⟨rfl,rfl⟩|⟨junk,hj,rfl⟩)⟩
 ·by_cases hin:i<fs.length
  ·have hnm:=hF.name i
   obtain⟨hd,hw'⟩:=Do hin hw
   rw[BH hin]at hfin
   rw[K2 hin]at hc
   have hdd:((Zr []).length:Int)=0:=rfl
   rw[hdd]at hd
   rw[hd]at hc
   have hps:Zr []=([]:Stk):=rfl
   rw[hps]at hw' hfin
   repeat' first|refine And.intro ?_ ?_|(intro h;try first|exact dz|replace h:=cv)
   all_goals try exact cz
   refine X1 ?_
   repeat' first|refine And.intro ?_ ?_|(intro h;try first|exact dz|replace h:=cv)
   all_goals try exact cz
   refine⟨fs,Qu fs,i,0,rfl,⟨hin,hpl,hl,hnm⟩,?_⟩
   generalize hz:Wa fs (Qu fs) i 0=e at *
   by_cases he:e=0
   ·rw[if_neg (fun h=>h he)]at hc
    subst he
    repeat' first|refine And.intro ?_ ?_|(intro h;try first|exact dz|replace h:=cv)
    all_goals try exact cz
    all_goals refine⟨ckR fs i 0,Q0 [0,1,2,3,4,5] rfl ⟨.refl _,trivial⟩ ⟨⟨by decide,_,rfl,.refl _⟩,⟨by decide,_,rfl,.refl _⟩,⟨by decide,_,rfl,.refl _⟩,⟨by decide,_,rfl,.refl _⟩,trivial⟩,_,rfl,?_⟩
    by_cases hg:(fs.getD i default).kind=0
    · repeat' first|refine And.intro ?_ ?_|(intro h;try first|exact dz|replace h:=cv)
      all_goals try exact cz
      have hpu:Zo i (fs.getD i default) (Yf [])=[((i:Int),(fs.getD i default).kids)]:=by rw[Zo,if_pos hg];rfl
      rw[hpu]at hw' hfin
      refine⟨_,ckC fs (i+1) [((i:Int),(fs.getD i default).kids)] [],Q0 [0,1,2,3,7] (by first|rfl|kernel_rfl) ⟨.refl _,.refl _,.refl _,.refl _,.refl _,.refl _,.refl _,trivial⟩ ⟨⟨by decide,_,rfl,.refl _⟩,⟨by decide,_,rfl,.refl _⟩,⟨by decide,_,rfl,.refl _⟩,⟨by decide,_,rfl,Q1 rfl (Qr (fG _) QS)⟩,trivial⟩,⟨i+1,_,⟨by omega,rfl,hc,hw',hfin,?_,by simp⟩,.inr ⟨[],QS,rfl⟩⟩,by omega⟩
      intro p hp;simp at hp;subst hp;exact hk i
    · repeat' first|refine And.intro ?_ ?_|(intro h;try first|exact dz|replace h:=cv)
      all_goals try exact cz
      have hpu:Zo i (fs.getD i default) (Yf [])=[]:=by rw[Zo,if_neg hg];rfl
      rw[hpu]at hw' hfin
      exact⟨_,ckA fs (i+1),Q0 [0,1,2,3] (by first|rfl|kernel_rfl) ⟨.refl _,.refl _,.refl _,.refl _,.refl _,.refl _,.refl _,trivial⟩ ⟨⟨by decide,_,rfl,.refl _⟩,⟨by decide,_,rfl,.refl _⟩,⟨by decide,_,rfl,.refl _⟩,trivial⟩,⟨i+1,[],⟨by omega,rfl,hc,hw',hfin,by simp,by simp⟩,.inl ⟨rfl,rfl⟩⟩,by omega⟩
   ·rw[if_pos he]at hc
    repeat' first|refine And.intro ?_ ?_|(intro h;try first|exact dz|replace h:=cv)
    all_goals try exact cz
    all_goals refine⟨ckR fs i e,Q0 [0,1,2,3,4,5] rfl ⟨.refl _,trivial⟩ ⟨⟨by decide,_,rfl,.refl _⟩,⟨by decide,_,rfl,.refl _⟩,⟨by decide,_,rfl,.refl _⟩,⟨by decide,_,rfl,.refl _⟩,trivial⟩,_,rfl,?_⟩
    repeat' first|refine And.intro ?_ ?_|(intro h;try first|exact dz|replace h:=cv)
    all_goals try exact cz
    refine⟨_,.refl _ _ _,_,rfl,?_⟩
    repeat' first|refine And.intro ?_ ?_|(intro h;try first|exact dz|replace h:=cv)
    all_goals try exact cz
    rw[if_pos (by rw[←hc];exact he),←hc]at hlast
    rw[hlast]
    exact⟨_,Gt rfl rfl,_,rfl,rfl,rfl⟩
  ·obtain rfl:i=fs.length:=by omega
   rw[List.drop_of_length_le (Nat.le_refl _)]at hfin
   have hc0:ZJ fs 0 fs.length=0:=by rw[←hc,Nat.sub_self];rfl
   have hop:YB (WT fs 0 [])=false:=by rw[←hfin];rfl
   rw[hc0,hop]at hlast
   rw[show Z8 fs=0 from hlast]
   repeat' first|refine And.intro ?_ ?_|(intro h;try first|exact dz|replace h:=cv)
   all_goals try exact cz
   refine X1 ?_
   repeat' first|refine And.intro ?_ ?_|(intro h;try first|exact dz|replace h:=cv)
   all_goals try exact cz
   refine⟨_,.refl _ _ _,_,rfl,?_⟩
   repeat' first|refine And.intro ?_ ?_|(intro h;try first|exact dz|replace h:=cv)
   all_goals try exact cz
   exact⟨_,Gt rfl rfl,_,rfl,rfl,rfl⟩
 ·by_cases hin:i<fs.length
  ·have hnm:=hF.name i
   obtain⟨hd,hw'⟩:=Do hin hw
   rw[BH hin]at hfin
   rw[K2 hin,hd]at hc
   repeat' first|refine And.intro ?_ ?_|(intro h;try first|exact dz|replace h:=cv)
   all_goals try exact cz
   refine⟨fun n s=>∃(st1:Stk) (junk1:List (List AVal)) (m:Nat),(n=m∧m=st1.length∧Zr st1=Zr st∧st1.reverse.map encG++junk1=st.reverse.map encG++junk∧Qj junk1∧(∀p∈st1,p.2≤9223372036854775807)∧st1.length≤st.length)∧s=ckI fs i m (st.reverse.map encG++junk),⟨_,ckI fs i st.length (st.reverse.map encG++junk),Q0 [0,1,2,3,4,5] (by first|rfl|kernel_rfl) ⟨.refl _,.refl _,.refl _,.refl _,.refl _,.refl _,.refl _,.refl _,.refl _,trivial⟩ ⟨⟨by decide,_,rfl,.refl _⟩,⟨by decide,_,rfl,.refl _⟩,⟨by decide,_,rfl,.refl _⟩,⟨by decide,_,rfl,Qd (Qr (fG _) hj)⟩,⟨by decide,_,rfl,.refl _⟩,trivial⟩,st,junk,st.length,⟨rfl,rfl,rfl,rfl,hj,hb,Nat.le_refl _⟩,rfl⟩,?_⟩
   rintro n s ⟨st1,junk1,m,⟨rfl,hm,hp1,hR,hj1,hb1,hl1⟩,rfl⟩
   generalize st.reverse.map encG++junk=R at hR ⊢
   cases st1 with
   |nil=>
    obtain rfl:n=0:=hm
    have hst:Zr st=[]:=hp1.symm
    have hRf:Qj R:=hR▸Qr (fG []) hj1
    have hdd:((Zr st).length:Int)=0:=by rw[hst];rfl
    rw[hdd]at hc
    rw[hst]at hw' hfin
    repeat' first|refine And.intro ?_ ?_|(intro h;try first|exact dz|replace h:=cv)
    all_goals try exact cz
    refine⟨fs,Qu fs,i,0,rfl,⟨hin,hpl,hl,hnm⟩,?_⟩
    generalize hz:Wa fs (Qu fs) i 0=e at *
    by_cases he:e=0
    ·rw[if_neg (fun h=>h he)]at hc
     subst he
     repeat' first|refine And.intro ?_ ?_|(intro h;try first|exact dz|replace h:=cv)
     all_goals try exact cz
     refine⟨LO fs i 6 0 R,Q0 [0,1,2,3,4,5] (by first|rfl|kernel_rfl) ⟨.refl _,trivial⟩ ⟨⟨by decide,_,rfl,.refl _⟩,⟨by decide,_,rfl,.refl _⟩,⟨by decide,_,rfl,.refl _⟩,⟨by decide,_,rfl,Qd hRf⟩,⟨by decide,_,rfl,.refl _⟩,trivial⟩,_,rfl,?_⟩
     by_cases hg:(fs.getD i default).kind=0
     · repeat' first|refine And.intro ?_ ?_|(intro h;try first|exact dz|replace h:=cv)
       all_goals try exact cz
       have hpu:Zo i (fs.getD i default) (Yf [])=[((i:Int),(fs.getD i default).kids)]:=by rw[Zo,if_pos hg];rfl
       rw[hpu]at hw' hfin
       refine⟨_,ckC fs (i+1) [((i:Int),(fs.getD i default).kids)] [],Q0 [0,1,2,3,7] (by first|rfl|kernel_rfl) ⟨.refl _,.refl _,.refl _,.refl _,.refl _,.refl _,.refl _,trivial⟩ ⟨⟨by decide,_,rfl,.refl _⟩,⟨by decide,_,rfl,.refl _⟩,⟨by decide,_,rfl,.refl _⟩,⟨by decide,_,rfl,Q1 rfl (Qr (fG _) QS)⟩,trivial⟩,⟨i+1,_,⟨by omega,rfl,hc,hw',hfin,?_,by simp⟩,.inr ⟨[],QS,rfl⟩⟩,by omega⟩
       intro p hp;simp at hp;subst hp;exact hk i
     · repeat' first|refine And.intro ?_ ?_|(intro h;try first|exact dz|replace h:=cv)
       all_goals try exact cz
       have hpu:Zo i (fs.getD i default) (Yf [])=[]:=by rw[Zo,if_neg hg];rfl
       rw[hpu]at hw' hfin
       exact⟨_,ckC fs (i+1) [] R,Q0 [0,1,2,3,4] (by first|rfl|kernel_rfl) ⟨.refl _,.refl _,.refl _,.refl _,.refl _,.refl _,.refl _,trivial⟩ ⟨⟨by decide,_,rfl,.refl _⟩,⟨by decide,_,rfl,.refl _⟩,⟨by decide,_,rfl,.refl _⟩,⟨by decide,_,rfl,Q1 rfl (Qr (fG []) hRf)⟩,trivial⟩,⟨i+1,[],⟨by omega,rfl,hc,hw',hfin,by simp,by simp⟩,.inr ⟨R,hRf,rfl⟩⟩,by omega⟩
    ·rw[if_pos he]at hc
     repeat' first|refine And.intro ?_ ?_|(intro h;try first|exact dz|replace h:=cv)
     all_goals try exact cz
     refine⟨LO fs i 6 e R,Q0 [0,1,2,3,4,5] (by first|rfl|kernel_rfl) ⟨.refl _,trivial⟩ ⟨⟨by decide,_,rfl,.refl _⟩,⟨by decide,_,rfl,.refl _⟩,⟨by decide,_,rfl,.refl _⟩,⟨by decide,_,rfl,Qd hRf⟩,⟨by decide,_,rfl,.refl _⟩,trivial⟩,_,rfl,?_⟩
     repeat' first|refine And.intro ?_ ?_|(intro h;try first|exact dz|replace h:=cv)
     all_goals try exact cz
     refine⟨_,.refl _ _ _,_,rfl,?_⟩
     repeat' first|refine And.intro ?_ ?_|(intro h;try first|exact dz|replace h:=cv)
     all_goals try exact cz
     rw[if_pos (by rw[←hc];exact he),←hc]at hlast
     rw[hlast]
     exact⟨_,Gt rfl rfl,_,rfl,rfl,rfl⟩
   |cons q t=>
    obtain⟨a,k⟩:=q
    obtain rfl:n=t.length+1:=hm
    have hx0:0+((↑(t.length+1):Int)-1).toNat=t.length:=by omega
    have hx1:((↑(t.length+1):Int)-1).toNat=t.length:=by omega
    have hx2:R.getD t.length []=encG (a,k):=by rw[←hR];simp[List.getElem?_append,List.getElem?_map]
    have hRl:t.length<R.length:=by rw[←hR];simp
    have hRf:Qj R:=hR▸Qr (fG _) hj1
    have hkb:k≤9223372036854775807:=hb1 (a,k) (List.mem_cons_self ..)
    have htl:t.length+1≤st.length:=hl1
    have hset:∀x,R.set t.length (encG x)=(x::t).reverse.map encG++junk1:=fun x=>by rw[←hR];simp[List.set_append]
    have hv1:asI ((encG (a,k)).getD 1 AVal.any)=k:=rfl
    have hspl:Qy (encG (a,k)) (0+1) [.int .i64 (asI ((encG (a,k)).getD (0+1) .any)-1)]=encG (a,k-1):=rfl
    by_cases hk0:k≤0
    · repeat' first|refine And.intro ?_ ?_|(intro h;(try first|replace h:=of_decide_eq_true h|replace h:=of_decide_eq_false h);(try simp only[sg,hx1,hx2]at h);(try simp only[sx,↓reduceIte,Nat.reduceAdd,reduceCtorEq,Int.reduceLT,Int.reduceLE,Int.reduceSub,Nat.reduceEqDiff,Nat.reduceLT]at h);try exact nz h)
      all_goals try exact cz
      all_goals(try(rw[hx0,hx2];exact rfl))
      refine⟨t.length,ckI fs i t.length R,Q0 [0,1,2,3,4,5] (by first|rfl|kernel_rfl) ⟨.refl _,.refl _,.refl _,?_,.refl _,.refl _,.refl _,.refl _,.refl _,trivial⟩ ⟨⟨by decide,_,rfl,.refl _⟩,⟨by decide,_,rfl,.refl _⟩,⟨by decide,_,rfl,.refl _⟩,⟨by decide,_,rfl,Qd hRf⟩,⟨by decide,_,rfl,.refl _⟩,trivial⟩,⟨t,encG (a,k)::junk1,t.length,⟨rfl,rfl,?_,?_,?_,fun p hp=>hb1 p (List.mem_cons_of_mem _ hp),by omega⟩,rfl⟩,by omega⟩
      ·show WkV (.slice 4 (0+0) (((↑(t.length+1):Int)-1).toNat-0) 2 none) _
       rw[hx1]
       exact .refl _
      ·rw[←hp1,Zr,if_pos hk0]
      ·rw[←hR];simp
      ·exact Y7 (fun x hx=>by simp[encG]at hx;rcases hx with rfl|rfl<;>rfl) hj1
    ·have hpz:Zr st=(a,k)::t:=by rw[←hp1,Zr,if_neg hk0]
     have hdd:((Zr st).length:Int)=(t.length+1:Nat):=by rw[hpz];rfl
     rw[hdd]at hc
     rw[hpz]at hw' hfin
     repeat' first|refine And.intro ?_ ?_|(intro h;(try first|replace h:=of_decide_eq_true h|replace h:=of_decide_eq_false h);(try simp only[sg,hx1,hx2]at h);(try simp only[sx,↓reduceIte,Nat.reduceAdd,reduceCtorEq,Int.reduceLT,Int.reduceLE,Int.reduceSub,Nat.reduceEqDiff,Nat.reduceLT]at h);try exact nz h)
     all_goals try exact cz
     all_goals(try(rw[hx0,hx2];first|exact rfl|exact Nat.le_of_ble_eq_true rfl|(show(-9223372036854775808:Int)≤k-1;omega)|(show k-1≤(9223372036854775807:Int);omega)))
     refine⟨fs,Qu fs,i,(t.length+1:Nat),rfl,⟨hin,hpl,hl,hnm⟩,?_⟩
     have hR2:R.set (0+((↑(t.length+1):Int)-1).toNat) (Qy (R.getD (0+((↑(t.length+1):Int)-1).toNat) []) (0+1) [.int .i64 (asI ((R.getD (0+((↑(t.length+1):Int)-1).toNat) []).getD (0+1) .any)-1)])=((a,k-1)::t).reverse.map encG++junk1:=by rw[hx0,hx2,hspl,hset]
     generalize hz:Wa fs (Qu fs) i (t.length+1:Nat)=e at *
     by_cases he:e=0
     ·rw[if_neg (fun h=>h he)]at hc
      subst he
      repeat' first|refine And.intro ?_ ?_|(intro h;(try first|replace h:=of_decide_eq_true h|replace h:=of_decide_eq_false h);(try simp only[sg,hx1,hx2]at h);(try simp only[sx,↓reduceIte,Nat.reduceAdd,reduceCtorEq,Int.reduceLT,Int.reduceLE,Int.reduceSub,Nat.reduceEqDiff,Nat.reduceLT]at h);try exact nz h)
      all_goals try exact cz
      refine⟨LO fs i 7 0 (((a,k-1)::t).reverse.map encG++junk1),Q0 [0,1,2,3,4,5,6] (by first|rfl|kernel_rfl) ⟨.refl _,trivial⟩ ⟨⟨by decide,_,rfl,.refl _⟩,⟨by decide,_,rfl,.refl _⟩,⟨by decide,_,rfl,.refl _⟩,⟨by decide,_,rfl,Q1 hR2 (Qr (fG _) hj1)⟩,⟨by decide,_,rfl,.refl _⟩,trivial⟩,_,rfl,?_⟩
      by_cases hg:(fs.getD i default).kind=0
      · repeat' first|refine And.intro ?_ ?_|(intro h;(try first|replace h:=of_decide_eq_true h|replace h:=of_decide_eq_false h);(try simp only[sg,hx1,hx2]at h);(try simp only[sx,↓reduceIte,Nat.reduceAdd,reduceCtorEq,Int.reduceLT,Int.reduceLE,Int.reduceSub,Nat.reduceEqDiff,Nat.reduceLT]at h);try exact nz h)
        all_goals try exact cz
        ·show 0+(t.length+1)≤_
         simp
        have hpu:Zo i (fs.getD i default) (Yf ((a,k)::t))=((i:Int),(fs.getD i default).kids)::(a,k-1)::t:=by rw[Zo,if_pos hg];rfl
        rw[hpu]at hw' hfin
        refine⟨_,ckC fs (i+1) (((i:Int),(fs.getD i default).kids)::(a,k-1)::t) [],Q0 [0,1,2,3,8] (by first|rfl|kernel_rfl) ⟨.refl _,.refl _,.refl _,.refl _,.refl _,.refl _,.refl _,trivial⟩ ⟨⟨by decide,_,rfl,.refl _⟩,⟨by decide,_,rfl,.refl _⟩,⟨by decide,_,rfl,.refl _⟩,⟨by decide,_,rfl,Q1 ?_ (Qr (fG _) QS)⟩,trivial⟩,⟨i+1,_,⟨by omega,rfl,hc,hw',hfin,?_,by simp;omega⟩,.inr ⟨[],QS,rfl⟩⟩,by omega⟩
        ·show List.take (t.length+1) (List.drop 0 (((a,k-1)::t).reverse.map encG++junk1))++[encG (i,(fs.getD i default).kids)]=_
         have htk:List.take (t.length+1) (((a,k-1)::t).reverse.map encG++junk1)=((a,k-1)::t).reverse.map encG:=by
          rw[show t.length+1=(((a,k-1)::t).reverse.map encG).length by simp];exact List.take_left
         rw[List.drop_zero,htk]
         simp
        ·intro p hp
         simp at hp
         rcases hp with rfl|rfl|hp
         ·exact hk i
         ·show k-1≤_;omega
         ·exact hb1 p (List.mem_cons_of_mem _ hp)
      · repeat' first|refine And.intro ?_ ?_|(intro h;(try first|replace h:=of_decide_eq_true h|replace h:=of_decide_eq_false h);(try simp only[sg,hx1,hx2]at h);(try simp only[sx,↓reduceIte,Nat.reduceAdd,reduceCtorEq,Int.reduceLT,Int.reduceLE,Int.reduceSub,Nat.reduceEqDiff,Nat.reduceLT]at h);try exact nz h)
        all_goals try exact cz
        have hpu:Zo i (fs.getD i default) (Yf ((a,k)::t))=(a,k-1)::t:=by rw[Zo,if_neg hg];rfl
        rw[hpu]at hw' hfin
        refine⟨_,ckC fs (i+1) ((a,k-1)::t) junk1,Q0 [0,1,2,3,4] (by first|rfl|kernel_rfl) ⟨.refl _,.refl _,.refl _,.refl _,.refl _,.refl _,.refl _,trivial⟩ ⟨⟨by decide,_,rfl,.refl _⟩,⟨by decide,_,rfl,.refl _⟩,⟨by decide,_,rfl,.refl _⟩,⟨by decide,_,rfl,Q1 rfl (Qr (fG _) hj1)⟩,trivial⟩,⟨i+1,_,⟨by omega,rfl,hc,hw',hfin,?_,by simp;omega⟩,.inr ⟨junk1,hj1,rfl⟩⟩,by omega⟩
        intro p hp
        simp at hp
        rcases hp with rfl|hp
        ·show k-1≤_;omega
        ·exact hb1 p (List.mem_cons_of_mem _ hp)
     ·rw[if_pos he]at hc
      repeat' first|refine And.intro ?_ ?_|(intro h;(try first|replace h:=of_decide_eq_true h|replace h:=of_decide_eq_false h);(try simp only[sg,hx1,hx2]at h);(try simp only[sx,↓reduceIte,Nat.reduceAdd,reduceCtorEq,Int.reduceLT,Int.reduceLE,Int.reduceSub,Nat.reduceEqDiff,Nat.reduceLT]at h);try exact nz h)
      all_goals try exact cz
      refine⟨LO fs i 7 e (((a,k-1)::t).reverse.map encG++junk1),Q0 [0,1,2,3,4,5,6] (by first|rfl|kernel_rfl) ⟨.refl _,trivial⟩ ⟨⟨by decide,_,rfl,.refl _⟩,⟨by decide,_,rfl,.refl _⟩,⟨by decide,_,rfl,.refl _⟩,⟨by decide,_,rfl,Q1 hR2 (Qr (fG _) hj1)⟩,⟨by decide,_,rfl,.refl _⟩,trivial⟩,_,rfl,?_⟩
      repeat' first|refine And.intro ?_ ?_|(intro h;(try first|replace h:=of_decide_eq_true h|replace h:=of_decide_eq_false h);(try simp only[sg,hx1,hx2]at h);(try simp only[sx,↓reduceIte,Nat.reduceAdd,reduceCtorEq,Int.reduceLT,Int.reduceLE,Int.reduceSub,Nat.reduceEqDiff,Nat.reduceLT]at h);try exact nz h)
      all_goals try exact cz
      refine⟨_,.refl _ _ _,_,rfl,?_⟩
      repeat' first|refine And.intro ?_ ?_|(intro h;(try first|replace h:=of_decide_eq_true h|replace h:=of_decide_eq_false h);(try simp only[sg,hx1,hx2]at h);(try simp only[sx,↓reduceIte,Nat.reduceAdd,reduceCtorEq,Int.reduceLT,Int.reduceLE,Int.reduceSub,Nat.reduceEqDiff,Nat.reduceLT]at h);try exact nz h)
      all_goals try exact cz
      rw[if_pos (by rw[←hc];exact he),←hc]at hlast
      rw[hlast]
      exact⟨_,Gt rfl rfl,_,rfl,rfl,rfl⟩
  ·obtain rfl:i=fs.length:=by omega
   rw[List.drop_of_length_le (Nat.le_refl _)]at hfin
   have hc0:ZJ fs 0 fs.length=0:=by rw[←hc,Nat.sub_self];rfl
   have hop:YB (WT fs 0 [])=YB st:=by rw[←hfin];rfl
   rw[hc0,hop]at hlast
   repeat' first|refine And.intro ?_ ?_|(intro h;try first|exact dz|replace h:=cv)
   all_goals try exact cz
   generalize hR:st.reverse.map encG++junk=R
   have hRl:st.length≤R.length:=by rw[←hR];simp
   have hRf:Qj R:=hR▸Qr (fG _) hj
   have hx2:∀j,j<st.length→R.getD j []=encG (st.reverse.getD j default):=fun j h=>by
    have h':j<(st.reverse.map encG).length:=by simp;omega
    rw[←hR,List.getD_eq_getElem?_getD,List.getElem?_append_left h',←List.getD_eq_getElem?_getD]
    exact Vi encG default (by simp;omega)
   refine⟨fun n s=>∃(j:Nat) (b:Bool),(j≤st.length∧n=st.length-j∧b=YB (st.reverse.take j))∧s=ckJ fs j st R b,⟨_,ckJ fs 0 st R false,Q0 [0,1,2,3,4] (by first|rfl|kernel_rfl) ⟨.refl _,.refl _,.refl _,.refl _,trivial⟩ ⟨⟨by decide,_,rfl,.refl _⟩,⟨by decide,_,rfl,.refl _⟩,⟨by decide,_,rfl,.refl _⟩,⟨by decide,_,rfl,Qd hRf⟩,trivial⟩,0,false,⟨by omega,rfl,rfl⟩,rfl⟩,?_⟩
   rintro n s ⟨j,b,⟨hj0,rfl,hb0⟩,rfl⟩
   by_cases hjn:j<st.length
   · repeat' first|refine And.intro ?_ ?_|(intro h;try first|exact dz|replace h:=cv)
     all_goals try exact cz
     ·show Dg _ _ (R.getD (0+((j:Nat):Int).toNat) []) 0=true
      rw[Nat.zero_add,Int.toNat_natCast,hx2 j hjn];rfl
     ·have hbn:true=YB (st.reverse.take (j+1)):=by rw[G9 (by simpa using hjn),←hb0,show b=true from ‹_›];rfl
      exact⟨_,ckJ fs (j+1) st R true,Q0 [0,1,2,3,4] (by first|rfl|kernel_rfl) ⟨.refl _,.refl _,.refl _,.refl _,trivial⟩ ⟨⟨by decide,_,rfl,.refl _⟩,⟨by decide,_,rfl,.refl _⟩,⟨by decide,_,rfl,.refl _⟩,⟨by decide,_,rfl,Qd hRf⟩,trivial⟩,⟨j+1,true,⟨by omega,rfl,hbn⟩,rfl⟩,by omega⟩
     ·have hbn:decide (0<(st.reverse.getD j default).2)=YB (st.reverse.take (j+1)):=by rw[G9 (by simpa using hjn),←hb0,show b=false from ‹_›];rfl
      refine⟨_,ckJ fs (j+1) st R (decide (0<(st.reverse.getD j default).2)),Q0 [0,1,2,3,4] (by first|rfl|kernel_rfl) ⟨QY ?_,.refl _,.refl _,.refl _,trivial⟩ ⟨⟨by decide,_,rfl,.refl _⟩,⟨by decide,_,rfl,.refl _⟩,⟨by decide,_,rfl,.refl _⟩,⟨by decide,_,rfl,Qd hRf⟩,trivial⟩,⟨j+1,_,⟨by omega,rfl,hbn⟩,rfl⟩,by omega⟩
      show decide (0<asI ((R.getD (0+((j:Nat):Int).toNat) []).getD (0+1) AVal.any))=_
      rw[Nat.zero_add,Int.toNat_natCast,hx2 j hjn];rfl
   ·obtain rfl:j=st.length:=by omega
    have hb1:b=YB st:=by rw[hb0,List.take_of_length_le (by simp),YB,YB,List.any_reverse]
    rw[←hb1]at hlast
    repeat' first|refine And.intro ?_ ?_|(intro h;try first|exact dz|replace h:=cv)
    all_goals try exact cz
    refine⟨_,.refl _ _ _,_,rfl,?_⟩
    cases b
    ·rw[show Z8 fs=0 from hlast]
     repeat' first|refine And.intro ?_ ?_|(intro h;try first|exact dz|replace h:=cv)
     all_goals try exact cz
     exact⟨_,Gt rfl rfl,_,rfl,rfl,rfl⟩
    ·rw[show Z8 fs=1 from hlast]
     repeat' first|refine And.intro ?_ ?_|(intro h;try first|exact dz|replace h:=cv)
     all_goals try exact cz
     exact⟨_,Gt rfl rfl,_,rfl,rfl,rfl⟩
def S_check:SpecI:=fun args K=>∃fs,args=[vF fs]∧FsOk fs∧K (.int .i64 (Z8 fs))
theorem L0[Syms]:Zi Try.prog 83 S_check:=by
 rintro args K ⟨fs,rfl,h,hk⟩
 exact⟨rfl,_,rfl,hk,fnI Qp Qq Q5 N4 QJ (NC fs h)⟩
end
end Go.Proofs.Ytajieadpaeggcaa
