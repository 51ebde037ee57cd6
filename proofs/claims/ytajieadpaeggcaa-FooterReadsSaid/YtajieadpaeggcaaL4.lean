/-
  What may be of a chunk;the order of values. The program's. What may be of all that is said. The program's. What a file says of itself,read. The program's. A schema's bytes. The program's. A page,a truth,a value behind bytes. The program's. A chunk behind bytes. The program's. What a file says of itself,as bytes. The program's. What is asked of 'Make',and what it answers. Files' descriptions made of raw numbers,as plain data. Plain. A value of a kind,of a raw one;a number from 0 to n-1;the chapter's example. The document's walk over a shape:of each field its group,and its depth. The document's 'walk':what is asked of it,and what it answers. The document's 'Parents':it answers as the program's. The document's 'Leaves':by climbing from each leaf.
-/
import Derived.Test.YtajieadpaeggcaaL3
import Derived.Test.YtajieadpaeggcaaL2
import Derived.Test.YtajieadpaeggcaaL1
import Derived.Test.YtajieadpaeggcaaWithin
import Derived.Test.YtajieadpaeggcaaSxOne
set_option linter.unusedVariables false
set_option linter.unusedSimpArgs false
namespace Go.Proofs.Ytajieadpaeggcaa
open Go Go.Av
section
set_option maxRecDepth 100000
set_option maxHeartbeats 4000000
abbrev bN[Syms]:CallT:=FG Q7 Q7 (Qx fns) (Qo tys) (Qz plt) 100
abbrev cNan[Syms]:CallT:=Q6 115 bN (Q6 116 bN Q7)
theorem SB[Syms]:bN.ok Try.prog:=XY Qf Qg Q3 Q9 Qw
theorem IB[Syms]:cNan.ok Try.prog:=Xn SB (Xn SB Q9)
theorem VH:∀s:List UInt8,eqb s s=true
 |[]=>rfl
 |a::s=>by rw[eqb,Nat.beq_refl,VH s];rfl
theorem TE[Syms](a b:List UInt8):fnT Q7 cNan (Qx fns) (Qo tys) (Qz plt) 100 107 [.str a,.str b] [] 0 (fun v H _=>v= .int .i64 (Ub a b)∧H=[]):=by
 have hx1:=VH a
 have hx2:=VH b
 refine⟨_,.refl _ _ _,_,rfl,?_⟩
 refine⟨_,.refl _ _ _,_,rfl,?_⟩
 rw[hx1,hx2]
 unfold Ub
 cases hl:Op.bytesLess a b
 ·cases he:eqb a b
  all_goals
   have hx3:=hl
   have hx4:=he
   repeat' first|refine And.intro ?_ ?_|(intro h;try first|exact dzi|replace h:=cvi)
   all_goals try exact cz
  all_goals first|exact⟨_,Q1 [4] rfl,_,rfl,rfl,rfl⟩|(exfalso;simp_all)
 ·have hx3:=hl
  have hx4:=hl
  repeat' first|refine And.intro ?_ ?_|(intro h;try first|exact dzi|replace h:=cvi)
  all_goals try exact cz
  all_goals first|exact⟨_,Q1 [4] rfl,_,rfl,rfl,rfl⟩|(exfalso;simp_all)
def S_cmpS:SpecI:=fun args K=>∃a b,args=[.str a,.str b]∧K (.int .i64 (Ub a b))
theorem RK[Syms]:Zs Try.prog 107 S_cmpS:=by
 rintro args K ⟨a,b,rfl,hk⟩
 exact⟨rfl,_,rfl,hk,fnI Qf Qg Q3 IB Qw (TE a b)⟩
theorem TF[Syms](a b:Int):fnT Q7 cNan (Qx fns) (Qo tys) (Qz plt) 100 108 [.int .i64 a,.int .i64 b] [] 0 (fun v H _=>v= .int .i64 (Ua a b)∧H=[]):=by
 refine⟨_,.refl _ _ _,_,rfl,?_⟩
 refine⟨_,.refl _ _ _,_,rfl,?_⟩
 unfold Ua
 by_cases h1:a<b
 ·rw[if_pos h1]
  repeat' first|refine And.intro ?_ ?_|(intro h;try first|exact dz|replace h:=cv)
  all_goals try exact cz
  all_goals exact⟨_,Q1 [4] rfl,_,rfl,rfl,rfl⟩
 ·rw[if_neg h1]
  by_cases h2:b<a
  ·rw[if_pos h2]
   repeat' first|refine And.intro ?_ ?_|(intro h;try first|exact dz|replace h:=cv)
   all_goals try exact cz
   all_goals exact⟨_,Q1 [4] rfl,_,rfl,rfl,rfl⟩
  ·rw[if_neg h2]
   repeat' first|refine And.intro ?_ ?_|(intro h;try first|exact dz|replace h:=cv)
   all_goals try exact cz
   all_goals exact⟨_,Q1 [4] rfl,_,rfl,rfl,rfl⟩
def S_cmpI:SpecI:=fun args K=>∃a b,args=[.int .i64 a,.int .i64 b]∧K (.int .i64 (Ua a b))
theorem RL[Syms]:Zs Try.prog 108 S_cmpI:=by
 rintro args K ⟨a,b,rfl,hk⟩
 exact⟨rfl,_,rfl,hk,fnI Qf Qg Q3 IB Qw (TF a b)⟩
abbrev cCmp:CallT:=Q6 107 (X0 S_cmpS) (Q6 108 (X0 S_cmpI) Q7)
theorem Sf[Syms]:cCmp.ok Try.prog:=Qh RK (Qh RL Q9)
theorem Q11[Syms](k:Int)(a b:Vl):fnT Q7 cCmp (Qx fns) (Qo tys) (Qz plt) 100 86 [.int .i64 k,.agg (ZX a),.agg (ZX b)] [] 0 (fun v H _=>v= .int .i64 (UV k a b)∧H=[]):=by
 unfold UV
 by_cases h4:k=4
 ·rw[if_pos h4]
  repeat' first|refine And.intro ?_ ?_|(intro h;try first|exact dz|replace h:=cv)
  all_goals try exact cz
  refine⟨a.s,b.s,rfl,?_⟩
  exact⟨_,Q1 [6] rfl,_,rfl,rfl,rfl⟩
 ·rw[if_neg h4]
  repeat' first|refine And.intro ?_ ?_|(intro h;try first|exact dz|replace h:=cv)
  all_goals try exact cz
  refine⟨a.n,b.n,rfl,?_⟩
  exact⟨_,Q1 [6] rfl,_,rfl,rfl,rfl⟩
def S_cmp:SpecI:=fun args K=>∃k a b,args=[.int .i64 k,.agg (ZX a),.agg (ZX b)]∧K (.int .i64 (UV k a b))
theorem TD[Syms]:Zs Try.prog 86 S_cmp:=by
 rintro args K ⟨k,a,b,rfl,hk⟩
 exact⟨rfl,_,rfl,hk,fnI Qf Qg Q3 Sf Qw (Q11 k a b)⟩
def Kz(p:Pg):Prop:=(0≤p.rows∧p.rows≤1048576)∧(0≤p.cells∧p.cells≤1048576)
def sdS(k n:Int)(c:Ck)(i:Nat)(rs cs:Int)(w:Bool):St:=⟨[(0,.int .i64 k),(1,.int .i64 n),(5,.ptr 0 0 0),(7,.int .i64 rs),(8,.int .i64 cs),(9,.bool w),(13,vP c.pages),(14,.int .i64 c.pages.length),(15,.int .i64 i)],[(0,some (.cells [encC c] false))],1⟩
def sdB(k n:Int)(c:Ck)(i:Nat)(rs cs:Int)(w:Bool):St:=⟨[(0,.int .i64 k),(1,.int .i64 n),(5,.ptr 0 0 0),(7,.int .i64 rs),(8,.int .i64 cs),(9,.bool w),(11,.ptr 1 0 0),(13,vP c.pages),(14,.int .i64 c.pages.length),(15,.int .i64 i)],[(0,some (.cells [encC c] false)),(1,some (.cells [encP (c.pages.getD i default)] false))],2⟩
theorem Cc(f:Pg→Int):∀(l m:List Pg),Xk f (l++m)=Xk f l+Xk f m
 |[],m=>by rw[List.nil_append,Xk];omega
 |x::l,m=>by rw[List.cons_append,Xk,Xk,Cc f l m];omega
theorem UH(f:Pg→Int){l:List Pg}{i:Nat}(h:i<l.length):Xk f (l.take (i+1))=Xk f (l.take i)+f (l.getD i default):=by
 rw[List.take_add_one,Cc,List.getD_eq_getElem?_getD,List.getElem?_eq_getElem h]
 simp[Xk]
theorem KL(f:Pg→Int):∀(l:List Pg),(∀p∈l,0≤f p∧f p≤1048576)→0≤Xk f l∧Xk f l≤1048576*l.length
 |[],_=>⟨Int.le_refl _,by simp[Xk]⟩
 |x::l,h=>by
  have h1:=h x (List.mem_cons_self ..)
  have h2:=KL f l fun p hp=>h p (List.mem_cons_of_mem _ hp)
  rw[Xk,List.length_cons]
  omega
theorem Ju(f:Pg→Bool){l:List Pg}{i:Nat}(h:i<l.length):(l.take (i+1)).all f=((l.take i).all f&&f (l.getD i default)):=by
 rw[List.take_add_one,List.all_append,List.getD_eq_getElem?_getD,List.getElem?_eq_getElem h]
 simp
noncomputable def plSd:Nat→Nat→Pl:=XD [(60,4)] (Qz plt)
abbrev cSd:CallT:=Q6 86 (X0 S_cmp) Q7
theorem TM[Syms]:cSd.ok Try.prog:=Qh TD Q9
theorem PC[Syms](k n:Int)(c:Ck)(hp:∀p∈c.pages,Kz p)(hl:c.pages.length≤200):
 fnT Q7 cSd (Qx fns) (Qo tys) plSd 100 60 [.int .i64 k,.int .i64 n,.agg (encC c)] [] 0 (fun v H _=>v= .bool (Xl k n c)∧H=[]):=by
 repeat' first|refine And.intro ?_ ?_|(intro h;try first|exact dzq|replace h:=cvq)
 all_goals try exact cz
 refine⟨fun m s=>∃(i:Nat) (rs cs:Int) (w:Bool),(i≤c.pages.length∧m=c.pages.length-i∧rs=Xk (·.rows) (c.pages.take i)∧cs=Xk (·.cells) (c.pages.take i)∧w=(c.pages.take i).all (fun p=>decide (p.enc=2))∧(c.pages.take i).all (fun p=>decide (p.rows≠0))=true)∧s=sdS k n c i rs cs w,⟨_,sdS k n c 0 0 0 true,Q0 [0] (by exact rfl) ⟨.refl _,.refl _,.refl _,.refl _,.refl _,.refl _,.tab rfl,Qm (by show((List.length _:Nat):Int)=_;rw[List.length_map]),.refl _,trivial⟩ ⟨⟨by decide,_,rfl,.refl _⟩,trivial⟩,0,0,0,true,⟨by omega,rfl,rfl,rfl,rfl,rfl⟩,rfl⟩,?_⟩
 rintro m s ⟨i,rs,cs,w,⟨hi,rfl,hrs,hcs,hw,ha⟩,rfl⟩
 have hin:∀j,j<c.pages.length→Kz (c.pages.getD j default):=fun j hj=>by
  rw[List.getD_eq_getElem?_getD,List.getElem?_eq_getElem hj];exact hp _ (List.getElem_mem hj)
 have hb1:=KL (·.rows) (c.pages.take i) fun p hq=>(hp p (List.mem_of_mem_take hq)).1
 have hb2:=KL (·.cells) (c.pages.take i) fun p hq=>(hp p (List.mem_of_mem_take hq)).2
 have htl:(c.pages.take i).length≤200:=by rw[List.length_take];omega
 rw[←hrs]at hb1
 rw[←hcs]at hb2
 by_cases h1:i<c.pages.length
 ·have hpi:=hin i h1
  have e1:=UH (·.rows) h1
  have e2:=UH (·.cells) h1
  have e3:=Ju (fun p=>decide (p.enc=2)) h1
  have e4:=Ju (fun p=>decide (p.rows≠0)) h1
  rw[←hrs]at e1
  rw[←hcs]at e2
  rw[←hw]at e3
  rw[ha]at e4
  obtain⟨hpr,hpc⟩:=hpi
  repeat' first|refine And.intro ?_ ?_|(intro h;try first|exact dzq|replace h:=cvq)
  all_goals try exact cz
  refine⟨sdB k n c i rs cs w,Q0 [0,1] (by exact rfl) ⟨.refl _,.refl _,.refl _,.refl _,.refl _,.refl _,.refl _,.refl _,.refl _,.refl _,trivial⟩ ⟨⟨by decide,_,rfl,.refl _⟩,⟨by decide,_,rfl,Qs (row:=encP (c.pages.getD i default)) ⟨.refl _,.refl _,.refl _,.refl _,.refl _,.refl _,.refl _,trivial⟩ (eP _)⟩,trivial⟩,?_⟩
  by_cases h2:(c.pages.getD i default).rows=0
  · repeat' first|refine And.intro ?_ ?_|(intro h;try first|exact dzq|replace h:=cvq)
    all_goals try exact cz
    have hf:Xl k n c=false:=by
     have:c.pages.all (fun p=>decide (p.rows≠0))=false:=by
      rw[List.all_eq_false]
      exact⟨_,List.getElem_mem h1,by rw[List.getD_eq_getElem?_getD,List.getElem?_eq_getElem h1]at h2;simpa using h2⟩
     unfold Xl
     rw[this];rfl
    exact⟨_,Q1 [6] rfl,_,rfl,by rw[hf];rfl,rfl⟩
  ·have hstep:∀(w':Bool) (rs' cs':Int),rs'=rs+(c.pages.getD i default).rows→cs'=cs+(c.pages.getD i default).cells→w'=(w&&decide ((c.pages.getD i default).enc=2))→ ∃(j:Nat) (rs1 cs1:Int) (w1:Bool),(j≤c.pages.length∧c.pages.length-(i+1)=c.pages.length-j∧rs1=Xk (·.rows) (c.pages.take j)∧cs1=Xk (·.cells) (c.pages.take j)∧w1=(c.pages.take j).all (fun p=>decide (p.enc=2))∧(c.pages.take j).all (fun p=>decide (p.rows≠0))=true)∧sdS k n c (i+1) rs' cs' w'=sdS k n c j rs1 cs1 w1:=by
    rintro w' rs' cs' rfl rfl rfl
    exact⟨i+1,_,_,_,⟨by omega,rfl,e1.symm,e2.symm,e3.symm,by rw[e4,decide_eq_true h2];rfl⟩,rfl⟩
   cases w
   · repeat' first|refine And.intro ?_ ?_|(intro h;try first|exact dzq|replace h:=cvq)
     all_goals try exact czq
     exact⟨_,sdS k n c (i+1) (rs+(c.pages.getD i default).rows) (cs+(c.pages.getD i default).cells) false,Q0 [0] (by exact rfl) ⟨.refl _,.refl _,.refl _,.refl _,.refl _,.refl _,.refl _,.refl _,Qm (by omega),trivial⟩ ⟨⟨by decide,_,rfl,.refl _⟩,trivial⟩,hstep _ _ _ rfl rfl rfl,by omega⟩
   · repeat' first|refine And.intro ?_ ?_|(intro h;try first|exact dzq|replace h:=cvq)
     all_goals try exact czq
     exact⟨_,sdS k n c (i+1) (rs+(c.pages.getD i default).rows) (cs+(c.pages.getD i default).cells) (decide ((c.pages.getD i default).enc=2)),Q0 [0] (by exact rfl) ⟨.refl _,.refl _,.refl _,.refl _,.refl _,ZG rfl,.refl _,.refl _,Qm (by omega),trivial⟩ ⟨⟨by decide,_,rfl,.refl _⟩,trivial⟩,hstep _ _ _ rfl rfl rfl,by omega⟩
 ·obtain rfl:i=c.pages.length:=by omega
  rw[List.take_length]at hrs hcs hw ha
  have hso:Xl k n c=(decide (rs=n)&&decide (c.words≤256)&&(w||decide (c.words=0∧c.size=0))&&(!c.known||decide (c.st.nulls≤cs)&&decide (0≤UV k c.st.mx c.st.mn))):=by
   unfold Xl
   rw[ha,←hrs,←hcs,←hw];rfl
  rw[hso]
  clear hso hrs hcs hw ha hin htl
  by_cases h2:rs=n
  ·by_cases h3:c.words≤256
   ·cases w
    ·by_cases h4:c.words=0
     ·by_cases h5:c.size=0
      ·cases hk:c.known
       ·have hx1:=hk
        have hx2:=hk
        have hx3:=hk
        have hx4:=hk
        repeat' first|refine And.intro ?_ ?_|(intro h;try first|exact Z8|replace h:=Z9)
        all_goals try exact cz
        all_goals exact⟨_,Q1 [6] rfl,_,rfl,congrArg AVal.bool (by simp[*]),rfl⟩
       ·have hx1:=hk
        have hx2:=hk
        have hx3:=hk
        have hx4:=hk
        by_cases h6:c.st.nulls≤cs
        · repeat' first|refine And.intro ?_ ?_|(intro h;try first|exact Z8|replace h:=Z9)
          all_goals try exact cz
          all_goals refine⟨k,c.st.mx,c.st.mn,rfl,?_⟩
          repeat' first|refine And.intro ?_ ?_|(intro h;try first|exact Z8|replace h:=Z9)
          all_goals try exact cz
          all_goals exact⟨_,Q1 [6] rfl,_,rfl,congrArg AVal.bool (by simp[*]),rfl⟩
        · repeat' first|refine And.intro ?_ ?_|(intro h;try first|exact Z8|replace h:=Z9)
          all_goals try exact cz
          all_goals exact⟨_,Q1 [6] rfl,_,rfl,congrArg AVal.bool (by simp[*]),rfl⟩
      · repeat' first|refine And.intro ?_ ?_|(intro h;try first|exact dzq|replace h:=cvq)
        all_goals try exact cz
        all_goals exact⟨_,Q1 [6] rfl,_,rfl,congrArg AVal.bool (by simp[*]),rfl⟩
     · repeat' first|refine And.intro ?_ ?_|(intro h;try first|exact dzq|replace h:=cvq)
       all_goals try exact cz
       all_goals exact⟨_,Q1 [6] rfl,_,rfl,congrArg AVal.bool (by simp[*]),rfl⟩
    ·cases hk:c.known
     ·have hx1:=hk
      have hx2:=hk
      have hx3:=hk
      have hx4:=hk
      repeat' first|refine And.intro ?_ ?_|(intro h;try first|exact Z8|replace h:=Z9)
      all_goals try exact cz
      all_goals exact⟨_,Q1 [6] rfl,_,rfl,congrArg AVal.bool (by simp[*]),rfl⟩
     ·have hx1:=hk
      have hx2:=hk
      have hx3:=hk
      have hx4:=hk
      by_cases h6:c.st.nulls≤cs
      · repeat' first|refine And.intro ?_ ?_|(intro h;try first|exact Z8|replace h:=Z9)
        all_goals try exact cz
        all_goals refine⟨k,c.st.mx,c.st.mn,rfl,?_⟩
        repeat' first|refine And.intro ?_ ?_|(intro h;try first|exact Z8|replace h:=Z9)
        all_goals try exact cz
        all_goals exact⟨_,Q1 [6] rfl,_,rfl,congrArg AVal.bool (by simp[*]),rfl⟩
      · repeat' first|refine And.intro ?_ ?_|(intro h;try first|exact Z8|replace h:=Z9)
        all_goals try exact cz
        all_goals exact⟨_,Q1 [6] rfl,_,rfl,congrArg AVal.bool (by simp[*]),rfl⟩
   · repeat' first|refine And.intro ?_ ?_|(intro h;try first|exact dzq|replace h:=cvq)
     all_goals try exact cz
     all_goals exact⟨_,Q1 [6] rfl,_,rfl,congrArg AVal.bool (by simp[*]),rfl⟩
  · repeat' first|refine And.intro ?_ ?_|(intro h;try first|exact dzq|replace h:=cvq)
    all_goals try exact cz
    all_goals exact⟨_,Q1 [6] rfl,_,rfl,congrArg AVal.bool (by simp[*]),rfl⟩
def S_sound:SpecI:=fun args K=>∃k n c,args=[.int .i64 k,.int .i64 n,.agg (encC c)]∧((∀p∈c.pages,Kz p)∧c.pages.length≤200)∧K (.bool (Xl k n c))
theorem Nj[Syms]:Zs Try.prog 60 S_sound:=by
 rintro args K ⟨k,n,c,rfl,⟨h1,h2⟩,hk⟩
 exact⟨rfl,_,rfl,hk,fnI Qf Qg Q3 TM Qw (PC k n c h1 h2)⟩
end
section
set_option maxRecDepth 100000
set_option maxHeartbeats 4000000
structure RwOk(L:Nat)(g:Rw):Prop where
 n:0≤g.n∧g.n≤1048576
 len:g.chunks.length≤L
 pages:∀c∈g.chunks,(∀p∈c.pages,Kz p)∧c.pages.length≤200
structure MtOk(m:Mt):Prop where
 fs:FsOk m.s
 len:m.groups.length≤200
 groups:∀g∈m.groups,RwOk (Qt m.s).length g
theorem KK:∀(l m:List Rw),Zj (l++m)=Zj l+Zj m
 |[],m=>by rw[List.nil_append,Zj];omega
 |x::l,m=>by rw[List.cons_append,Zj,Zj,KK l m];omega
theorem Dd{l:List Rw}{i:Nat}(h:i<l.length):Zj (l.take (i+1))=Zj (l.take i)+(l.getD i default).n:=by
 rw[List.take_add_one,KK,List.getD_eq_getElem?_getD,List.getElem?_eq_getElem h]
 simp[Zj]
theorem Bd:∀(l:List Rw),(∀g∈l,0≤g.n∧g.n≤1048576)→0≤Zj l∧Zj l≤1048576*l.length
 |[],_=>⟨Int.le_refl _,by simp[Zj]⟩
 |x::l,h=>by
  have h1:=h x (List.mem_cons_self ..)
  have h2:=Bd l fun p hp=>h p (List.mem_cons_of_mem _ hp)
  rw[Zj,List.length_cons]
  omega
theorem B0(f:Rw→Bool){l:List Rw}{i:Nat}(h:i<l.length):(l.take (i+1)).all f=((l.take i).all f&&f (l.getD i default)):=by
 rw[List.take_add_one,List.all_append,List.getD_eq_getElem?_getD,List.getElem?_eq_getElem h]
 simp
theorem Gp{n:Int}{ls:List Lf}{cs:List Ck}{j:Nat}(h1:j<cs.length)(h2:cs.length≤ls.length):ZA n ((Q5 ls).drop j) (cs.drop j)=(Xl (ls.getD j default).kind n (cs.getD j default)&&ZA n ((Q5 ls).drop (j+1)) (cs.drop (j+1))):=by
 have e1:(Q5 ls).drop j=(ls.getD j default).kind::(Q5 ls).drop (j+1):=by
  rw[List.drop_eq_getElem_cons (by simp;omega)]
  simp[show j<ls.length by omega]
 have e2:cs.drop j=cs.getD j default::cs.drop (j+1):=by
  rw[List.drop_eq_getElem_cons h1]
  simp[h1]
 rw[e1,e2,ZA]
noncomputable def plWh:Nat→Nat→Pl:=XD [(28,5),(28,11)] (Qz plt)
abbrev dWh:CallT:=Q6 60 (X0 S_sound) Q7
theorem TA[Syms]:dWh.det Try.prog:=Zz Nj Q3
abbrev cWh:CallT:=Q6 44 (X0 (seeW S_leaves)) Q7
theorem TJ[Syms]:cWh.ok Try.prog:=Qh DA.seeW Q9
def whS(m:Mt)(ls:List Lf)(i:Nat)(sm:Int):St:=⟨[(1,.ptr 0 0 0),(3,vL ls),(4,.int .i64 sm),(13,vR m.groups),(14,.int .i64 m.groups.length),(15,.int .i64 i)],[(0,some (.cells [Qv m] false))],1⟩
def whB(m:Mt)(ls:List Lf)(i:Nat)(sm:Int)(g:Rw):St:=⟨[(1,.ptr 0 0 0),(3,vL ls),(4,.int .i64 sm),(6,.ptr 1 0 0),(13,vR m.groups),(14,.int .i64 m.groups.length),(15,.int .i64 i)],[(0,some (.cells [Qv m] false)),(1,some (.cells [encR g] false))],2⟩
def whI(m:Mt)(ls:List Lf)(i:Nat)(sm:Int)(g:Rw)(j:Nat):St:=⟨[(1,.ptr 0 0 0),(3,vL ls),(4,.int .i64 sm),(6,.ptr 1 0 0),(13,vR m.groups),(14,.int .i64 m.groups.length),(15,.int .i64 i),(27,vC g.chunks),(28,.int .i64 g.chunks.length),(29,.int .i64 j)],[(0,some (.cells [Qv m] false)),(1,some (.cells [encR g] false))],2⟩
def whC(m:Mt)(ls:List Lf)(i:Nat)(sm:Int)(g:Rw)(j:Nat)(c:Ck):St:=⟨[(1,.ptr 0 0 0),(3,vL ls),(4,.int .i64 sm),(6,.ptr 1 0 0),(7,.int .i64 j),(8,.ptr 2 0 0),(13,vR m.groups),(14,.int .i64 m.groups.length),(15,.int .i64 i),(27,vC g.chunks),(28,.int .i64 g.chunks.length),(29,.int .i64 j)],[(0,some (.cells [Qv m] false)),(1,some (.cells [encR g] false)),(2,some (.cells [encC c] false))],3⟩
theorem Pm[Syms](m:Mt)(h:MtOk m):
 fnT dWh cWh (Qx fns) (Qo tys) plWh 100 28 [.agg (Qv m)] [] 0 (fun v H _=>v= .bool (ZL m)∧H=[]):=by
 obtain⟨hfs,hgl,hgr⟩:=h
 repeat' first|refine And.intro ?_ ?_|(intro h;try first|exact dzq|replace h:=cvq)
 all_goals try exact cz
 refine⟨[vF m.s],⟨.tab rfl,trivial⟩,m.s,rfl,hfs,?_⟩
 have hll:(Qt m.s).length≤1000:=by have h1:(Qt m.s).length≤m.s.length:=Zf _ _ _;have h2:=hfs.len;omega
 have hwh:ZL m=((m.groups.all fun g=>decide (g.n≠0)&&ZA g.n (Q5 (Qt m.s)) g.chunks)&&decide (Zj m.groups=m.n∧Zj m.groups≤200)):=rfl
 generalize Qt m.s=ls at *
 repeat' first|refine And.intro ?_ ?_|(intro h;try first|exact dzq|replace h:=cvq)
 all_goals try exact cz
 refine⟨fun q s=>∃(i:Nat) (sm:Int),(i≤m.groups.length∧q=m.groups.length-i∧sm=Zj (m.groups.take i)∧(m.groups.take i).all (fun g=>decide (g.n≠0)&&ZA g.n (Q5 ls) g.chunks)=true)∧s=whS m ls i sm,⟨_,whS m ls 0 0,Q0 [0] (by exact rfl) ⟨.refl _,.refl _,.refl _,.tab rfl,Qm (by show((List.length _:Nat):Int)=_;rw[List.length_map]),.refl _,trivial⟩ ⟨⟨by decide,_,rfl,.refl _⟩,trivial⟩,0,0,⟨by omega,rfl,rfl,rfl⟩,rfl⟩,?_⟩
 rintro q s ⟨i,sm,⟨hi,rfl,hsm,hal⟩,rfl⟩
 have hb:=Bd (m.groups.take i) fun p hq=>(hgr p (List.mem_of_mem_take hq)).n
 have htl:(m.groups.take i).length≤200:=by rw[List.length_take];omega
 rw[←hsm]at hb
 by_cases h1:i<m.groups.length
 ·have hgi:RwOk ls.length (m.groups.getD i default):=by
   rw[List.getD_eq_getElem?_getD,List.getElem?_eq_getElem h1];exact hgr _ (List.getElem_mem h1)
  have e1:=Dd h1
  have e2:=B0 (fun g=>decide (g.n≠0)&&ZA g.n (Q5 ls) g.chunks) h1
  have hbad:(decide ((m.groups.getD i default).n≠0)&&ZA (m.groups.getD i default).n (Q5 ls) (m.groups.getD i default).chunks)=false→ZL m=false:=by
   intro hb
   have:(m.groups.all fun g=>decide (g.n≠0)&&ZA g.n (Q5 ls) g.chunks)=false:=by
    rw[List.all_eq_false]
    refine⟨_,List.getElem_mem h1,?_⟩
    rw[List.getD_eq_getElem?_getD,List.getElem?_eq_getElem h1]at hb
    rw[show m.groups[i]=(some m.groups[i]).getD default from rfl,hb];decide
   rw[hwh,this];rfl
  rw[←hsm]at e1
  rw[hal]at e2
  obtain⟨hn,hcl,hpg⟩:=hgi
  repeat' first|refine And.intro ?_ ?_|(intro h;try first|exact dzq|replace h:=cvq)
  all_goals try exact czq
  refine⟨whB m ls i sm (m.groups.getD i default),Q0 [0,1] (by exact rfl) ⟨.refl _,.refl _,.refl _,.refl _,.refl _,.refl _,.refl _,trivial⟩ ⟨⟨by decide,_,rfl,.refl _⟩,⟨by decide,_,rfl,Qs (row:=encR (m.groups.getD i default)) ⟨.refl _,.refl _,trivial⟩ (eR _)⟩,trivial⟩,?_⟩
  generalize m.groups.getD i default=g at *
  by_cases h2:g.n=0
  · repeat' first|refine And.intro ?_ ?_|(intro h;try first|exact dzq|replace h:=cvq)
    all_goals try exact czq
    exact⟨_,Q1 [2] rfl,_,rfl,by rw[hbad (by rw[h2];rfl)];rfl,rfl⟩
  ·rw[decide_eq_true h2,Bool.true_and]at hbad e2
   repeat' first|refine And.intro ?_ ?_|(intro h;try first|exact dzq|replace h:=cvq)
   all_goals try exact czq
   refine⟨fun q s=>∃(j:Nat),(j≤g.chunks.length∧q=g.chunks.length-j∧ZA g.n (Q5 ls) g.chunks=ZA g.n ((Q5 ls).drop j) (g.chunks.drop j))∧s=whI m ls i (sm+g.n) g j,⟨_,whI m ls i (sm+g.n) g 0,Q0 [0,1] (by exact rfl) ⟨.refl _,.refl _,.refl _,.refl _,.refl _,.refl _,.refl _,.tab rfl,Qm (by show(((g.chunks.map encC).length:Nat):Int)=_;rw[List.length_map]),.refl _,trivial⟩ ⟨⟨by decide,_,rfl,.refl _⟩,⟨by decide,_,rfl,.refl _⟩,trivial⟩,0,⟨by omega,rfl,rfl⟩,rfl⟩,?_⟩
   rintro q s ⟨j,⟨hj,rfl,hso⟩,rfl⟩
   by_cases h3:j<g.chunks.length
   ·have hd:=Gp (n:=g.n) h3 hcl
    have hpj:(∀p∈(g.chunks.getD j default).pages,Kz p)∧(g.chunks.getD j default).pages.length≤200:=by
     rw[List.getD_eq_getElem?_getD,List.getElem?_eq_getElem h3];exact hpg _ (List.getElem_mem h3)
    repeat' first|refine And.intro ?_ ?_|(intro h;try first|exact dzq|replace h:=cvq)
    all_goals try exact czq
    refine⟨whC m ls i (sm+g.n) g j (g.chunks.getD j default),Q0 [0,1,2] (by exact rfl) ⟨.refl _,.refl _,.refl _,.refl _,.refl _,.refl _,.refl _,.refl _,.refl _,.refl _,.refl _,.refl _,trivial⟩ ⟨⟨by decide,_,rfl,.refl _⟩,⟨by decide,_,rfl,.refl _⟩,⟨by decide,_,rfl,Qs (row:=encC (g.chunks.getD j default)) ⟨.refl _,.refl _,.refl _,.refl _,.refl _,.refl _,.refl _,.refl _,.refl _,.refl _,.refl _,trivial⟩ (eC _)⟩,trivial⟩,?_⟩
    generalize g.chunks.getD j default=c at *
    repeat' first|refine And.intro ?_ ?_|(intro h;try first|exact dzq|replace h:=cvq)
    all_goals try exact czq
    refine⟨(ls.getD j default).kind,g.n,c,rfl,hpj,?_⟩
    cases hs:Xl (ls.getD j default).kind g.n c
    ·skip
     have hx1:=hs
     have hx2:=hs
     have hx3:=hs
     have hx4:=hs
     repeat' first|refine And.intro ?_ ?_|(intro h;try first|exact Z8|replace h:=Z9)
     all_goals try exact czq
     exact⟨_,Q1 [2] rfl,_,rfl,by rw[hbad (by rw[hso,hd,hs];rfl)];rfl,rfl⟩
    ·rw[hs,Bool.true_and]at hd
     have hx1:=hs
     have hx2:=hs
     have hx3:=hs
     have hx4:=hs
     repeat' first|refine And.intro ?_ ?_|(intro h;try first|exact Z8|replace h:=Z9)
     all_goals try exact czq
     exact⟨_,whI m ls i (sm+g.n) g (j+1),Q0 [0,1] (by exact rfl) ⟨.refl _,.refl _,.refl _,.refl _,.refl _,.refl _,.refl _,.refl _,.refl _,Qm (by omega),trivial⟩ ⟨⟨by decide,_,rfl,.refl _⟩,⟨by decide,_,rfl,.refl _⟩,trivial⟩,⟨j+1,⟨by omega,rfl,by rw[hso,hd]⟩,rfl⟩,by omega⟩
   ·obtain rfl:j=g.chunks.length:=by omega
    have hs1:ZA g.n (Q5 ls) g.chunks=true:=by
     rw[hso,List.drop_length]
     cases(Q5 ls).drop g.chunks.length<;>rfl
    rw[hs1]at e2
    repeat' first|refine And.intro ?_ ?_|(intro h;try first|exact dzq|replace h:=cvq)
    all_goals try exact czq
    exact⟨_,whS m ls (i+1) (sm+g.n),Q0 [0] (by exact rfl) ⟨.refl _,.refl _,.refl _,.refl _,.refl _,Qm (by omega),trivial⟩ ⟨⟨by decide,_,rfl,.refl _⟩,trivial⟩,⟨i+1,sm+g.n,⟨by omega,rfl,e1.symm,e2⟩,rfl⟩,by omega⟩
 ·obtain rfl:i=m.groups.length:=by omega
  rw[List.take_length]at hsm hal
  rw[hwh,hal,←hsm,Bool.true_and]
  have hx1:(Qv m).getD 1 .any= .int .i64 m.n:=rfl
  have hx2:(Qv m).getD (0+1) .any= .int .i64 m.n:=rfl
  have hx3:=hx1
  have hx4:=hx2
  clear hsm hwh
  by_cases h2:sm=m.n
  ·by_cases h3:sm≤200
   · repeat' first|refine And.intro ?_ ?_|(intro h;try first|exact Z8|replace h:=Z9)
     all_goals try exact czq
     all_goals exact⟨_,Q1 [2] rfl,_,rfl,congrArg AVal.bool (by simp[*]),rfl⟩
   · repeat' first|refine And.intro ?_ ?_|(intro h;try first|exact Z8|replace h:=Z9)
     all_goals try exact czq
     all_goals exact⟨_,Q1 [2] rfl,_,rfl,congrArg AVal.bool (by simp[*]),rfl⟩
  · repeat' first|refine And.intro ?_ ?_|(intro h;try first|exact Z8|replace h:=Z9)
    all_goals try exact czq
    all_goals exact⟨_,Q1 [2] rfl,_,rfl,congrArg AVal.bool (by simp[*]),rfl⟩
def S_whole:SpecI:=fun args K=>∃m,args=[.agg (Qv m)]∧MtOk m∧K (.bool (ZL m))
theorem N7[Syms]:Zs Try.prog 28 S_whole:=by
 rintro args K ⟨m,rfl,h,hk⟩
 exact⟨rfl,_,rfl,hk,fnI Qf Qg TA TJ Qw (Pm m h)⟩
end
section
set_option maxRecDepth 100000
set_option maxHeartbeats 4000000
theorem JR(r:BR):(plainR r).1≤1048576:=Zr (by decide) r
theorem NO(r:BR):Kz (pageR r).1:=by
 have h1:=JR r
 have h2:=JR (plainR r).2
 show(0≤(((plainR r).1:Nat):Int)∧(((plainR r).1:Nat):Int)≤1048576)∧(0≤(((plainR (plainR r).2).1:Nat):Int)∧(((plainR (plainR r).2).1:Nat):Int)≤1048576)
 omega
theorem Dt:∀(k:Nat) (r:BR) (s:List Pg),(∀p∈s,Kz p)→(∀p∈(ZS k r s).1,Kz p)∧(ZS k r s).1.length≤s.length+k
 |0,r,s,h=>⟨h,Nat.le_refl _⟩
 |k+1,r,s,h=>by
  rw[ZS]
  split
  ·exact⟨h,by dsimp only;omega⟩
  ·obtain⟨h1,h2⟩:=Dt k (pageR r).2 (s++[(pageR r).1]) fun p hp=>by
    rcases List.mem_append.1 hp with k|k
    ·exact h p k
    ·rw[List.mem_singleton.1 k];exact NO r
   exact⟨h1,by rw[List.length_append]at h2;simp at h2;omega⟩
theorem LR(k:Int)(r:BR):(∀p∈(Zv k r).1.pages,Kz p)∧(Zv k r).1.pages.length≤200:=by
 obtain⟨h1,h2⟩:=Dt (QD 200 4 (ckR0 r).2).1 (QD 200 4 (ckR0 r).2).2 [] (fun p hp=>nomatch hp)
 have h3:=Zr (m:=200) (w:=4) (by decide) (ckR0 r).2
 refine⟨h1,?_⟩
 show(ZS (QD 200 4 (ckR0 r).2).1 (QD 200 4 (ckR0 r).2).2 []).1.length≤200
 simp at h2
 omega
theorem FC:∀(ks:List Int) (r:BR) (s:List Ck),(∀c∈s,(∀p∈c.pages,Kz p)∧c.pages.length≤200)→(∀c∈(Zh ks r s).1,(∀p∈c.pages,Kz p)∧c.pages.length≤200)∧(Zh ks r s).1.length≤s.length+ks.length
 |[],r,s,h=>⟨h,Nat.le_refl _⟩
 |k::ks,r,s,h=>by
  rw[Zh]
  split
  ·exact⟨h,by dsimp only;omega⟩
  ·obtain⟨h1,h2⟩:=FC ks (Zv k r).2 (s++[(Zv k r).1]) fun p hp=>by
    rcases List.mem_append.1 hp with j|j
    ·exact h p j
    ·rw[List.mem_singleton.1 j];exact LR k r
   exact⟨h1,by rw[List.length_append]at h2;simp at h2 ⊢;omega⟩
theorem Lz(ks:List Int)(r:BR):RwOk ks.length (Zo ks r).1:=by
 obtain⟨h1,h2⟩:=FC ks (plainR r).2 [] (fun p hp=>nomatch hp)
 have h3:=JR r
 refine⟨?_,?_,h1⟩
 ·show 0≤(((plainR r).1:Nat):Int)∧(((plainR r).1:Nat):Int)≤1048576;omega
 ·show(Zh ks (plainR r).2 []).1.length≤ks.length
  simpa using h2
theorem Km(ks:List Int):∀(k:Nat) (r:BR) (s:List Rw),(∀g∈s,RwOk ks.length g)→(∀g∈(Za ks k r s).1,RwOk ks.length g)∧(Za ks k r s).1.length≤s.length+k
 |0,r,s,h=>⟨h,Nat.le_refl _⟩
 |k+1,r,s,h=>by
  rw[Za]
  split
  ·exact⟨h,by dsimp only;omega⟩
  ·obtain⟨h1,h2⟩:=Km ks k (Zo ks r).2 (s++[(Zo ks r).1]) fun p hp=>by
    rcases List.mem_append.1 hp with j|j
    ·exact h p j
    ·rw[List.mem_singleton.1 j];exact Lz ks r
   exact⟨h1,by rw[List.length_append]at h2;simp at h2;omega⟩
theorem CE(r:BR):MtOk (W5 r).1:=by
 unfold W5
 dsimp only
 split
 ·exact⟨Wh.fs (fs:=[]) (fun f hf=>nomatch hf) (Nat.zero_le _),Nat.zero_le _,fun g hg=>nomatch hg⟩
 ·generalize(QF (QD 2000 5 r).1 (QD 2000 5 r).2)=y
  obtain⟨h1,h2⟩:=Kf y.1
  have h4:=Zr (m:=200) (w:=4) (by decide) (plainR (Qy y.2 (ZD y.1).2)).2
  obtain⟨h5,h6⟩:=Km (QS (ZD y.1).1) (QD 200 4 (plainR (Qy y.2 (ZD y.1).2)).2).1 (QD 200 4 (plainR (Qy y.2 (ZD y.1).2)).2).2 [] (fun p hp=>nomatch hp)
  refine⟨h1.fs h2,?_,fun g hg=>?_⟩
  ·simp at h6;show(Za _ _ _ _).1.length≤200;omega
  ·have:=h5 g hg
   rwa [show(QS (ZD y.1).1).length=(Qt (ZD y.1).1).length from List.length_map ..]at this
abbrev cFpa:CallT:=Q6 26 (QG IK) (Q6 27 (QG UT) (Q6 28 (X0 S_whole) Q7))
theorem S9[Syms]:cFpa.ok Try.prog:=Q4 Oy (Q4 Uu (Qh N7 Q9))
noncomputable def plFp:Nat→Nat→Pl:=XD [(15,1),(15,2),(15,8)] (Qz plt)
def fpS(r:BR)(m:Mt):St:=⟨[(2,.ptr 1 0 0),(3,.int .i64 0),(4,.ptr 0 0 0),(5,.ptr 2 0 0)],[(0,rdB r),(1,some (.cells [QK .nils 0 .nils] false)),(2,some (.cells [Qv m] false))],3⟩
theorem G4[Syms]{Post:AVal→Heap→Nat→Prop}{N nx:Nat}{x:Int}{e:Env}{H:Heap}{row:List AVal}{m:Mt}{p:Mt×Int}{rs:List ResultVar}(h2:e.get 2= .ptr 1 0 0)(h3:e.get 3= .int .i64 x)(H1:H.get 1=some (.cells [row] false))(hrow:Wf row (Qv m))(hn:QJ 0 nx [0,1]=true)(hp:p=(m,x))
 (hrs:Ze (Qo tys) ⟨[(2,.ptr 1 0 0),(3,.int .i64 x)],[(1,some (.cells [Qv m] false))],2⟩ rs=some (.tup [.agg (Qv m),.int .i64 x])) (hP:Post (.tup [.agg (Qv p.1),.int .i64 p.2]) [] 2):
 ∃s3,Reb 0 N ⟨e,H,nx⟩ s3∧ ∃v,Ze (Qo tys) s3 rs=some v∧Vv Post v s3.heap s3.nx:=by
 subst hp
 exact⟨⟨[(2,.ptr 1 0 0),(3,.int .i64 x)],[(1,some (.cells [Qv m] false))],2⟩,Q0 [0,1] hn ⟨by rw[h2];exact .refl _,by rw[h3];exact .refl _,trivial⟩ ⟨⟨Nat.lt_succ_self _,_,H1,Qs hrow (eM m)⟩,trivial⟩,_,hrs,[],fun n b h=>(by rw[Heap.get_nil]at h;cases h),hP⟩
def fpZ(x:Int):St:=⟨[(2,.ptr 1 0 0),(3,.int .i64 x)],[(1,some (.cells [Qv mt0] false))],2⟩
theorem J5[Syms]{N nx:Nat}{e:Env}{H:Heap}{x x':Int}(h2:e.get 2= .ptr 1 0 0)(h3:e.get 3= .int .i64 x')(hx:x'=x)(H1:H.get 1=some (.cells [[.nils,.int .i64 0,.nils]] false))(hn:QJ 0 nx [0,1]=true):Reb 0 N ⟨e,H,nx⟩ (fpZ x):=by
 subst hx
 exact Q0 [0,1] hn ⟨by rw[h2];exact .refl _,by rw[h3];exact .refl _,trivial⟩ ⟨⟨Nat.lt_succ_self _,_,H1,Qs (row:=Qv mt0) ⟨.zero _ _ rfl,.refl _,.zero _ _ rfl,trivial⟩ (eM mt0)⟩,trivial⟩
def Gy(q:Mt×BR):Mt×Int:=
 let r1:=if q.2.b≠[]then Qy q.2 9 else q.2
 let r2:=if r1.e=0∧ZL q.1=false then Qy r1 10 else r1
 if r2.e≠0 then(mt0,r2.e)else(q.1,0)
theorem CX{m:Mt}{r r1 r2:BR}(h1:(if r.b≠[]then Qy r 9 else r)=r1)(h2:(if r1.e=0∧ZL m=false then Qy r1 10 else r1)=r2):Gy (m,r)=if r2.e≠0 then(mt0,r2.e)else(m,0):=by subst h1 h2;rfl
theorem VG{m:Mt}{b:List UInt8}{e:Int}(h:e≠0):Gy (m,⟨b,e⟩)=(mt0,e):=by
 have hf:Qy ⟨b,e⟩ 9=⟨b,e⟩:=if_neg h
 have he:(if b≠[]then Qy ⟨b,e⟩ 9 else⟨b,e⟩)=⟨b,e⟩:=by rw[hf];split<;>rfl
 exact(CX he (if_neg (fun hh=>h hh.1))).trans (if_pos h)
theorem Fr{m:Mt}{b:List UInt8}(h:b≠[]):Gy (m,⟨b,0⟩)=(mt0,9):=
 (CX (r1:=⟨b,9⟩) (r2:=⟨b,9⟩) (if_pos h) (if_neg (fun hh=>absurd (show(9:Int)=0 from hh.1) (by decide)))).trans (if_pos (show(9:Int)≠0 by decide))
theorem DI{m:Mt}:Gy (m,⟨[],0⟩)=if ZL m=false then(mt0,10)else(m,0):=by
 unfold Gy
 cases h:ZL m<;>simp[h,Qy]
theorem Ot[Syms]{Post:AVal→Heap→Nat→Prop}(b:List UInt8)(hl:b.length≤1000000)(p:Mt×Int)(hp:p=YD b)(hP:Post (.tup [.agg (Qv p.1),.int .i64 p.2]) [] 2):
 fnT Q7 cFpa (Qx fns) (Qo tys) plFp 100 15 [vB b] [] 0 (Vv Post):=by
 repeat' first|refine And.intro ?_ ?_|(intro h;try first|exact dz|replace h:=cv)
 all_goals try exact cz
 refine⟨⟨[(2,.ptr 1 0 0),(3,.int .i64 0),(4,.ptr 0 0 0)],[(0,rdB ⟨b,0⟩),(1,some (.cells [QK .nils 0 .nils] false))],2⟩,Q0 [1,0] (by exact rfl) ⟨.refl _,.refl _,.refl _,trivial⟩ ⟨⟨by decide,_,rfl,.refl _⟩,⟨by decide,_,rfl,.refl _⟩,trivial⟩,?_⟩
 refine⟨[0],[.ptr 0 0 0],[(0,rdB ⟨b,0⟩)],rfl,⟨.refl _,trivial⟩,⟨⟨by decide,_,rfl,.refl _⟩,trivial⟩,⟨b,0⟩,rfl,rfl,rfl,hl,?_⟩
 have hok:=CE ⟨b,0⟩
 have hp:p=Gy (W5 ⟨b,0⟩):=hp
 generalize W5 ⟨b,0⟩=q at *
 obtain⟨m,b',e'⟩:=q
 dsimp only at hok
 repeat' first|refine And.intro ?_ ?_|(intro h;try first|exact dz|replace h:=cv)
 all_goals try exact cz
 refine⟨fpS ⟨b',e'⟩ m,Q0 [0,1,4] (by exact rfl) ⟨.refl _,.refl _,.refl _,.refl _,trivial⟩ ⟨⟨by decide,_,rfl,.refl _⟩,⟨by decide,_,rfl,.refl _⟩,⟨by decide,_,rfl,Qs (row:=Qv m) ⟨.refl _,.refl _,.refl _,trivial⟩ (eM _)⟩,trivial⟩,?_⟩
 by_cases hb:b'=[]
 ·subst hb
  by_cases he:e'=0
  ·subst he
   rw[DI]at hp
   cases hw:ZL m
   ·rw[if_pos hw]at hp
    repeat' first|refine And.intro ?_ ?_|(intro h;try first|exact dzq|replace h:=cvq)
    all_goals try exact cz
    refine⟨m,rfl,hok,?_⟩
    have hx1:=hw
    have hx2:=hw
    have hx3:=hw
    have hx4:=hw
    repeat' first|refine And.intro ?_ ?_|(intro h;try first|exact Z8|replace h:=Z9)
    all_goals try exact cz
    refine⟨[0],[.ptr 0 0 0,.int .i64 10],[(0,rdB ⟨[],0⟩)],rfl,⟨.refl _,.refl _,trivial⟩,⟨⟨by decide,_,rfl,.refl _⟩,trivial⟩,⟨[],0⟩,10,rfl,rfl,rfl,?_⟩
    rw[show Qy ⟨[],0⟩ 10=⟨[],10⟩ from rfl,show rdB ⟨[],10⟩=some (.cells [[vB [],.int .i64 10]] false) from rfl]
    have hx1:=fun ρ=>YB ρ ([]) (10)
    have hx2:=hx1
    have hx3:=hx1
    have hx4:=hx1
    repeat' first|refine And.intro ?_ ?_|(intro h;try first|exact Z8|replace h:=Z9)
    all_goals try exact cz
    refine⟨fpZ (10),?_,?_⟩
    · repeat' first|refine And.intro ?_ ?_|(intro h;try first|exact Z8|replace h:=Z9)
      all_goals try exact cz
      all_goals exact Exists.intro () (J5 rfl rfl rfl rfl (by exact rfl))
    ·exact G4 (row:=Qv mt0) (m:=mt0) rfl rfl rfl ⟨.refl _,.refl _,.refl _,trivial⟩ (by exact rfl) hp (by exact rfl) hP
   ·rw[if_neg (by rw[hw];decide)]at hp
    repeat' first|refine And.intro ?_ ?_|(intro h;try first|exact dzq|replace h:=cvq)
    all_goals try exact cz
    refine⟨m,rfl,hok,?_⟩
    have hx1:=hw
    have hx2:=hw
    have hx3:=hw
    have hx4:=hw
    repeat' first|refine And.intro ?_ ?_|(intro h;try first|exact Z8|replace h:=Z9)
    all_goals try exact cz
    exact G4 (row:=Qv m) (m:=m) rfl rfl rfl ⟨.refl _,.refl _,.refl _,trivial⟩ (by exact rfl) hp (by exact rfl) hP
  ·rw[VG he]at hp
   repeat' first|refine And.intro ?_ ?_|(intro h;try first|exact dzq|replace h:=cvq)
   all_goals try exact cz
   have hx1:=he
   have hx2:=he
   have hx3:=he
   have hx4:=he
   refine⟨fpZ (e'),?_,?_⟩
   · repeat' first|refine And.intro ?_ ?_|(intro h;try first|exact Z8|replace h:=Z9)
     all_goals try exact cz
     all_goals exact Exists.intro () (J5 rfl rfl rfl rfl (by exact rfl))
   ·exact G4 (row:=Qv mt0) (m:=mt0) rfl rfl rfl ⟨.refl _,.refl _,.refl _,trivial⟩ (by exact rfl) hp (by exact rfl) hP
 ·have hbl:=List.length_pos_iff.2 hb
  repeat' first|refine And.intro ?_ ?_|(intro h;try first|exact dzq|replace h:=cvq)
  all_goals try exact cz
  refine⟨[0],[.ptr 0 0 0,.int .i64 9],[(0,rdB ⟨b',e'⟩)],rfl,⟨.refl _,.refl _,trivial⟩,⟨⟨by decide,_,rfl,.refl _⟩,trivial⟩,⟨b',e'⟩,9,rfl,rfl,rfl,?_⟩
  by_cases he:e'=0
  ·subst he
   rw[Fr hb]at hp
   rw[show Qy ⟨b',0⟩ 9=⟨b',9⟩ from rfl,show rdB ⟨b',9⟩=some (.cells [[vB b',.int .i64 9]] false) from rfl]
   have hx1:=fun ρ=>YB ρ (b') (9)
   have hx2:=hx1
   have hx3:=hx1
   have hx4:=hx1
   repeat' first|refine And.intro ?_ ?_|(intro h;try first|exact Z8|replace h:=Z9)
   all_goals try exact cz
   refine⟨fpZ (9),?_,?_⟩
   · repeat' first|refine And.intro ?_ ?_|(intro h;try first|exact Z8|replace h:=Z9)
     all_goals try exact cz
     all_goals exact Exists.intro () (J5 rfl rfl rfl rfl (by exact rfl))
   ·exact G4 (row:=Qv mt0) (m:=mt0) rfl rfl rfl ⟨.refl _,.refl _,.refl _,trivial⟩ (by exact rfl) hp (by exact rfl) hP
  ·rw[VG he]at hp
   rw[show Qy ⟨b',e'⟩ 9=⟨b',e'⟩ from if_neg he,show rdB ⟨b',e'⟩=some (.cells [[vB b',.int .i64 e']] false) from rfl]
   have hx1:=fun ρ=>YB ρ (b') (e')
   have hx2:=hx1
   have hx3:=hx1
   have hx4:=hx1
   repeat' first|refine And.intro ?_ ?_|(intro h;try first|exact Z8|replace h:=Z9)
   all_goals try exact cz
   refine⟨fpZ (e'),?_,?_⟩
   · repeat' first|refine And.intro ?_ ?_|(intro h;try first|exact Z8|replace h:=Z9)
     all_goals try exact cz
     all_goals exact Exists.intro () (J5 rfl rfl rfl rfl (by exact rfl))
   ·exact G4 (row:=Qv mt0) (m:=mt0) rfl rfl rfl ⟨.refl _,.refl _,.refl _,trivial⟩ (by exact rfl) hp (by exact rfl) hP
def FW:SpecT:=fun args H nx Post=>∃b,args=[vB b]∧H=[]∧nx=0∧b.length≤1000000∧Post (.tup [.agg (Qv (YD b).1),.int .i64 (YD b).2]) [] 2
theorem DF[Syms]:FW.ok Try.prog 15:=by
 rintro args H nx Post ⟨b,rfl,rfl,rfl,h1,h⟩
 exact XF.forget (Qj Qf Qg Q3 S9 Qw (Ot b h1 _ rfl h))
end
section
set_option maxRecDepth 100000
set_option maxHeartbeats 4000000
theorem Bh:∀(l m:List Fd),sbL (l++m)=sbL l++sbL m
 |[],m=>rfl
 |x::l,m=>by rw[List.cons_append,sbL,sbL,Bh l m,List.append_assoc]
theorem Nn{s:List Fd}{i:Nat}(h:i<s.length):sbL (s.take (i+1))=sbL (s.take i)++Ce (s.getD i default):=by
 rw[List.take_add_one,Bh,List.getD_eq_getElem?_getD,List.getElem?_eq_getElem h]
 simp[sbL]
theorem SS(s:List Fd)(i:Nat):(sbL (s.take i)).length≤(sbL s).length:=by
 have:sbL s=sbL (s.take i)++sbL (s.drop i):=by rw[←Bh,List.take_append_drop]
 rw[this,List.length_append];omega
def S_sbytes:SpecY:=fun args K=>∃s,args=[vF s]∧((sbF s).length≤1000000∧s.length≤100000∧ ∀f∈s,(0≤f.rep∧f.rep<256)∧(0≤f.kind∧f.kind<256)∧0≤f.kids∧f.kids<1000000)∧K (sbF s)
end
section
set_option maxRecDepth 100000
set_option maxHeartbeats 4000000
def Wg(x:Int):Prop:=0≤x∧x<128^9
def GM(x:Int):Prop:=0≤x∧x<4294967296
structure PgB(p:Pg):Prop where
 n1:Wg p.rows
 n2:Wg p.cells
 n3:Wg p.enc
 n4:Wg p.rlen
 n5:Wg p.dlen
 n6:Wg p.vlen
 crc:GM p.crc
theorem wrC{x:Int}(h:GM x):wr .u64 x=((x.toNat:Nat):Int):=wrU ⟨h.1,by have:=h.2;omega⟩
abbrev oB(o:List UInt8):Option Blk:=some (.cells (o.map encB) false)
abbrev slB(n:Nat)(o:List UInt8):AVal:=.slice n 0 o.length 1 none
theorem IF(q s:List UInt8):List.take q.length (List.drop 0 (q.map encB))++s.map encB=(q++s).map encB:=by
 rw[List.drop_zero,List.take_of_length_le (by simp),List.map_append]
theorem IG(q s:List UInt8):q.length+(s.map encB).length=(q++s).length:=by rw[List.length_map,List.length_append]
theorem apZ(q:List UInt8){s:List UInt8}(h:s.length=0):q.map encB=(q++s).map encB:=by rw[List.eq_nil_of_length_eq_zero h,List.append_nil]
theorem apZl(q:List UInt8){s:List UInt8}(h:s.length=0):q.length=(q++s).length:=by rw[List.eq_nil_of_length_eq_zero h,List.append_nil]
theorem OA[Syms]{Post:AVal→Heap→Nat→Prop}{N k K nx:Nat}{e:Env}{H:Heap}{len:Nat}{rows:List (List AVal)}{o:List UInt8}{rs:List ResultVar}{cap:Option Nat}(hn:QJ 1 nx [0,K]=true)(hk:e.get k= .slice K 0 len 1 cap)(hb:H.get K=some (.cells rows false))(hr:rows=o.map encB)(hl:len=o.length)
 (hrs:Ze (Qo tys) ⟨[(k,slB 1 o)],[(1,oB o)],2⟩ rs=some (slB 1 o)) (hP:Post (slB 1 o) [(1,oB o)] 2):
 ∃s3,Reb 1 N ⟨e,H,nx⟩ s3∧ ∃v,Ze (Qo tys) s3 rs=some v∧Post v s3.heap s3.nx:=by
 subst hr hl
 exact⟨⟨[(k,slB 1 o)],[(1,oB o)],2⟩,Q0 [0,K] hn ⟨by rw[hk];exact Q8 rfl,trivial⟩ ⟨⟨Nat.lt_succ_self _,_,hb,Q2 rfl (fB _)⟩,trivial⟩,_,hrs,hP⟩
def FY:SpecT:=fun args H nx Post=>∃o b,args=[slB 0 o,.bool b]∧H=[(0,oB o)]∧nx=1∧o.length≤1000000∧Post (slB 1 (o++flB b)) [(1,oB (o++flB b))] 2
theorem IR(x:Int):0≤wr .u64 x:=by
 unfold wr
 split
 ·rename_i h;exact h.1
 ·show(0:Int)≤(if(false&&decide (x%(2^64:Int)≥(2^63:Int)))=true then x%(2^64:Int)-(2^64:Int)else x%(2^64:Int))
  simp;omega
end
section
set_option maxRecDepth 100000
set_option maxHeartbeats 4000000
structure CkB(c:Ck):Prop where
 n1:Wg c.words
 n2:Wg c.size
 crc:GM c.crc
 nulls:Wg c.st.nulls
 pages:∀p∈c.pages,PgB p
 len:c.pages.length≤100000
theorem MY:∀(l m:List Pg),Yy (l++m)=Yy l++Yy m
 |[],m=>rfl
 |x::l,m=>by rw[List.cons_append,Yy,Yy,MY l m,List.append_assoc]
theorem Lh{l:List Pg}{i:Nat}(h:i<l.length):Yy (l.take (i+1))=Yy (l.take i)++pgB (l.getD i default):=by
 rw[List.take_add_one,MY,List.getD_eq_getElem?_getD,List.getElem?_eq_getElem h]
 simp[Yy]
theorem Rf(l:List Pg)(i:Nat):(Yy (l.take i)).length≤(Yy l).length:=by
 have:Yy l=Yy (l.take i)++Yy (l.drop i):=by rw[←MY,List.take_append_drop]
 rw[this,List.length_append];omega
end
section
set_option maxRecDepth 100000
set_option maxHeartbeats 4000000
structure RwB(L:Nat)(g:Rw):Prop where
 n:Wg g.n
 len:g.chunks.length≤L
 chunks:∀c∈g.chunks,CkB c
structure MtB(m:Mt):Prop where
 fs:FsOk m.s
 sb:∀f∈m.s,(0≤f.rep∧f.rep<256)∧(0≤f.kind∧f.kind<256)∧0≤f.kids∧f.kids<1000000
 n:Wg m.n
 len:m.groups.length≤100000
 groups:∀g∈m.groups,RwB (Qt m.s).length g
theorem E7(ks:List Int):Wm ks []=[]:=by cases ks<;>rfl
theorem DR:∀{ks:List Int} {cs:List Ck} {j:Nat},j<cs.length→cs.length≤ks.length→Wm ks (cs.take (j+1))=Wm ks (cs.take j)++ckB (ks.getD j 0) (cs.getD j default)
 |ks,[],j,h,_=>by simp at h
 |[],c::cs,j,_,h=>by simp at h
 |k::ks,c::cs,0,_,_=>by simp[Wm]
 |k::ks,c::cs,j+1,h,h2=>by
  have:=DR (ks:=ks) (cs:=cs) (j:=j) (by simpa using h) (by simpa using h2)
  rw[List.take_succ_cons,List.take_succ_cons,Wm,Wm,this,List.append_assoc]
  rfl
theorem Iv:∀(ks:List Int) (cs:List Ck) (j:Nat),(Wm ks (cs.take j)).length≤(Wm ks cs).length
 |ks,[],j=>by simp
 |[],c::cs,j=>by cases j<;>simp[Wm]
 |k::ks,c::cs,0=>by cases ks<;>simp[Wm]
 |k::ks,c::cs,j+1=>by
  have:=Iv ks cs j
  rw[List.take_succ_cons,Wm,Wm,List.length_append,List.length_append];omega
theorem MB(ks:List Int):∀(l m:List Rw),Yc ks (l++m)=Yc ks l++Yc ks m
 |[],m=>rfl
 |x::l,m=>by rw[List.cons_append,Yc,Yc,MB ks l m,List.append_assoc]
theorem IU{ks:List Int}{l:List Rw}{i:Nat}(h:i<l.length):Yc ks (l.take (i+1))=Yc ks (l.take i)++rwB ks (l.getD i default):=by
 rw[List.take_add_one,MB,List.getD_eq_getElem?_getD,List.getElem?_eq_getElem h]
 simp[Yc]
theorem PF(ks:List Int)(l:List Rw)(i:Nat):(Yc ks (l.take i)).length≤(Yc ks l).length:=by
 have:Yc ks l=Yc ks (l.take i)++Yc ks (l.drop i):=by rw[←MB,List.take_append_drop]
 rw[this,List.length_append];omega
end
def S_make:SpecI:=fun args K=>∃ns,args=[vI ns]∧(ns.length≤9223372036854775807∧K (vF (QN ns)))
theorem O3[Syms]:Zs Try.prog 20 S_make:=by
 rintro args K ⟨ns,rfl,h,hk⟩
 exact⟨rfl,_,rfl,hk,fnI Qf Qg RY TI Qw (Tj ns h)⟩
def dv(g n:Int):Int:=wr .i64 (g.tdiv n)
def pgM(g r:Int):Pg:=⟨r,r+wi g 9,wi g 2,wi (dv g 2) 300,wi (dv g 5) 300,wi (dv g 9) 3000,wr .u32 (wr .u32 g*77)⟩
def YG(g left:Int):Int:=if 1+wi (dv g 7) 20<left then 1+wi (dv g 7) 20 else left
def ZY(g:Int):Nat→Int→List Pg
 |0,_=>[]
 |f+1,left=>if 0<left then pgM g (YG g left)::ZY g f (left-YG g left)else[]
def d2(p:Pg):Pg:={p with enc:=2}
def nM(g:Int):Int:=1+wi g 40
def Wn(g:Int)(k:Nat):Ck:=
 if wi (dv g 11) 3=0 then⟨wi g 257,wi (dv g 13) 9000,wr .u32 g,(ZY g 40 (nM g)).map d2,decide (0<wi (dv g 3+k) 3),default⟩
 else⟨0,0,0,ZY g 40 (nM g),decide (0<wi (dv g 3+k) 3),default⟩
def ZT(kind:Int)(v:Vl):Vl:=if kind=1 then⟨wi v.n 2,[]⟩else if kind=2 then⟨wr .i32 v.n,[]⟩else if kind=3 then⟨v.n,[]⟩else⟨0,v.s.take 100⟩
def ZE(g:Int)(k:Nat)(kind:Int)(l:List Vl)(a:Nat):Ck×Nat:=
 if(Wn g k).known=true∧0<l.length then
  ({Wn g k with st:=⟨wi g (nM g+1),true,ZT kind (l.getD (a%l.length) default),ZT kind (l.getD (a%l.length) default)⟩},a+1)
 else(Wn g k,a)
def Z2(g:Int)(l:List Vl):List Int→Nat→Nat→List Ck×Nat
 |[],_,a=>([],a)
 |kd::ks,k,a=>((ZE g k kd l a).1::(Z2 g l ks (k+1) (ZE g k kd l a).2).1,(Z2 g l ks (k+1) (ZE g k kd l a).2).2)
def Zg(ks:List Int)(l:List Vl):List Int→Nat→List Rw×Nat
 |[],a=>([],a)
 |g::gs,a=>(⟨nM g,(Z2 g l ks 0 a).1⟩::(Zg ks l gs (Z2 g l ks 0 a).2).1,(Zg ks l gs (Z2 g l ks 0 a).2).2)
def Yt(ns gs:List Int)(l:List Vl):Mt:=⟨QN ns,Zj (Zg (QS (QN ns)) l (gs.take 4) 0).1,(Zg (QS (QN ns)) l (gs.take 4) 0).1⟩
abbrev vV(l:List Vl):AVal:=vT 2 ZX default l
def I64(x:Int):Prop:=-9223372036854775808≤x∧x≤9223372036854775807
theorem Y8{a n:Int}(hn:0<n):0≤wi a n∧wi a n<n:=Vt hn
theorem K0(g:Int):1≤nM g∧nM g≤40:=by
 have:=Y8 (a:=g) (n:=40) (by decide)
 unfold nM;omega
theorem M0{g left:Int}(h:0<left):1≤YG g left∧YG g left≤left∧YG g left≤20:=by
 have:=Y8 (a:=dv g 7) (n:=20) (by decide)
 unfold YG
 split<;>omega
theorem V1{g left:Int}{f:Nat}(h:0<left):ZY g (f+1) left=pgM g (YG g left)::ZY g f (left-YG g left):=by rw[ZY,if_pos h]
theorem MZ{g left:Int}{f:Nat}(h:¬0<left):ZY g f left=[]:=by
 cases f with
 |zero=>rfl
 |succ f=>rw[ZY,if_neg h]
theorem WL(g:Int):∀(f:Nat) (left:Int),(ZY g f left).length≤f
 |0,_=>Nat.le_refl _
 |f+1,left=>by
  rw[ZY]
  split
  ·rw[List.length_cons];have:=WL g f (left-YG g left);omega
  ·exact Nat.zero_le _
theorem Vb(g:Int)(l:List Vl):∀(ks:List Int) (k a:Nat),(Z2 g l ks k a).1.length=ks.length
 |[],_,_=>rfl
 |kd::ks,k,a=>by rw[Z2,List.length_cons,Vb g l ks,List.length_cons]
theorem DT(g:Int)(k:Nat)(kd:Int)(l:List Vl)(a:Nat):(ZE g k kd l a).2≤a+1:=by
 unfold ZE
 split
 ·exact Nat.le_refl _
 ·exact Nat.le_succ _
theorem FD(g:Int)(l:List Vl):∀(ks:List Int) (k a:Nat),(Z2 g l ks k a).2≤a+ks.length
 |[],_,_=>Nat.le_refl _
 |kd::ks,k,a=>by
  have h1:=DT g k kd l a
  have h2:=FD g l ks (k+1) (ZE g k kd l a).2
  rw[Z2,List.length_cons]
  show(Z2 g l ks (k+1) (ZE g k kd l a).2).2≤_
  omega
def YM(ks:List Int)(l:List Vl)(gs:List Int):Nat→List Rw×Nat
 |0=>([],0)
 |i+1=>((YM ks l gs i).1++[⟨nM (gs.getD i 0),(Z2 (gs.getD i 0) l ks 0 (YM ks l gs i).2).1⟩],(Z2 (gs.getD i 0) l ks 0 (YM ks l gs i).2).2)
theorem Gw(ks:List Int)(l:List Vl):∀(x y:List Int) (a:Nat),Zg ks l (x++y) a=((Zg ks l x a).1++(Zg ks l y (Zg ks l x a).2).1,(Zg ks l y (Zg ks l x a).2).2)
 |[],y,a=>rfl
 |g::x,y,a=>by
  rw[List.cons_append,Zg,Zg,Gw ks l x y]
  rfl
theorem Ig(ks:List Int)(l:List Vl)(gs:List Int):∀i,i≤gs.length→YM ks l gs i=Zg ks l (gs.take i) 0
 |0,_=>by rw[List.take_zero];rfl
 |i+1,h=>by
  have ih:=Ig ks l gs i (by omega)
  have e:gs.take (i+1)=gs.take i++[gs.getD i 0]:=by
   rw[List.take_add_one,List.getD_eq_getElem?_getD,List.getElem?_eq_getElem (by omega)];rfl
  rw[YM,ih,e,Gw]
  rfl
def Wl(g:Int)(l:List Vl)(ks:List Int)(a:Nat):Nat→List Ck×Nat
 |0=>([],a)
 |k+1=>((Wl g l ks a k).1++[(ZE g k (ks.getD k 0) l (Wl g l ks a k).2).1],(ZE g k (ks.getD k 0) l (Wl g l ks a k).2).2)
theorem GE(g:Int)(l:List Vl):∀(x y:List Int) (k a:Nat),Z2 g l (x++y) k a=((Z2 g l x k a).1++(Z2 g l y (k+x.length) (Z2 g l x k a).2).1,(Z2 g l y (k+x.length) (Z2 g l x k a).2).2)
 |[],y,k,a=>rfl
 |q::x,y,k,a=>by
  rw[List.cons_append,Z2,Z2,GE g l x y,List.length_cons]
  rw[show k+1+x.length=k+(x.length+1) by omega]
  rfl
theorem Iq(g:Int)(l:List Vl)(ks:List Int)(a:Nat):∀k,k≤ks.length→Wl g l ks a k=Z2 g l (ks.take k) 0 a
 |0,_=>by rw[List.take_zero];rfl
 |k+1,h=>by
  have ih:=Iq g l ks a k (by omega)
  have e:ks.take (k+1)=ks.take k++[ks.getD k 0]:=by
   rw[List.take_add_one,List.getD_eq_getElem?_getD,List.getElem?_eq_getElem (by omega)];rfl
  rw[Wl,ih,e,GE,List.length_take,Nat.min_eq_left (by omega),Nat.zero_add]
  rfl
theorem Ir(g:Int)(l:List Vl)(ks:List Int)(a:Nat):∀k,(Wl g l ks a k).2≤a+k
 |0=>Nat.le_refl _
 |k+1=>by
  have h1:=Ir g l ks a k
  have h2:=DT g k (ks.getD k 0) l (Wl g l ks a k).2
  show(ZE g k (ks.getD k 0) l (Wl g l ks a k).2).2≤_
  omega
theorem Ih(ks:List Int)(l:List Vl)(gs:List Int):∀i,(YM ks l gs i).2≤i*ks.length
 |0=>by simp[YM]
 |i+1=>by
  have h1:=Ih ks l gs i
  have h2:=FD (gs.getD i 0) l ks 0 (YM ks l gs i).2
  show(Z2 (gs.getD i 0) l ks 0 (YM ks l gs i).2).2≤_
  rw[Nat.add_mul,Nat.one_mul];omega
section
set_option maxRecDepth 100000
set_option maxHeartbeats 4000000
def G_wi:List AVal→(AVal→Prop)→Prop:=fun args K=>∃a n,args=[.int .i64 a,.int .i64 n]∧(0<n∧n≤4611686018427387904)∧K (.int .i64 (wi a n))
theorem Pk[Syms]:En Try.prog 49 G_wi:=by
 rintro args K ⟨a,n,rfl,⟨h1,h2⟩,hk⟩
 refine⟨GO,_,hk,fun ι w vs hv=>?_⟩
 obtain⟨v0,vs0,rfl,hv0,hv⟩:=hv.uncons
 obtain⟨v1,vs1,rfl,hv1,hv⟩:=hv.uncons
 obtain rfl:=hv.unnil
 obtain rfl:=hv0.of_int
 obtain rfl:=hv1.of_int
 refine(K8 a n h1 h2 w).mono ?_
 rintro e w' ⟨rfl,rfl⟩
 exact⟨_,rfl,.int _ _,rfl⟩
theorem GV[Syms]:En Try.prog 13 G_wi:=by
 rintro args K ⟨a,n,rfl,⟨h1,h2⟩,hk⟩
 refine⟨GN,_,hk,fun ι w vs hv=>?_⟩
 obtain⟨v0,vs0,rfl,hv0,hv⟩:=hv.uncons
 obtain⟨v1,vs1,rfl,hv1,hv⟩:=hv.uncons
 obtain rfl:=hv.unnil
 obtain rfl:=hv0.of_int
 obtain rfl:=hv1.of_int
 refine(K7 a n h1 h2 w).mono ?_
 rintro e w' ⟨rfl,rfl⟩
 exact⟨_,rfl,.int _ _,rfl⟩
abbrev cGd:CallT:=Q6 49 (B8 G_wi) Q7
theorem Q06[Syms]:cGd.ok Try.prog:=VS Pk Q9
theorem Bx[Syms]{N nx:Nat}{e:Env}{H:Heap}{row:List AVal}{v:Vl}{rs:List ResultVar}(hk:e.get 4= .ptr 1 0 0)(H1:H.get 1=some (.cells [row] false))(hrow:Wf row (ZX v))(hn:QJ 0 nx [0,1]=true)
 (hrs:Ze (Qo tys) ⟨[(4,.ptr 1 0 0)],[(1,some (.cells [ZX v] false))],2⟩ rs=some (.agg (ZX v))):
 ∃s3,Reb 0 N ⟨e,H,nx⟩ s3∧ ∃u,Ze (Qo tys) s3 rs=some u∧Vv (fun u H _=>u= .agg (ZX v)∧H=[]) u s3.heap s3.nx:=
 ⟨⟨[(4,.ptr 1 0 0)],[(1,some (.cells [ZX v] false))],2⟩,Q0 [0,1] hn ⟨by rw[hk];exact .refl _,trivial⟩ ⟨⟨Nat.lt_succ_self _,_,H1,Qs hrow (fV v)⟩,trivial⟩,_,hrs,[],fun n b h=>(by rw[Heap.get_nil]at h;cases h),rfl,rfl⟩
theorem Px(s:List UInt8):((s.drop 0).take ((if(100:Int)<(s.length:Int)then 100 else(s.length:Int)).toNat-0))=s.take 100:=by
 rw[List.drop_zero]
 split
 ·rfl
 ·rw[List.take_of_length_le (by omega),List.take_of_length_le (by omega)]
theorem To[Syms](k:Int)(v:Vl):fnT Q7 cGd (Qx fns) (Qo tys) (Qz plt) 100 22 [.int .i64 k,.agg (ZX v)] [] 0 (Vv (fun u H _=>u= .agg (ZX (ZT k v))∧H=[])):=by
 unfold ZT
 by_cases h1:k=1
 ·rw[if_pos h1]
  repeat' first|refine And.intro ?_ ?_|(intro h;try first|exact dzq|replace h:=cvq)
  all_goals try exact cz
  refine⟨v.n,2,rfl,by decide,?_⟩
  repeat' first|refine And.intro ?_ ?_|(intro h;try first|exact dzq|replace h:=cvq)
  all_goals try exact cz
  exact Bx (v:=⟨wi v.n 2,[]⟩) rfl rfl ⟨.refl _,.refl _,trivial⟩ (by exact rfl) (by exact rfl)
 rw[if_neg h1]
 by_cases h2:k=2
 ·rw[if_pos h2]
  have hw:=SE v.n
  repeat' first|refine And.intro ?_ ?_|(intro h;try first|exact dzq|replace h:=cvq)
  all_goals try exact cz
  exact Bx (v:=⟨wr .i32 v.n,[]⟩) rfl rfl ⟨Qm hw,.refl _,trivial⟩ (by exact rfl) (by exact rfl)
 rw[if_neg h2]
 by_cases h3:k=3
 ·rw[if_pos h3]
  repeat' first|refine And.intro ?_ ?_|(intro h;try first|exact dzq|replace h:=cvq)
  all_goals try exact cz
  exact Bx (v:=⟨v.n,[]⟩) rfl rfl ⟨.refl _,.refl _,trivial⟩ (by exact rfl) (by exact rfl)
 rw[if_neg h3]
 repeat' first|refine And.intro ?_ ?_|(intro h;try first|exact dzq|replace h:=cvq)
 all_goals try exact cz
 exact Bx (v:=⟨0,v.s.take 100⟩) rfl rfl ⟨.refl _,Et (Px v.s),trivial⟩ (by exact rfl) (by exact rfl)
def S_good:SpecI:=fun args K=>∃k v,args=[.int .i64 k,.agg (ZX v)]∧K (.agg (ZX (ZT k v)))
theorem Rs[Syms]:Zs Try.prog 22 S_good:=by
 rintro args K ⟨k,v,rfl,hk⟩
 exact⟨rfl,_,rfl,hk,XF.forget (Qj Qf Qg Q3 Q06 Qw (To k v))⟩
abbrev cKn:CallT:=Q6 15 (QG FW) Q7
theorem Q05[Syms]:cKn.ok Try.prog:=Q4 DF Q9
theorem Lt[Syms]:fnT Q7 cKn (Qx fns) (Qo tys) (Qz plt) 100 10 [] [] 0 (fun v H _=>v= .bool true∧H=[]):=by
 refine⟨[],[vB []],[],rfl,⟨.zeroT 1 _ _ rfl,trivial⟩,trivial,[],rfl,rfl,rfl,Nat.zero_le _,?_⟩
 have hp:YD []=(mt0,8):=rfl
 rw[hp]
 repeat' first|refine And.intro ?_ ?_|(intro h;try first|exact dzq|replace h:=cvq)
 all_goals try exact cz
 exact⟨_,Q1 [0] rfl,_,rfl,rfl,rfl⟩
def S_known19:SpecI:=fun args K=>args=[]∧K (.bool true)
theorem EY[Syms]:Zs Try.prog 10 S_known19:=by
 rintro args K ⟨rfl,hk⟩
 exact⟨rfl,_,rfl,hk,Qj Qf Qg Q3 Q05 Qw Lt⟩
end
section
set_option maxRecDepth 100000
set_option maxHeartbeats 4000000
def rE(fs:List Fd)(i:Nat)(p d o l:AVal):Env:=[(0,vF fs),(4,p),(5,d),(6,o),(7,l),(8,.int .i64 i)]
def sI(k n:Nat):AVal:=.slice k 0 n 1 none
def rA(fs:List Fd)(i:Nat):St:=⟨rE fs i .nils .nils .nils .nils,[],0⟩
def rB(fs:List Fd)(i:Nat)(out:List (Int×Int)):St:=⟨rE fs i (sI 0 i) (sI 1 i) .nils .nils,[(0,some (.cells (out.map (Qr ·.1)) false)),(1,some (.cells (out.map (Qr ·.2)) false))],2⟩
def rC(fs:List Fd)(i n:Nat)(out:List (Int×Int))(R S:List (List AVal)):St:=
 ⟨rE fs i (sI 0 i) (sI 1 i) (sI 2 n) (sI 3 n),[(0,some (.cells (out.map (Qr ·.1)) false)),(1,some (.cells (out.map (Qr ·.2)) false)),(2,some (.cells R false)),(3,some (.cells S false))],4⟩
def rD(fs:List Fd)(i n:Nat)(out:List (Int×Int))(R S:List (List AVal)):St:=
 ⟨rE fs i (sI 0 (i+1)) (sI 1 (i+1)) (sI 2 n) (sI 3 n),[(0,some (.cells (out.map (Qr ·.1)) false)),(1,some (.cells (out.map (Qr ·.2)) false)),(2,some (.cells R false)),(3,some (.cells S false))],4⟩
structure RInv(fs:List Fd)(i:Nat)(st:Stk)(out:List (Int×Int)):Prop where
 le:i≤fs.length
 len:out.length=i
 run:out++D6 (fs.drop i) i st=D6 fs 0 []
 pos:∀p∈st,0≤p.2∧p.2≤9223372036854775807
 sl:st.length≤i
def rSt(fs:List Fd)(i:Nat)(st:Stk)(out:List (Int×Int))(s:St):Prop:=
 (i=0∧st=[]∧out=[]∧s=rA fs i)∨(st=[]∧s=rB fs i out)∨(∃j1 j2 R S,(Qp j1∧Qp j2∧R=st.reverse.map (Qr ·.1)++j1∧S=st.reverse.map (Qr ·.2)++j2)∧s=rC fs i st.length out R S)
theorem PN{fs:List Fd}{i:Nat}{st:Stk}(h:i<fs.length):D6 (fs.drop i) i st=(U5 (Xt st),((Xt st).length:Int))::D6 (fs.drop (i+1)) (i+1) (Wo i (fs.getD i default) (XN (Xt st))):=by
 rw[BD h];rfl
theorem Cx:∀st:Stk,(Xt st).length≤st.length
 |[]=>Nat.le_refl _
 |(a,k)::t=>by rw[Xt];split<;>simp;have:=Cx t;omega
theorem JO{fs:List Fd}{i:Nat}{st:Stk}{out:List (Int×Int)}(hk:∀i,(fs.getD i default).kids≤9223372036854775807)(h:RInv fs i st out)(hi:i<fs.length):
 RInv fs (i+1) (Wo i (fs.getD i default) (XN (Xt st))) (out++[(U5 (Xt st),((Xt st).length:Int))]):=by
 have hn:KA st:=fun p hp=>(h.pos p hp).1
 refine⟨hi,by simp[h.len],?_,fun p hp=>⟨MT hn i _ p hp,?_⟩,?_⟩
 ·rw[←h.run,PN hi];simp
 ·have hd:∀p∈XN (Xt st),p.2≤9223372036854775807:=by
   intro p hp
   cases hq:Xt st with
   |nil=>rw[hq]at hp;simp[XN]at hp
   |cons q t=>
    obtain⟨a,k⟩:=q
    have hm:∀r∈(a,k)::t,r.2≤9223372036854775807:=fun r hr=>(h.pos r (Cw (by rw[hq];exact hr))).2
    rw[hq]at hp
    simp only[XN,List.mem_cons]at hp
    rcases hp with rfl|hp
    ·have:=hm (a,k) (List.mem_cons_self ..);simp only at this ⊢;omega
    ·exact hm p (List.mem_cons_of_mem _ hp)
  unfold Wo at hp
  split at hp
  ·rcases List.mem_cons.1 hp with rfl|hp
   ·exact hk i
   ·exact hd p hp
  ·exact hd p hp
 ·have h1:=Cx st
  have h2:(XN (Xt st)).length≤(Xt st).length:=by cases Xt st<;>simp[XN]
  have:=h.sl
  unfold Wo
  split<;>simp<;>omega
theorem fI1(l:List (Int×Int)):Qp (l.map (Qr ·.1)):=XV (fun a x hx=>by simp[Qr]at hx;subst hx;rfl) l
theorem fI2(l:List (Int×Int)):Qp (l.map (Qr ·.2)):=XV (fun a x hx=>by simp[Qr]at hx;subst hx;rfl) l
theorem QY{g:Int×Int→List AVal}{l:List (Int×Int)}{i:Nat}(hl:l.length=i)(x:Int×Int):List.take i (List.drop 0 (l.map g))++[g x]=(l++[x]).map g:=by
 rw[List.drop_zero,List.take_of_length_le (by rw[List.length_map];omega)];simp
theorem ED[Syms]{na N:Nat}{e:Env}{H:Heap}{nx:Nat}(h2:(e.get 2).isZ 1=true)(h3:(e.get 3).isZ 1=true):Reb na N ⟨e,H,nx⟩ ⟨[(3,vI []),(2,vI [])],[],nx⟩:=by
 refine(Xm (k:=2) (y:=vI []) fun ι v hv=>.vt _ _ _ _ (hv.isZ h2)).trans ((Xm (e:=(2,vI [])::e) (k:=3) (y:=vI []) fun ι v hv=>.vt _ _ _ _ (RelV.isZ (ι:=ι) (sz:=1) h3 (show RelV ι (e.get 3) v from hv))).trans (Wt (fun j=>?_) (fun m b h=>by rw[Heap.get_nil]at h;cases h)))
 rw[Env.get_cons,Env.get_cons,Env.get_cons,Env.get_cons,Env.get_nil]
 cases Nat.beq j 3<;>cases Nat.beq j 2<;>simp
theorem Dg[Syms]{na N:Nat}{e:Env}{H:Heap}{nx i:Nat}{out:List (Int×Int)}(h2:e.get 2=sI 0 i)(h3:e.get 3=sI 1 i)(hb0:H.get 0=some (.cells (out.map (Qr ·.1)) false))(hb1:H.get 1=some (.cells (out.map (Qr ·.2)) false))(hol:out.length=i):
 Reb na N ⟨e,H,nx⟩ ⟨[(3,vI (out.map (·.2))),(2,vI (out.map (·.1)))],[],nx⟩:=by
 refine(Xy (enc:=Qr) (k:=2) 0 (l:=out.map (·.1)) [(3,sI 1 i)] [(1,some (.cells (out.map (Qr ·.2)) false))] h2 hb0 (fI1 _) ?_ ?_ ?_ ?_).trans (Xy (enc:=Qr) (k:=3) 0 (l:=out.map (·.2)) [(2,vI (out.map (·.1)))] [] rfl rfl (fI2 _) ?_ ?_ ?_ ?_)
 ·rw[List.take_of_length_le (by simp;omega),List.map_map];rfl
 ·simp;omega
 ·intro p hp;simp only[List.mem_singleton]at hp;subst hp;exact⟨show(3:Nat)≠2 by decide,h3⟩
 ·intro m b h
  rw[Heap.get_cons,Heap.get_nil]at h
  by_cases hm:m=1
  ·subst hm;rw[Nat.beq_refl]at h;rw[Heap.get_set_ne _ _ (by decide),hb1];exact h
  ·rw[QP hm]at h;cases h
 ·rw[List.take_of_length_le (by simp;omega),List.map_map];rfl
 ·simp;omega
 ·intro p hp;simp only[List.mem_singleton]at hp;subst hp;exact⟨show(2:Nat)≠3 by decide,rfl⟩
 ·intro m b h;rw[Heap.get_nil]at h;cases h
theorem W4{st:Stk}{q:List (List AVal)}{g:Int×Int→List AVal}{n:Nat}(hn:n=st.length):List.take n (List.drop 0 (st.reverse.map g++q))=st.reverse.map g:=by
 rw[List.drop_zero,hn,show st.length=(st.reverse.map g).length by simp];exact List.take_left
theorem PG[Syms](fs:List Fd)(hl:fs.length<1000)(hk:∀i,(fs.getD i default).kids≤9223372036854775807):
 fnT Q7 Q7 (Qx fns) (Qo tys) (Qz plt) 100 78 [vF fs] [] 0 (fun v H _=>v= .tup [vI (Qi fs),vI (X1 fs)]∧H=[]):=by
 refine⟨fun n s=>∃i st out,(RInv fs i st out∧n=fs.length-i)∧rSt fs i st out s,⟨_,rA fs 0,Q0 [] rfl ?_ ?_,0,[],[],⟨⟨by omega,rfl,rfl,by simp,by simp⟩,rfl⟩,.inl ⟨rfl,rfl,rfl,rfl⟩⟩,?_⟩
 ·exact⟨.refl _,.refl _,.refl _,.refl _,.refl _,.refl _,trivial⟩
 ·exact trivial
 rintro n s ⟨i,st,out,⟨hI,rfl⟩,(⟨h0,rfl,rfl,rfl⟩|⟨rfl,rfl⟩|⟨j1,j2,R,S,⟨hj1,hj2,hR,hS⟩,rfl⟩)⟩
 ·have hle:=hI.le
  have hol:=hI.len
  by_cases hin:i<fs.length
  ·have hnx:=JO hk hI hin
   by_cases hc:(fs.getD i default).kind=0∧0<(fs.getD i default).kids
   ·rw[Wo,if_pos hc,show Xt []=[] from rfl]at hnx
    repeat' first|refine And.intro ?_ ?_|(intro h;try first|exact dz|replace h:=cv)
    all_goals try exact cz
    refine Xo ?_
    repeat' first|refine And.intro ?_ ?_|(intro h;try first|exact dz|replace h:=cv)
    all_goals try exact cz
    all_goals(try exact NoSel.mk (by kernel_rfl))
    refine⟨rD fs i 1 ([]++[(-1,0)]) [Qr ((i:Nat):Int)] [Qr (fs.getD i default).kids],?_,?_⟩
    · repeat' first|refine And.intro ?_ ?_|(intro h;try first|exact dz|replace h:=cv)
      all_goals try exact cz
      all_goals(try exact Apart.mk (by kernel_rfl))
      all_goals refine Exists.intro () ?_
      all_goals first
      |(refine Q0 [1,3,5,7] (by exact rfl) ?_ ?_
        ·exact⟨.refl _,Q8 (by first|rfl|omega),Q8 (by first|rfl|omega),.refl _,.refl _,.refl _,trivial⟩
        ·exact⟨⟨by decide,_,rfl,Q2 (by subst h0;rfl) (fI1 _)⟩,⟨by decide,_,rfl,Q2 (by subst h0;rfl) (fI2 _)⟩,⟨by decide,_,rfl,Q2 rfl (fI [_])⟩,⟨by decide,_,rfl,Q2 rfl (fI [_])⟩,trivial⟩)
      |(refine Q0 [1,3,6,7] (by exact rfl) ?_ ?_
        ·exact⟨.refl _,Q8 (by first|rfl|omega),Q8 (by first|rfl|omega),.refl _,.refl _,.refl _,trivial⟩
        ·exact⟨⟨by decide,_,rfl,Q2 (by subst h0;rfl) (fI1 _)⟩,⟨by decide,_,rfl,Q2 (by subst h0;rfl) (fI2 _)⟩,⟨by decide,_,rfl,Q2 rfl (fI [_])⟩,⟨by decide,_,rfl,Q2 rfl (fI [_])⟩,trivial⟩)
      |(refine Q0 [1,3,7,6] (by exact rfl) ?_ ?_
        ·exact⟨.refl _,Q8 (by first|rfl|omega),Q8 (by first|rfl|omega),.refl _,.refl _,.refl _,trivial⟩
        ·exact⟨⟨by decide,_,rfl,Q2 (by subst h0;rfl) (fI1 _)⟩,⟨by decide,_,rfl,Q2 (by subst h0;rfl) (fI2 _)⟩,⟨by decide,_,rfl,Q2 rfl (fI [_])⟩,⟨by decide,_,rfl,Q2 rfl (fI [_])⟩,trivial⟩)
      |(refine Q0 [1,3,7,5] (by exact rfl) ?_ ?_
        ·exact⟨.refl _,Q8 (by first|rfl|omega),Q8 (by first|rfl|omega),.refl _,.refl _,.refl _,trivial⟩
        ·exact⟨⟨by decide,_,rfl,Q2 (by subst h0;rfl) (fI1 _)⟩,⟨by decide,_,rfl,Q2 (by subst h0;rfl) (fI2 _)⟩,⟨by decide,_,rfl,Q2 rfl (fI [_])⟩,⟨by decide,_,rfl,Q2 rfl (fI [_])⟩,trivial⟩)
    repeat' first|refine And.intro ?_ ?_|(intro h;try first|exact dz|replace h:=cv)
    all_goals try exact cz
    exact⟨_,rC fs (i+1) 1 ([]++[(-1,0)]) [Qr ((i:Nat):Int)] [Qr (fs.getD i default).kids],.refl _ _ _,⟨_,_,_,⟨hnx,rfl⟩,.inr (.inr ⟨[],[],_,_,⟨QL,QL,rfl,rfl⟩,rfl⟩)⟩,by omega⟩
   ·rw[Wo,if_neg hc,show Xt []=[] from rfl]at hnx
    repeat' first|refine And.intro ?_ ?_|(intro h;try first|exact dz|replace h:=cv)
    all_goals try exact cz
    refine Xo ?_
    repeat' first|refine And.intro ?_ ?_|(intro h;try first|exact dz|replace h:=cv)
    all_goals try exact cz
    all_goals
     refine⟨_,rB fs (i+1) ([]++[(-1,0)]),Q0 [1,3] rfl ?_ ?_,⟨_,_,_,⟨hnx,rfl⟩,.inr (.inl ⟨rfl,rfl⟩)⟩,by omega⟩
     ·exact⟨.refl _,Q8 (by first|rfl|omega),Q8 (by first|rfl|omega),.refl _,.refl _,.refl _,trivial⟩
     ·exact⟨⟨by decide,_,rfl,Q2 (by subst h0;rfl) (fI1 _)⟩,⟨by decide,_,rfl,Q2 (by subst h0;rfl) (fI2 _)⟩,trivial⟩
  · repeat' first|refine And.intro ?_ ?_|(intro h;try first|exact dz|replace h:=cv)
    all_goals try exact cz
    have h0:fs=[]:=List.eq_nil_of_length_eq_zero (by omega)
    subst h0
    exact⟨_,ED rfl rfl,_,rfl,rfl,rfl⟩
 ·have hle:=hI.le
  have hol:=hI.len
  by_cases hin:i<fs.length
  ·have hnx:=JO hk hI hin
   by_cases hc:(fs.getD i default).kind=0∧0<(fs.getD i default).kids
   ·rw[Wo,if_pos hc,show Xt []=[] from rfl]at hnx
    repeat' first|refine And.intro ?_ ?_|(intro h;try first|exact dz|replace h:=cv)
    all_goals try exact cz
    refine Xo ?_
    repeat' first|refine And.intro ?_ ?_|(intro h;try first|exact dz|replace h:=cv)
    all_goals try exact cz
    all_goals(try exact NoSel.mk (by kernel_rfl))
    refine⟨rD fs i 1 (out++[(-1,0)]) [Qr ((i:Nat):Int)] [Qr (fs.getD i default).kids],?_,?_⟩
    · repeat' first|refine And.intro ?_ ?_|(intro h;try first|exact dz|replace h:=cv)
      all_goals try exact cz
      all_goals(try exact Apart.mk (by kernel_rfl))
      all_goals refine Exists.intro () ?_
      all_goals first
      |(refine Q0 [3,5,7,9] (by exact rfl) ?_ ?_
        ·exact⟨.refl _,Q8 (by first|rfl|omega),Q8 (by first|rfl|omega),.refl _,.refl _,.refl _,trivial⟩
        ·exact⟨⟨by decide,_,rfl,Q2 (QY (g:=(Qr ·.1)) hol (-1,0)) (fI1 _)⟩,⟨by decide,_,rfl,Q2 (QY (g:=(Qr ·.2)) hol (-1,0)) (fI2 _)⟩,⟨by decide,_,rfl,Q2 rfl (fI [_])⟩,⟨by decide,_,rfl,Q2 rfl (fI [_])⟩,trivial⟩)
      |(refine Q0 [3,5,8,9] (by exact rfl) ?_ ?_
        ·exact⟨.refl _,Q8 (by first|rfl|omega),Q8 (by first|rfl|omega),.refl _,.refl _,.refl _,trivial⟩
        ·exact⟨⟨by decide,_,rfl,Q2 (QY (g:=(Qr ·.1)) hol (-1,0)) (fI1 _)⟩,⟨by decide,_,rfl,Q2 (QY (g:=(Qr ·.2)) hol (-1,0)) (fI2 _)⟩,⟨by decide,_,rfl,Q2 rfl (fI [_])⟩,⟨by decide,_,rfl,Q2 rfl (fI [_])⟩,trivial⟩)
      |(refine Q0 [3,5,9,8] (by exact rfl) ?_ ?_
        ·exact⟨.refl _,Q8 (by first|rfl|omega),Q8 (by first|rfl|omega),.refl _,.refl _,.refl _,trivial⟩
        ·exact⟨⟨by decide,_,rfl,Q2 (QY (g:=(Qr ·.1)) hol (-1,0)) (fI1 _)⟩,⟨by decide,_,rfl,Q2 (QY (g:=(Qr ·.2)) hol (-1,0)) (fI2 _)⟩,⟨by decide,_,rfl,Q2 rfl (fI [_])⟩,⟨by decide,_,rfl,Q2 rfl (fI [_])⟩,trivial⟩)
      |(refine Q0 [3,5,9,7] (by exact rfl) ?_ ?_
        ·exact⟨.refl _,Q8 (by first|rfl|omega),Q8 (by first|rfl|omega),.refl _,.refl _,.refl _,trivial⟩
        ·exact⟨⟨by decide,_,rfl,Q2 (QY (g:=(Qr ·.1)) hol (-1,0)) (fI1 _)⟩,⟨by decide,_,rfl,Q2 (QY (g:=(Qr ·.2)) hol (-1,0)) (fI2 _)⟩,⟨by decide,_,rfl,Q2 rfl (fI [_])⟩,⟨by decide,_,rfl,Q2 rfl (fI [_])⟩,trivial⟩)
    repeat' first|refine And.intro ?_ ?_|(intro h;try first|exact dz|replace h:=cv)
    all_goals try exact cz
    exact⟨_,rC fs (i+1) 1 (out++[(-1,0)]) [Qr ((i:Nat):Int)] [Qr (fs.getD i default).kids],.refl _ _ _,⟨_,_,_,⟨hnx,rfl⟩,.inr (.inr ⟨[],[],_,_,⟨QL,QL,rfl,rfl⟩,rfl⟩)⟩,by omega⟩
   ·rw[Wo,if_neg hc,show Xt []=[] from rfl]at hnx
    repeat' first|refine And.intro ?_ ?_|(intro h;try first|exact dz|replace h:=cv)
    all_goals try exact cz
    refine Xo ?_
    repeat' first|refine And.intro ?_ ?_|(intro h;try first|exact dz|replace h:=cv)
    all_goals try exact cz
    all_goals
     refine⟨_,rB fs (i+1) (out++[(-1,0)]),Q0 [3,5] rfl ?_ ?_,⟨_,_,_,⟨hnx,rfl⟩,.inr (.inl ⟨rfl,rfl⟩)⟩,by omega⟩
     ·exact⟨.refl _,Q8 (by first|rfl|omega),Q8 (by first|rfl|omega),.refl _,.refl _,.refl _,trivial⟩
     ·exact⟨⟨by decide,_,rfl,Q2 (QY (g:=(Qr ·.1)) hol (-1,0)) (fI1 _)⟩,⟨by decide,_,rfl,Q2 (QY (g:=(Qr ·.2)) hol (-1,0)) (fI2 _)⟩,trivial⟩
  · repeat' first|refine And.intro ?_ ?_|(intro h;try first|exact dz|replace h:=cv)
    all_goals try exact cz
    have hrun:=hI.run
    rw[List.drop_of_length_le (by omega),HO]at hrun
    simp only[D6,List.append_nil]at hrun
    exact⟨_,Dg (out:=out) rfl rfl rfl rfl hol,_,rfl,by rw[hrun];rfl,rfl⟩
 ·have hle:=hI.le
  have hol:=hI.len
  have hsl:=hI.sl
  have hfR:Qp R:=hR▸QA (fI1 _) hj1
  have hfS:Qp S:=hS▸QA (fI2 _) hj2
  by_cases hin:i<fs.length
  · repeat' first|refine And.intro ?_ ?_|(intro h;try first|exact dz|replace h:=cv)
    all_goals try exact cz
    refine⟨fun m s=>∃(st1:Stk) (q1 q2:List (List AVal)),(m=st1.length∧Xt st1=Xt st∧R=st1.reverse.map (Qr ·.1)++q1∧S=st1.reverse.map (Qr ·.2)++q2∧Qp q1∧Qp q2∧(∀p∈st1,0≤p.2∧p.2≤9223372036854775807)∧st1.length≤st.length)∧s=rC fs i st1.length out R S,⟨_,rC fs i st.length out R S,HX [0,4,5,6,7,8],st,j1,j2,⟨rfl,rfl,hR,hS,hj1,hj2,hI.pos,Nat.le_refl _⟩,rfl⟩,?_⟩
    rintro m s ⟨st1,q1,q2,⟨rfl,hp1,hR1,hS1,hq1,hq2,hb1,hl1⟩,rfl⟩
    have hnx:=JO hk hI hin
    rw[←hp1]at hnx
    clear hI hj1 hj2 hR hS
    cases st1 with
    |nil=>
     have hx1:True=True:=rfl
     have hx2:True=True:=rfl
     have hx3:True=True:=rfl
     have hx4:True=True:=rfl
     by_cases hc:(fs.getD i default).kind=0∧0<(fs.getD i default).kids
     ·rw[Wo,if_pos hc]at hnx
      repeat' first|refine And.intro ?_ ?_|(intro h;try first|exact dzi|replace h:=cvi)
      all_goals try exact cz
      all_goals(try first|((with_reducible show(_:Int)≤(_:Int));simp only[hx2,hx3,hx4,Qd,Qn,Zb,Nat.zero_add];omega)|((with_reducible show(_:Int)<(_:Int));simp only[hx2,hx3,hx4,Qd,Qn,Zb,Nat.zero_add];omega)|((with_reducible show(_:Nat)≤(_:Nat));simp only[hx2,hx3,hx4,Xq,List.length_set,Nat.zero_add];omega)|((with_reducible show(_:Nat)<(_:Nat));simp only[hx2,hx3,hx4,Xq,List.length_set,Nat.zero_add];omega)|((with_reducible show isC _ _ _=true);simp only[hx2,hx3,hx4,Qd,Qn,Zb,Nat.zero_add];exact rfl))
      refine⟨rD fs i 1 (out++[(-1,0)]) [Qr (i:Int)] [Qr (fs.getD i default).kids],?_,?_⟩
      · repeat' first|refine And.intro ?_ ?_|(intro h;try first|exact dzi|replace h:=cvi)
        all_goals try exact cz
        all_goals(try first|((with_reducible show(_:Int)≤(_:Int));simp only[hx2,hx3,hx4,Qd,Qn,Zb,Nat.zero_add];omega)|((with_reducible show(_:Int)<(_:Int));simp only[hx2,hx3,hx4,Qd,Qn,Zb,Nat.zero_add];omega)|((with_reducible show(_:Nat)≤(_:Nat));simp only[hx2,hx3,hx4,Xq,List.length_set,Nat.zero_add];omega)|((with_reducible show(_:Nat)<(_:Nat));simp only[hx2,hx3,hx4,Xq,List.length_set,Nat.zero_add];omega)|((with_reducible show isC _ _ _=true);simp only[hx2,hx3,hx4,Qd,Qn,Zb,Nat.zero_add];exact rfl))
        all_goals refine Exists.intro () ?_
        all_goals first
        |(refine Q0 [5,7,9,11] (by exact rfl) ?_ ?_
          ·exact⟨.refl _,Q8 (by first|rfl|omega),Q8 (by first|rfl|omega),Q8 (by first|rfl|omega),Q8 (by first|rfl|omega),.refl _,trivial⟩
          ·refine⟨⟨by decide,_,rfl,Q2 ?_ (fI1 _)⟩,⟨by decide,_,rfl,Q2 ?_ (fI2 _)⟩,⟨by decide,_,rfl,Q2 ?_ (fI [_])⟩,⟨by decide,_,rfl,Q2 ?_ (fI [_])⟩,trivial⟩
           ·exact QY (g:=(Qr ·.1)) hol (-1,0)
           ·exact QY (g:=(Qr ·.2)) hol (-1,0)
           ·rfl
           ·rfl)
        |(refine Q0 [5,7,10,11] (by exact rfl) ?_ ?_
          ·exact⟨.refl _,Q8 (by first|rfl|omega),Q8 (by first|rfl|omega),Q8 (by first|rfl|omega),Q8 (by first|rfl|omega),.refl _,trivial⟩
          ·refine⟨⟨by decide,_,rfl,Q2 ?_ (fI1 _)⟩,⟨by decide,_,rfl,Q2 ?_ (fI2 _)⟩,⟨by decide,_,rfl,Q2 ?_ (fI [_])⟩,⟨by decide,_,rfl,Q2 ?_ (fI [_])⟩,trivial⟩
           ·exact QY (g:=(Qr ·.1)) hol (-1,0)
           ·exact QY (g:=(Qr ·.2)) hol (-1,0)
           ·rfl
           ·rfl)
        |(refine Q0 [5,7,11,10] (by exact rfl) ?_ ?_
          ·exact⟨.refl _,Q8 (by first|rfl|omega),Q8 (by first|rfl|omega),Q8 (by first|rfl|omega),Q8 (by first|rfl|omega),.refl _,trivial⟩
          ·refine⟨⟨by decide,_,rfl,Q2 ?_ (fI1 _)⟩,⟨by decide,_,rfl,Q2 ?_ (fI2 _)⟩,⟨by decide,_,rfl,Q2 ?_ (fI [_])⟩,⟨by decide,_,rfl,Q2 ?_ (fI [_])⟩,trivial⟩
           ·exact QY (g:=(Qr ·.1)) hol (-1,0)
           ·exact QY (g:=(Qr ·.2)) hol (-1,0)
           ·rfl
           ·rfl)
        |(refine Q0 [5,7,11,9] (by exact rfl) ?_ ?_
          ·exact⟨.refl _,Q8 (by first|rfl|omega),Q8 (by first|rfl|omega),Q8 (by first|rfl|omega),Q8 (by first|rfl|omega),.refl _,trivial⟩
          ·refine⟨⟨by decide,_,rfl,Q2 ?_ (fI1 _)⟩,⟨by decide,_,rfl,Q2 ?_ (fI2 _)⟩,⟨by decide,_,rfl,Q2 ?_ (fI [_])⟩,⟨by decide,_,rfl,Q2 ?_ (fI [_])⟩,trivial⟩
           ·exact QY (g:=(Qr ·.1)) hol (-1,0)
           ·exact QY (g:=(Qr ·.2)) hol (-1,0)
           ·rfl
           ·rfl)
      repeat' first|refine And.intro ?_ ?_|(intro h;try first|exact dzi|replace h:=cvi)
      all_goals try exact cz
      exact⟨_,rC fs (i+1) 1 (out++[(-1,0)]) [Qr (i:Int)] [Qr (fs.getD i default).kids],.refl _ _ _,⟨_,_,_,⟨hnx,rfl⟩,.inr (.inr ⟨[],[],_,_,⟨QL,QL,rfl,rfl⟩,rfl⟩)⟩,by omega⟩
     ·rw[Wo,if_neg hc]at hnx
      repeat' first|refine And.intro ?_ ?_|(intro h;try first|exact dzi|replace h:=cvi)
      all_goals try exact cz
      all_goals(try first|((with_reducible show(_:Int)≤(_:Int));simp only[hx2,hx3,hx4,Qd,Qn,Zb,Nat.zero_add];omega)|((with_reducible show(_:Int)<(_:Int));simp only[hx2,hx3,hx4,Qd,Qn,Zb,Nat.zero_add];omega)|((with_reducible show(_:Nat)≤(_:Nat));simp only[hx2,hx3,hx4,Xq,List.length_set,Nat.zero_add];omega)|((with_reducible show(_:Nat)<(_:Nat));simp only[hx2,hx3,hx4,Xq,List.length_set,Nat.zero_add];omega)|((with_reducible show isC _ _ _=true);simp only[hx2,hx3,hx4,Qd,Qn,Zb,Nat.zero_add];exact rfl))
      all_goals
       refine⟨_,rC fs (i+1) 0 (out++[(-1,0)]) R S,Q0 [5,7,2,3] rfl ?_ ?_,⟨_,_,_,⟨hnx,rfl⟩,.inr (.inr ⟨R,S,_,_,⟨hfR,hfS,rfl,rfl⟩,rfl⟩)⟩,by omega⟩
       ·exact⟨.refl _,Q8 (by first|rfl|omega),Q8 (by first|rfl|omega),Q8 (by first|rfl|omega),Q8 (by first|rfl|omega),.refl _,trivial⟩
       ·refine⟨⟨by decide,_,rfl,Q2 ?_ (fI1 _)⟩,⟨by decide,_,rfl,Q2 ?_ (fI2 _)⟩,⟨by decide,_,rfl,Qa hfR⟩,⟨by decide,_,rfl,Q2 ?_ hfS⟩,trivial⟩
        ·exact QY (g:=(Qr ·.1)) hol (-1,0)
        ·exact QY (g:=(Qr ·.2)) hol (-1,0)
        ·rfl
    |cons q t=>
     obtain⟨a,k⟩:=q
     have hx4:((↑(t.length+1):Int)-1).toNat=t.length:=by omega
     have hx1:True=True:=rfl
     have hx2:R.getD t.length []=Qr a:=by rw[hR1];simp[List.getElem?_append,List.getElem?_map]
     have hx3:S.getD t.length []=Qr k:=by rw[hS1];simp[List.getElem?_append,List.getElem?_map]
     have hRl:t.length<R.length:=by rw[hR1];simp
     have hSl:t.length<S.length:=by rw[hS1];simp
     have hkb:=hb1 (a,k) (List.mem_cons_self ..)
     have htl:t.length+1≤st.length:=hl1
     simp only at hkb
     rw[List.length_cons]
     by_cases hk0:k=0
     ·skip
      have hpz:Xt ((a,k)::t)=Xt t:=by rw[Xt,if_pos hk0]
      repeat' first|refine And.intro ?_ ?_|(intro h;try first|exact dzi|replace h:=cvi)
      all_goals try exact cz
      all_goals(try first|((with_reducible show(_:Int)≤(_:Int));simp only[hx2,hx3,hx4,Qd,Qn,Zb,Nat.zero_add];omega)|((with_reducible show(_:Nat)≤(_:Nat));simp only[hx2,hx3,hx4,Xq,List.length_set,Nat.zero_add];omega)|((with_reducible show isC _ _ _=true);simp only[hx2,hx3,hx4,Qd,Qn,Zb,Nat.zero_add];exact rfl))
      refine⟨t.length,rC fs i t.length out R S,Q0 [0,1,2,3] rfl ?_ ?_,⟨t,Qr a::q1,Qr k::q2,⟨rfl,hpz▸hp1,by rw[hR1];simp,by rw[hS1];simp,ZM (fun x hx=>by simp[Qr]at hx;subst hx;rfl) hq1,ZM (fun x hx=>by simp[Qr]at hx;subst hx;rfl) hq2,fun p hp=>hb1 p (List.mem_cons_of_mem _ hp),by omega⟩,rfl⟩,by omega⟩
      ·exact⟨.refl _,.refl _,.refl _,Q8 (by first|rfl|omega),Q8 (by first|rfl|omega),.refl _,trivial⟩
      ·exact⟨⟨by decide,_,rfl,Qa (fI1 _)⟩,⟨by decide,_,rfl,Qa (fI2 _)⟩,⟨by decide,_,rfl,Qa hfR⟩,⟨by decide,_,rfl,Qa hfS⟩,trivial⟩
     ·skip
      have hpz:Xt ((a,k)::t)=(a,k)::t:=by rw[Xt,if_neg hk0]
      rw[hpz]at hnx
      have hset:S.set t.length (Qr (k-1))=((a,k-1)::t).reverse.map (Qr ·.2)++q2:=by rw[hS1];simp[List.set_append]
      have hRq:R=((a,k-1)::t).reverse.map (Qr ·.1)++q1:=by rw[hR1];simp
      have hfS2:Qp (S.set t.length (Qr (k-1))):=hset▸QA (fI2 _) hq2
      by_cases hc:(fs.getD i default).kind=0∧0<(fs.getD i default).kids
      ·rw[Wo,if_pos hc]at hnx
       repeat' first|refine And.intro ?_ ?_|(intro h;try first|exact dzi|replace h:=cvi)
       all_goals try exact cz
       all_goals(try first|((with_reducible show(_:Int)≤(_:Int));simp only[hx2,hx3,hx4,Qd,Qn,Zb,Nat.zero_add];omega)|((with_reducible show(_:Int)<(_:Int));simp only[hx2,hx3,hx4,Qd,Qn,Zb,Nat.zero_add];omega)|((with_reducible show(_:Nat)≤(_:Nat));simp only[hx2,hx3,hx4,Xq,List.length_set,Nat.zero_add];omega)|((with_reducible show(_:Nat)<(_:Nat));simp only[hx2,hx3,hx4,Xq,List.length_set,Nat.zero_add];omega)|((with_reducible show isC _ _ _=true);simp only[hx2,hx3,hx4,Qd,Qn,Zb,Nat.zero_add];exact rfl))
       refine⟨rD fs i (t.length+1+1) (out++[(a,((t.length+1:Nat):Int))]) (((((i:Nat):Int),(fs.getD i default).kids)::(a,k-1)::t).reverse.map (Qr ·.1)) (((((i:Nat):Int),(fs.getD i default).kids)::(a,k-1)::t).reverse.map (Qr ·.2)),?_,?_⟩
       · repeat' first|refine And.intro ?_ ?_|(intro h;try first|exact dzi|replace h:=cvi)
         all_goals try exact cz
         all_goals(try first|((with_reducible show(_:Int)≤(_:Int));simp only[hx2,hx3,hx4,Qd,Qn,Zb,Nat.zero_add];omega)|((with_reducible show(_:Int)<(_:Int));simp only[hx2,hx3,hx4,Qd,Qn,Zb,Nat.zero_add];omega)|((with_reducible show(_:Nat)≤(_:Nat));simp only[hx2,hx3,hx4,Xq,List.length_set,Nat.zero_add];omega)|((with_reducible show(_:Nat)<(_:Nat));simp only[hx2,hx3,hx4,Xq,List.length_set,Nat.zero_add];omega)|((with_reducible show isC _ _ _=true);simp only[hx2,hx3,hx4,Qd,Qn,Zb,Nat.zero_add];exact rfl))
         all_goals refine Exists.intro () ?_
         all_goals first
         |(refine Q0 [6,8,10,12] (by exact rfl) ?_ ?_
           ·exact⟨.refl _,Q8 (by first|rfl|omega),Q8 (by first|rfl|omega),Q8 (by first|rfl|omega),Q8 (by first|rfl|omega),.refl _,trivial⟩
           ·refine⟨⟨by decide,_,rfl,Q2 ?_ (fI1 _)⟩,⟨by decide,_,rfl,Q2 ?_ (fI2 _)⟩,⟨by decide,_,rfl,Q2 ?_ (fI1 _)⟩,⟨by decide,_,rfl,Q2 ?_ (fI2 _)⟩,trivial⟩
            ·show List.take i (List.drop 0 (out.map (Qr ·.1)))++[[.int .i64 (asI ((R.getD (0+((↑(t.length+1):Int)-1).toNat) []).getD 0 .any))]]=_;rw[Nat.zero_add,hx4,hx2];exact QY (g:=(Qr ·.1)) hol (a,((t.length+1:Nat):Int))
            ·exact QY (g:=(Qr ·.2)) hol (a,((t.length+1:Nat):Int))
            ·show List.take (t.length+1) (List.drop 0 R)++[Qr i]=_;rw[hRq,W4 (by simp)];simp
            ·show List.take (t.length+1) (List.drop 0 (S.set (0+((↑(t.length+1):Int)-1).toNat) (QI (S.getD (0+((↑(t.length+1):Int)-1).toNat) []) 0 [.int .i64 (asI ((S.getD (0+((↑(t.length+1):Int)-1).toNat) []).getD 0 .any)-1)])))++[Qr (fs.getD i default).kids]=_;rw[Nat.zero_add,hx4,hx3,show QI (Qr k) 0 [.int .i64 (asI ((Qr k).getD 0 .any)-1)]=Qr (k-1) from rfl,hset,W4 (by simp)];simp)
         |(refine Q0 [6,8,11,12] (by exact rfl) ?_ ?_
           ·exact⟨.refl _,Q8 (by first|rfl|omega),Q8 (by first|rfl|omega),Q8 (by first|rfl|omega),Q8 (by first|rfl|omega),.refl _,trivial⟩
           ·refine⟨⟨by decide,_,rfl,Q2 ?_ (fI1 _)⟩,⟨by decide,_,rfl,Q2 ?_ (fI2 _)⟩,⟨by decide,_,rfl,Q2 ?_ (fI1 _)⟩,⟨by decide,_,rfl,Q2 ?_ (fI2 _)⟩,trivial⟩
            ·show List.take i (List.drop 0 (out.map (Qr ·.1)))++[[.int .i64 (asI ((R.getD (0+((↑(t.length+1):Int)-1).toNat) []).getD 0 .any))]]=_;rw[Nat.zero_add,hx4,hx2];exact QY (g:=(Qr ·.1)) hol (a,((t.length+1:Nat):Int))
            ·exact QY (g:=(Qr ·.2)) hol (a,((t.length+1:Nat):Int))
            ·show List.take (t.length+1) (List.drop 0 R)++[Qr i]=_;rw[hRq,W4 (by simp)];simp
            ·show List.take (t.length+1) (List.drop 0 (S.set (0+((↑(t.length+1):Int)-1).toNat) (QI (S.getD (0+((↑(t.length+1):Int)-1).toNat) []) 0 [.int .i64 (asI ((S.getD (0+((↑(t.length+1):Int)-1).toNat) []).getD 0 .any)-1)])))++[Qr (fs.getD i default).kids]=_;rw[Nat.zero_add,hx4,hx3,show QI (Qr k) 0 [.int .i64 (asI ((Qr k).getD 0 .any)-1)]=Qr (k-1) from rfl,hset,W4 (by simp)];simp)
         |(refine Q0 [6,8,12,11] (by exact rfl) ?_ ?_
           ·exact⟨.refl _,Q8 (by first|rfl|omega),Q8 (by first|rfl|omega),Q8 (by first|rfl|omega),Q8 (by first|rfl|omega),.refl _,trivial⟩
           ·refine⟨⟨by decide,_,rfl,Q2 ?_ (fI1 _)⟩,⟨by decide,_,rfl,Q2 ?_ (fI2 _)⟩,⟨by decide,_,rfl,Q2 ?_ (fI1 _)⟩,⟨by decide,_,rfl,Q2 ?_ (fI2 _)⟩,trivial⟩
            ·show List.take i (List.drop 0 (out.map (Qr ·.1)))++[[.int .i64 (asI ((R.getD (0+((↑(t.length+1):Int)-1).toNat) []).getD 0 .any))]]=_;rw[Nat.zero_add,hx4,hx2];exact QY (g:=(Qr ·.1)) hol (a,((t.length+1:Nat):Int))
            ·exact QY (g:=(Qr ·.2)) hol (a,((t.length+1:Nat):Int))
            ·show List.take (t.length+1) (List.drop 0 R)++[Qr i]=_;rw[hRq,W4 (by simp)];simp
            ·show List.take (t.length+1) (List.drop 0 (S.set (0+((↑(t.length+1):Int)-1).toNat) (QI (S.getD (0+((↑(t.length+1):Int)-1).toNat) []) 0 [.int .i64 (asI ((S.getD (0+((↑(t.length+1):Int)-1).toNat) []).getD 0 .any)-1)])))++[Qr (fs.getD i default).kids]=_;rw[Nat.zero_add,hx4,hx3,show QI (Qr k) 0 [.int .i64 (asI ((Qr k).getD 0 .any)-1)]=Qr (k-1) from rfl,hset,W4 (by simp)];simp)
         |(refine Q0 [6,8,12,10] (by exact rfl) ?_ ?_
           ·exact⟨.refl _,Q8 (by first|rfl|omega),Q8 (by first|rfl|omega),Q8 (by first|rfl|omega),Q8 (by first|rfl|omega),.refl _,trivial⟩
           ·refine⟨⟨by decide,_,rfl,Q2 ?_ (fI1 _)⟩,⟨by decide,_,rfl,Q2 ?_ (fI2 _)⟩,⟨by decide,_,rfl,Q2 ?_ (fI1 _)⟩,⟨by decide,_,rfl,Q2 ?_ (fI2 _)⟩,trivial⟩
            ·show List.take i (List.drop 0 (out.map (Qr ·.1)))++[[.int .i64 (asI ((R.getD (0+((↑(t.length+1):Int)-1).toNat) []).getD 0 .any))]]=_;rw[Nat.zero_add,hx4,hx2];exact QY (g:=(Qr ·.1)) hol (a,((t.length+1:Nat):Int))
            ·exact QY (g:=(Qr ·.2)) hol (a,((t.length+1:Nat):Int))
            ·show List.take (t.length+1) (List.drop 0 R)++[Qr i]=_;rw[hRq,W4 (by simp)];simp
            ·show List.take (t.length+1) (List.drop 0 (S.set (0+((↑(t.length+1):Int)-1).toNat) (QI (S.getD (0+((↑(t.length+1):Int)-1).toNat) []) 0 [.int .i64 (asI ((S.getD (0+((↑(t.length+1):Int)-1).toNat) []).getD 0 .any)-1)])))++[Qr (fs.getD i default).kids]=_;rw[Nat.zero_add,hx4,hx3,show QI (Qr k) 0 [.int .i64 (asI ((Qr k).getD 0 .any)-1)]=Qr (k-1) from rfl,hset,W4 (by simp)];simp)
       repeat' first|refine And.intro ?_ ?_|(intro h;try first|exact dzi|replace h:=cvi)
       all_goals try exact cz
       exact⟨_,rC fs (i+1) (t.length+1+1) (out++[(a,((t.length+1:Nat):Int))]) (((((i:Nat):Int),(fs.getD i default).kids)::(a,k-1)::t).reverse.map (Qr ·.1)) (((((i:Nat):Int),(fs.getD i default).kids)::(a,k-1)::t).reverse.map (Qr ·.2)),.refl _ _ _,⟨_,_,_,⟨hnx,rfl⟩,.inr (.inr ⟨[],[],_,_,⟨QL,QL,(List.append_nil _).symm,(List.append_nil _).symm⟩,rfl⟩)⟩,by omega⟩
      ·rw[Wo,if_neg hc]at hnx
       repeat' first|refine And.intro ?_ ?_|(intro h;try first|exact dzi|replace h:=cvi)
       all_goals try exact cz
       all_goals(try first|((with_reducible show(_:Int)≤(_:Int));simp only[hx2,hx3,hx4,Qd,Qn,Zb,Nat.zero_add];omega)|((with_reducible show(_:Int)<(_:Int));simp only[hx2,hx3,hx4,Qd,Qn,Zb,Nat.zero_add];omega)|((with_reducible show(_:Nat)≤(_:Nat));simp only[hx2,hx3,hx4,Xq,List.length_set,Nat.zero_add];omega)|((with_reducible show(_:Nat)<(_:Nat));simp only[hx2,hx3,hx4,Xq,List.length_set,Nat.zero_add];omega)|((with_reducible show isC _ _ _=true);simp only[hx2,hx3,hx4,Qd,Qn,Zb,Nat.zero_add];exact rfl))
       all_goals
        refine⟨_,rC fs (i+1) (t.length+1) (out++[(a,((t.length+1:Nat):Int))]) R (S.set t.length (Qr (k-1))),Q0 [6,8,2,3] rfl ?_ ?_,⟨_,_,_,⟨hnx,rfl⟩,.inr (.inr ⟨q1,q2,_,_,⟨hq1,hq2,hRq,hset⟩,rfl⟩)⟩,by omega⟩
        ·exact⟨.refl _,Q8 (by first|rfl|omega),Q8 (by first|rfl|omega),Q8 (by first|rfl|omega),Q8 (by first|rfl|omega),.refl _,trivial⟩
        ·refine⟨⟨by decide,_,rfl,Q2 ?_ (fI1 _)⟩,⟨by decide,_,rfl,Q2 ?_ (fI2 _)⟩,⟨by decide,_,rfl,Qa hfR⟩,⟨by decide,_,rfl,Q2 ?_ hfS2⟩,trivial⟩
         ·show List.take i (List.drop 0 (out.map (Qr ·.1)))++[[.int .i64 (asI ((R.getD (0+((↑(t.length+1):Int)-1).toNat) []).getD 0 .any))]]=_;rw[Nat.zero_add,hx4,hx2];exact QY (g:=(Qr ·.1)) hol (a,((t.length+1:Nat):Int))
         ·exact QY (g:=(Qr ·.2)) hol (a,((t.length+1:Nat):Int))
         ·show S.set (0+((↑(t.length+1):Int)-1).toNat) (QI (S.getD (0+((↑(t.length+1):Int)-1).toNat) []) 0 [.int .i64 (asI ((S.getD (0+((↑(t.length+1):Int)-1).toNat) []).getD 0 .any)-1)])=S.set t.length (Qr (k-1));rw[Nat.zero_add,hx4,hx3];rfl
  · repeat' first|refine And.intro ?_ ?_|(intro h;try first|exact dz|replace h:=cv)
    all_goals try exact cz
    have hrun:=hI.run
    rw[List.drop_of_length_le (by omega),HO]at hrun
    simp only[D6,List.append_nil]at hrun
    exact⟨_,Dg (out:=out) rfl rfl rfl rfl hol,_,rfl,by rw[hrun];rfl,rfl⟩
end
section
set_option maxRecDepth 100000
set_option maxHeartbeats 4000000
def S_rwalk:SpecI:=fun args K=>∃fs,args=[vF fs]∧FsOk fs∧K (.tup [vI (Qi fs),vI (X1 fs)])
theorem Cf[Syms]:Zs Try.prog 78 S_rwalk:=by
 rintro args K ⟨fs,rfl,h,hk⟩
 exact⟨rfl,_,rfl,hk,fnI Qf Qg Q3 Q9 Qw (PG fs h.len h.kids)⟩
end
section
set_option maxRecDepth 100000
set_option maxHeartbeats 4000000
theorem SW[Syms](fs:List Fd)(hF:FsOk fs):
 fnT Q7 (Q6 78 (X0 S_rwalk) Q7) (Qx fns) (Qo tys) (Qz plt) 100 48 [vF fs] [] 0 (fun v H _=>v=vI (Qi fs)∧H=[]):=by
 refine⟨fs,rfl,hF,?_⟩
 repeat' first|refine And.intro ?_ ?_|(intro h;try first|exact dz|replace h:=cv)
 all_goals try exact cz
 exact⟨_,Q1 [2] rfl,_,rfl,rfl,rfl⟩
theorem PV[Syms]:Zs Try.prog 48 S_par:=by
 rintro args K ⟨fs,rfl,h,hk⟩
 exact⟨rfl,_,rfl,hk,fnI Qf Qg Q3 (Qh Cf Q9) Qw (SW fs h)⟩
abbrev SA:CallT:=Q6 48 (X0 S_par) Q7
theorem P1[Syms]:SA.ok Try.prog:=Qh PV Q9
end
section
set_option maxRecDepth 100000
set_option maxHeartbeats 4000000
def rlE(fs:List Fd)(ps:List Int)(i:Nat)(o:AVal):Env:=[(0,vF fs),(3,vI ps),(4,o),(5,.int .i64 i)]
def rlA(fs:List Fd)(ps:List Int)(i:Nat):St:=⟨rlE fs ps i .nils,[],0⟩
def rlB(fs:List Fd)(ps:List Int)(i:Nat):St:=⟨rlE fs ps i (.slice 0 0 (Zk fs ps i).length 4 none),[(0,some (.cells ((Zk fs ps i).map ZO) false))],1⟩
def clA(fs:List Fd)(ps:List Int)(i:Nat)(x:Lf)(k:Int):St:=⟨rlE fs ps i .nils++[(6,.ptr 0 0 0),(7,.int .i64 k)],[(0,some (.cells [ZO x] false))],1⟩
def clB(fs:List Fd)(ps:List Int)(i:Nat)(x:Lf)(k:Int):St:=⟨rlE fs ps i (.slice 0 0 (Zk fs ps i).length 4 none)++[(6,.ptr 1 0 0),(7,.int .i64 k)],[(0,some (.cells ((Zk fs ps i).map ZO) false)),(1,some (.cells [ZO x] false))],2⟩
theorem Oa{a b:Lf}(h1:a.field=b.field)(h2:a.r=b.r)(h3:a.d=b.d)(h4:a.kind=b.kind):a=b:=by cases a;cases b;simp_all
theorem L2[Syms](fs:List Fd)(hF:FsOk fs):
 fnT Q7 SA (Qx fns) (Qo tys) (Qz plt) 100 21 [vF fs] [] 0 (fun v H _=>v=vL (Qt fs)∧H=[]):=by
 have hl:=hF.len
 refine⟨fs,rfl,hF,?_⟩
 have hpl:=XR fs
 have ha:=UY fs
 unfold Qt
 generalize Qi fs=ps at *
 refine⟨fun m s=>∃i:Nat,(i≤fs.length∧m=fs.length-i)∧((Zk fs ps i=[]∧s=rlA fs ps i)∨s=rlB fs ps i),⟨_,rlA fs ps 0,Q1 [0,3,4,5] rfl,0,⟨by omega,rfl⟩,.inl ⟨rfl,rfl⟩⟩,?_⟩
 rintro m s ⟨i,⟨hi,rfl⟩,(⟨h0,rfl⟩|rfl)⟩
 ·have hol:=Zf fs ps i
  by_cases hin:i<fs.length
  ·by_cases hk:(fs.getD i default).kind=0
   · repeat' first|refine And.intro ?_ ?_|(intro h;try first|exact dz|replace h:=cv)
     all_goals try exact cz
     exact⟨_,rlA fs ps (i+1),Q1 [0,3,4,5] rfl,⟨i+1,⟨by omega,rfl⟩,.inl ⟨by rw[Qc,if_neg (fun h=>h hk)];exact h0,rfl⟩⟩,by omega⟩
   · repeat' first|refine And.intro ?_ ?_|(intro h;try first|exact dz|replace h:=cv)
     all_goals try exact cz
     have hq:=VB (fs:=fs) ha fs.length (Nat.le_refl _) i hin
     have hL:mkL fs ps (Qq fs ps i) i=(Qq fs ps fs.length).getD i default:=(W6 fs ps hin).symm
     have hR:upR fs ps fs.length i=(mkL fs ps (Qq fs ps i) i).r:=by rw[upR,if_pos (by omega),hL];rfl
     have hD:upD fs ps fs.length i=(mkL fs ps (Qq fs ps i) i).d:=by rw[upD,if_pos (by omega),hL];rfl
     rw[←hL]at hq
     have hf0:(mkL fs ps (Qq fs ps i) i).field=i:=rfl
     have hf3:(mkL fs ps (Qq fs ps i) i).kind=(fs.getD i default).kind:=rfl
     have hl1:(Zk fs ps (i+1)).length=(Zk fs ps i).length+1:=by rw[Qc,if_pos hk,List.length_append];rfl
     have hl2:Zk fs ps (i+1)=Zk fs ps i++[mkL fs ps (Qq fs ps i) i]:=by rw[Qc,if_pos hk]
     generalize mkL fs ps (Qq fs ps i) i=L at *
     refine⟨fun m s=>∃(k r d:Int),(m=(k+1).toNat∧ -1≤k∧k≤i∧r+upR fs ps fs.length k=L.r∧d+upD fs ps fs.length k=L.d∧0≤r∧r≤i-k∧0≤d∧d≤i-k)∧s=clA fs ps i ⟨i,r,d,(fs.getD i default).kind⟩ k,⟨_,clA fs ps i ⟨i,0,0,(fs.getD i default).kind⟩ i,Q0 [0] rfl ?_ ?_,i,0,0,⟨rfl,by omega,by omega,by omega,by omega,by omega,by omega,by omega,by omega⟩,rfl⟩,?_⟩
     ·exact⟨.refl _,.refl _,.refl _,.refl _,.refl _,.refl _,trivial⟩
     ·exact⟨⟨by decide,_,rfl,Q2 rfl (fL [_])⟩,trivial⟩
     rintro m s ⟨k,r,d,⟨rfl,hk1,hk2,hr1,hd1,hr0,hr2,hd0,hd2⟩,rfl⟩
     by_cases hk0:0≤k
     ·obtain⟨k,rfl⟩:=Int.eq_ofNat_of_zero_le hk0
      have hs1:=C5 (fs:=fs) ha (k:=k) (by omega)
      have hs2:=C6 (fs:=fs) ha (k:=k) (by omega)
      have hq2:=ha k (by omega)
      rw[hs1]at hr1
      rw[hs2]at hd1
      repeat' first|refine And.intro ?_ ?_|(intro h;try first|exact dz|replace h:=cv)
      all_goals try exact cz
      all_goals(try first|(show(-9223372036854775808:Int)≤r+1;omega)|(show r+1≤(9223372036854775807:Int);omega)|(show(-9223372036854775808:Int)≤d+1;omega)|(show d+1≤(9223372036854775807:Int);omega))
      ·rw[if_pos (by assumption)]at hr1
       rw[if_pos (by assumption)]at hd1
       refine⟨_,clA fs ps i ⟨i,r+1,d+1,(fs.getD i default).kind⟩ (ps.getD k 0),Q0 [0] rfl ?_ ?_,⟨_,_,_,⟨rfl,by omega,by omega,by omega,by omega,by omega,by omega,by omega,by omega⟩,rfl⟩,by omega⟩
       ·exact⟨.refl _,.refl _,.refl _,.refl _,.refl _,.refl _,trivial⟩
       ·exact⟨⟨by decide,_,rfl,Q2 rfl (fL [_])⟩,trivial⟩
      ·rw[if_neg (by assumption)]at hr1
       rw[if_pos (by assumption)]at hd1
       refine⟨_,clA fs ps i ⟨i,r,d+1,(fs.getD i default).kind⟩ (ps.getD k 0),Q0 [0] rfl ?_ ?_,⟨_,_,_,⟨rfl,by omega,by omega,by omega,by omega,by omega,by omega,by omega,by omega⟩,rfl⟩,by omega⟩
       ·exact⟨.refl _,.refl _,.refl _,.refl _,.refl _,.refl _,trivial⟩
       ·exact⟨⟨by decide,_,rfl,Q2 rfl (fL [_])⟩,trivial⟩
      ·rw[if_neg (by assumption)]at hr1
       rw[if_neg (fun hh=>hh (by assumption))]at hd1
       refine⟨_,clA fs ps i ⟨i,r,d,(fs.getD i default).kind⟩ (ps.getD k 0),Q0 [0] rfl ?_ ?_,⟨_,_,_,⟨rfl,by omega,by omega,by omega,by omega,by omega,by omega,by omega,by omega⟩,rfl⟩,by omega⟩
       ·exact⟨.refl _,.refl _,.refl _,.refl _,.refl _,.refl _,trivial⟩
       ·exact⟨⟨by decide,_,rfl,Q2 rfl (fL [_])⟩,trivial⟩
     ·have hu1:upR fs ps fs.length k=0:=by rw[upR,if_neg hk0]
      have hu2:upD fs ps fs.length k=0:=by rw[upD,if_neg hk0]
      have hxL:(⟨i,r,d,(fs.getD i default).kind⟩:Lf)=L:=Oa hf0.symm (by show r=L.r;omega) (by show d=L.d;omega) hf3.symm
      repeat' first|refine And.intro ?_ ?_|(intro h;try first|exact dz|replace h:=cv)
      all_goals try exact cz
      refine⟨_,rlB fs ps (i+1),Q0 [2] rfl ?_ ?_,⟨i+1,⟨by omega,rfl⟩,.inr rfl⟩,by omega⟩
      ·exact⟨.refl _,.refl _,Q8 (by rw[hl1];rw[h0];rfl),.refl _,trivial⟩
      ·refine⟨⟨by decide,_,rfl,Q2 ?_ (fL _)⟩,trivial⟩
       rw[hl2,h0,←hxL];rfl
  · repeat' first|refine And.intro ?_ ?_|(intro h;try first|exact dz|replace h:=cv)
    all_goals try exact cz
    obtain rfl:i=fs.length:=by omega
    exact⟨_,VQ (k:=2) 4 ZO default rfl,_,rfl,by rw[h0];rfl,rfl⟩
 ·have hol:=Zf fs ps i
  by_cases hin:i<fs.length
  ·by_cases hk:(fs.getD i default).kind=0
   · repeat' first|refine And.intro ?_ ?_|(intro h;try first|exact dz|replace h:=cv)
     all_goals try exact cz
     refine⟨_,rlB fs ps (i+1),Q0 [0] rfl ?_ ?_,⟨i+1,⟨by omega,rfl⟩,.inr rfl⟩,by omega⟩
     ·exact⟨.refl _,.refl _,Q8 (by rw[Qc,if_neg (fun h=>h hk)]),.refl _,trivial⟩
     ·exact⟨⟨by decide,_,rfl,Q2 (by rw[Qc,if_neg (fun h=>h hk)]) (fL _)⟩,trivial⟩
   · repeat' first|refine And.intro ?_ ?_|(intro h;try first|exact dz|replace h:=cv)
     all_goals try exact cz
     have hq:=VB (fs:=fs) ha fs.length (Nat.le_refl _) i hin
     have hL:mkL fs ps (Qq fs ps i) i=(Qq fs ps fs.length).getD i default:=(W6 fs ps hin).symm
     have hR:upR fs ps fs.length i=(mkL fs ps (Qq fs ps i) i).r:=by rw[upR,if_pos (by omega),hL];rfl
     have hD:upD fs ps fs.length i=(mkL fs ps (Qq fs ps i) i).d:=by rw[upD,if_pos (by omega),hL];rfl
     rw[←hL]at hq
     have hf0:(mkL fs ps (Qq fs ps i) i).field=i:=rfl
     have hf3:(mkL fs ps (Qq fs ps i) i).kind=(fs.getD i default).kind:=rfl
     have hl1:(Zk fs ps (i+1)).length=(Zk fs ps i).length+1:=by rw[Qc,if_pos hk,List.length_append];rfl
     have hl2:Zk fs ps (i+1)=Zk fs ps i++[mkL fs ps (Qq fs ps i) i]:=by rw[Qc,if_pos hk]
     generalize mkL fs ps (Qq fs ps i) i=L at *
     refine⟨fun m s=>∃(k r d:Int),(m=(k+1).toNat∧ -1≤k∧k≤i∧r+upR fs ps fs.length k=L.r∧d+upD fs ps fs.length k=L.d∧0≤r∧r≤i-k∧0≤d∧d≤i-k)∧s=clB fs ps i ⟨i,r,d,(fs.getD i default).kind⟩ k,⟨_,clB fs ps i ⟨i,0,0,(fs.getD i default).kind⟩ i,Q0 [0,1] rfl ?_ ?_,i,0,0,⟨rfl,by omega,by omega,by omega,by omega,by omega,by omega,by omega,by omega⟩,rfl⟩,?_⟩
     ·exact⟨.refl _,.refl _,.refl _,.refl _,.refl _,.refl _,trivial⟩
     ·exact⟨⟨by decide,_,rfl,Qa (fL _)⟩,⟨by decide,_,rfl,Q2 rfl (fL [_])⟩,trivial⟩
     rintro m s ⟨k,r,d,⟨rfl,hk1,hk2,hr1,hd1,hr0,hr2,hd0,hd2⟩,rfl⟩
     by_cases hk0:0≤k
     ·obtain⟨k,rfl⟩:=Int.eq_ofNat_of_zero_le hk0
      have hs1:=C5 (fs:=fs) ha (k:=k) (by omega)
      have hs2:=C6 (fs:=fs) ha (k:=k) (by omega)
      have hq2:=ha k (by omega)
      rw[hs1]at hr1
      rw[hs2]at hd1
      repeat' first|refine And.intro ?_ ?_|(intro h;try first|exact dz|replace h:=cv)
      all_goals try exact cz
      all_goals(try first|(show(-9223372036854775808:Int)≤r+1;omega)|(show r+1≤(9223372036854775807:Int);omega)|(show(-9223372036854775808:Int)≤d+1;omega)|(show d+1≤(9223372036854775807:Int);omega))
      ·rw[if_pos (by assumption)]at hr1
       rw[if_pos (by assumption)]at hd1
       refine⟨_,clB fs ps i ⟨i,r+1,d+1,(fs.getD i default).kind⟩ (ps.getD k 0),Q0 [0,1] rfl ?_ ?_,⟨_,_,_,⟨rfl,by omega,by omega,by omega,by omega,by omega,by omega,by omega,by omega⟩,rfl⟩,by omega⟩
       ·exact⟨.refl _,.refl _,.refl _,.refl _,.refl _,.refl _,trivial⟩
       ·exact⟨⟨by decide,_,rfl,Qa (fL _)⟩,⟨by decide,_,rfl,Q2 rfl (fL [_])⟩,trivial⟩
      ·rw[if_neg (by assumption)]at hr1
       rw[if_pos (by assumption)]at hd1
       refine⟨_,clB fs ps i ⟨i,r,d+1,(fs.getD i default).kind⟩ (ps.getD k 0),Q0 [0,1] rfl ?_ ?_,⟨_,_,_,⟨rfl,by omega,by omega,by omega,by omega,by omega,by omega,by omega,by omega⟩,rfl⟩,by omega⟩
       ·exact⟨.refl _,.refl _,.refl _,.refl _,.refl _,.refl _,trivial⟩
       ·exact⟨⟨by decide,_,rfl,Qa (fL _)⟩,⟨by decide,_,rfl,Q2 rfl (fL [_])⟩,trivial⟩
      ·rw[if_neg (by assumption)]at hr1
       rw[if_neg (fun hh=>hh (by assumption))]at hd1
       refine⟨_,clB fs ps i ⟨i,r,d,(fs.getD i default).kind⟩ (ps.getD k 0),Q0 [0,1] rfl ?_ ?_,⟨_,_,_,⟨rfl,by omega,by omega,by omega,by omega,by omega,by omega,by omega,by omega⟩,rfl⟩,by omega⟩
       ·exact⟨.refl _,.refl _,.refl _,.refl _,.refl _,.refl _,trivial⟩
       ·exact⟨⟨by decide,_,rfl,Qa (fL _)⟩,⟨by decide,_,rfl,Q2 rfl (fL [_])⟩,trivial⟩
     ·have hu1:upR fs ps fs.length k=0:=by rw[upR,if_neg hk0]
      have hu2:upD fs ps fs.length k=0:=by rw[upD,if_neg hk0]
      have hxL:(⟨i,r,d,(fs.getD i default).kind⟩:Lf)=L:=Oa hf0.symm (by show r=L.r;omega) (by show d=L.d;omega) hf3.symm
      repeat' first|refine And.intro ?_ ?_|(intro h;try first|exact dz|replace h:=cv)
      all_goals try exact cz
      refine⟨_,rlB fs ps (i+1),Q0 [3] rfl ?_ ?_,⟨i+1,⟨by omega,rfl⟩,.inr rfl⟩,by omega⟩
      ·exact⟨.refl _,.refl _,Q8 (by rw[hl1]),.refl _,trivial⟩
      ·refine⟨⟨by decide,_,rfl,Q2 ?_ (fL _)⟩,trivial⟩
       rw[hl2,List.map_append,←hxL];show List.take _ (List.drop 0 ((Zk fs ps i).map ZO))++[_]=_;rw[List.drop_zero,List.take_of_length_le (by rw[List.length_map];exact Nat.le_refl _)];rfl
  · repeat' first|refine And.intro ?_ ?_|(intro h;try first|exact dz|replace h:=cv)
    all_goals try exact cz
    obtain rfl:i=fs.length:=by omega
    exact⟨_,YS (enc:=ZO) (k:=2) default (l:=Zk fs ps fs.length) rfl rfl (fL _) (List.take_of_length_le (by simp)) (by simp),_,rfl,rfl,rfl⟩
theorem Ka[Syms]:Zs Try.prog 21 S_leaves:=by
 rintro args K ⟨fs,rfl,h,hk⟩
 exact⟨rfl,_,rfl,hk,fnI Qf Qg Q3 P1 Qw (L2 fs h)⟩
end
end Go.Proofs.Ytajieadpaeggcaa
