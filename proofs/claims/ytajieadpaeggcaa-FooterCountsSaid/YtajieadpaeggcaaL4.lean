/-
  What may be of a chunk;the order of values. The program's. What may be of all that is said. The program's. What a file says of itself,read. The program's. A schema's bytes. The program's. A page,a truth,a value behind bytes. The program's. A chunk behind bytes. The program's. What a file says of itself,as bytes. The program's. What is asked of 'Make',and what it answers. Files' descriptions made of raw numbers,as plain data. Plain. A value of a kind,of a raw one;a number from 0 to n-1;the chapter's example. The document's walk over a shape:of each field its group,and its depth. The document's 'walk':what is asked of it,and what it answers. The document's 'Parents':it answers as the program's. The document's 'Leaves':by climbing from each leaf.
-/
import Derived.Test.YtajieadpaeggcaaL3
import Derived.Test.YtajieadpaeggcaaL2
import Derived.Test.YtajieadpaeggcaaL1
import Derived.Test.YtajieadpaeggcaaWithin
import Derived.Test.YtajieadpaeggcaaSxOne
set_option linter.unusedVariables false
set_option linter.unusedSimpArgs false
namespace Go.Proofs.Ytajieadpaeggcaa
open Go Go.Av
section
set_option maxRecDepth 100000
set_option maxHeartbeats 4000000
abbrev bN[Syms]:CallT:=Ft Q7 Q7 (Qv fns) (Qn tys) (Qz plt) 100
abbrev TN[Syms]:CallT:=Q6 115 bN (Q6 116 bN Q7)
theorem Sq[Syms]:bN.ok Try.prog:=XX Qh Qi Q3 Q9 Qt
theorem Iv[Syms]:TN.ok Try.prog:=Xz Sq (Xz Sq Q9)
theorem J6:∀s:List UInt8,eqb s s=true
 |[]=>rfl
 |a::s=>by rw[eqb,Nat.beq_refl,J6 s];rfl
theorem Tn[Syms](a b:List UInt8):fnT Q7 TN (Qv fns) (Qn tys) (Qz plt) 100 107 [.str a,.str b] [] 0 (fun v H _=>v= .int .i64 (U4 a b)∧H=[]):=by
 have hx1:=J6 a
 have hx2:=J6 b
 refine⟨_,.refl _ _ _,_,rfl,?_⟩
 refine⟨_,.refl _ _ _,_,rfl,?_⟩
 rw[hx1,hx2]
 unfold U4
 cases hl:Op.bytesLess a b
 ·cases he:eqb a b
  all_goals
   have hx3:=hl
   have hx4:=he
   repeat' first|refine And.intro ?_ ?_|(intro h;try first|exact dzi|replace h:=cvi)
   all_goals try exact cz
  all_goals first|exact⟨_,Q2 [4] rfl,_,rfl,rfl,rfl⟩|(exfalso;simp_all)
 ·have hx3:=hl
  have hx4:=hl
  repeat' first|refine And.intro ?_ ?_|(intro h;try first|exact dzi|replace h:=cvi)
  all_goals try exact cz
  all_goals first|exact⟨_,Q2 [4] rfl,_,rfl,rfl,rfl⟩|(exfalso;simp_all)
def S_cmpS:SpecI:=fun args K=>∃a b,args=[.str a,.str b]∧K (.int .i64 (U4 a b))
theorem Rz[Syms]:Zx Try.prog 107 S_cmpS:=by
 rintro args K ⟨a,b,rfl,hk⟩
 exact⟨rfl,_,rfl,hk,fnI Qh Qi Q3 Iv Qt (Tn a b)⟩
theorem To[Syms](a b:Int):fnT Q7 TN (Qv fns) (Qn tys) (Qz plt) 100 108 [.int .i64 a,.int .i64 b] [] 0 (fun v H _=>v= .int .i64 (U3 a b)∧H=[]):=by
 refine⟨_,.refl _ _ _,_,rfl,?_⟩
 refine⟨_,.refl _ _ _,_,rfl,?_⟩
 unfold U3
 by_cases h1:a<b
 ·rw[if_pos h1]
  repeat' first|refine And.intro ?_ ?_|(intro h;try first|exact dz|replace h:=cv)
  all_goals try exact cz
  all_goals exact⟨_,Q2 [4] rfl,_,rfl,rfl,rfl⟩
 ·rw[if_neg h1]
  by_cases h2:b<a
  ·rw[if_pos h2]
   repeat' first|refine And.intro ?_ ?_|(intro h;try first|exact dz|replace h:=cv)
   all_goals try exact cz
   all_goals exact⟨_,Q2 [4] rfl,_,rfl,rfl,rfl⟩
  ·rw[if_neg h2]
   repeat' first|refine And.intro ?_ ?_|(intro h;try first|exact dz|replace h:=cv)
   all_goals try exact cz
   all_goals exact⟨_,Q2 [4] rfl,_,rfl,rfl,rfl⟩
def S_cmpI:SpecI:=fun args K=>∃a b,args=[.int .i64 a,.int .i64 b]∧K (.int .i64 (U3 a b))
theorem RA[Syms]:Zx Try.prog 108 S_cmpI:=by
 rintro args K ⟨a,b,rfl,hk⟩
 exact⟨rfl,_,rfl,hk,fnI Qh Qi Q3 Iv Qt (To a b)⟩
abbrev cCmp:CallT:=Q6 107 (Xc S_cmpS) (Q6 108 (Xc S_cmpI) Q7)
theorem S3[Syms]:cCmp.ok Try.prog:=Qk Rz (Qk RA Q9)
theorem Q0k[Syms](k:Int)(a b:Vl):fnT Q7 cCmp (Qv fns) (Qn tys) (Qz plt) 100 86 [.int .i64 k,.agg (ZU a),.agg (ZU b)] [] 0 (fun v H _=>v= .int .i64 (UN k a b)∧H=[]):=by
 unfold UN
 by_cases h4:k=4
 ·rw[if_pos h4]
  repeat' first|refine And.intro ?_ ?_|(intro h;try first|exact dz|replace h:=cv)
  all_goals try exact cz
  refine⟨a.s,b.s,rfl,?_⟩
  exact⟨_,Q2 [6] rfl,_,rfl,rfl,rfl⟩
 ·rw[if_neg h4]
  repeat' first|refine And.intro ?_ ?_|(intro h;try first|exact dz|replace h:=cv)
  all_goals try exact cz
  refine⟨a.n,b.n,rfl,?_⟩
  exact⟨_,Q2 [6] rfl,_,rfl,rfl,rfl⟩
def S_cmp:SpecI:=fun args K=>∃k a b,args=[.int .i64 k,.agg (ZU a),.agg (ZU b)]∧K (.int .i64 (UN k a b))
theorem Tm[Syms]:Zx Try.prog 86 S_cmp:=by
 rintro args K ⟨k,a,b,rfl,hk⟩
 exact⟨rfl,_,rfl,hk,fnI Qh Qi Q3 S3 Qt (Q0k k a b)⟩
def Kt(p:Pg):Prop:=(0≤p.rows∧p.rows≤1048576)∧(0≤p.cells∧p.cells≤1048576)
def sdS(k n:Int)(c:Ck)(i:Nat)(rs cs:Int)(w:Bool):St:=⟨[(0,.int .i64 k),(1,.int .i64 n),(5,.ptr 0 0 0),(7,.int .i64 rs),(8,.int .i64 cs),(9,.bool w),(13,vP c.pages),(14,.int .i64 c.pages.length),(15,.int .i64 i)],[(0,some (.cells [encC c] false))],1⟩
def sdB(k n:Int)(c:Ck)(i:Nat)(rs cs:Int)(w:Bool):St:=⟨[(0,.int .i64 k),(1,.int .i64 n),(5,.ptr 0 0 0),(7,.int .i64 rs),(8,.int .i64 cs),(9,.bool w),(11,.ptr 1 0 0),(13,vP c.pages),(14,.int .i64 c.pages.length),(15,.int .i64 i)],[(0,some (.cells [encC c] false)),(1,some (.cells [encP (c.pages.getD i default)] false))],2⟩
theorem BX(f:Pg→Int):∀(l m:List Pg),X4 f (l++m)=X4 f l+X4 f m
 |[],m=>by rw[List.nil_append,X4];omega
 |x::l,m=>by rw[List.cons_append,X4,X4,BX f l m];omega
theorem UA(f:Pg→Int){l:List Pg}{i:Nat}(h:i<l.length):X4 f (l.take (i+1))=X4 f (l.take i)+f (l.getD i default):=by
 rw[List.take_add_one,BX,List.getD_eq_getElem?_getD,List.getElem?_eq_getElem h]
 simp[X4]
theorem KG(f:Pg→Int):∀(l:List Pg),(∀p∈l,0≤f p∧f p≤1048576)→0≤X4 f l∧X4 f l≤1048576*l.length
 |[],_=>⟨Int.le_refl _,by simp[X4]⟩
 |x::l,h=>by
  have h1:=h x (List.mem_cons_self ..)
  have h2:=KG f l fun p hp=>h p (List.mem_cons_of_mem _ hp)
  rw[X4,List.length_cons]
  omega
theorem Jr(f:Pg→Bool){l:List Pg}{i:Nat}(h:i<l.length):(l.take (i+1)).all f=((l.take i).all f&&f (l.getD i default)):=by
 rw[List.take_add_one,List.all_append,List.getD_eq_getElem?_getD,List.getElem?_eq_getElem h]
 simp
noncomputable def plSd:Nat→Nat→Pl:=XG [(60,4)] (Qz plt)
abbrev cSd:CallT:=Q6 86 (Xc S_cmp) Q7
theorem Tw[Syms]:cSd.ok Try.prog:=Qk Tm Q9
theorem Px[Syms](k n:Int)(c:Ck)(hp:∀p∈c.pages,Kt p)(hl:c.pages.length≤200):
 fnT Q7 cSd (Qv fns) (Qn tys) plSd 100 60 [.int .i64 k,.int .i64 n,.agg (encC c)] [] 0 (fun v H _=>v= .bool (Zg k n c)∧H=[]):=by
 repeat' first|refine And.intro ?_ ?_|(intro h;try first|exact dzq|replace h:=cvq)
 all_goals try exact cz
 refine⟨fun m s=>∃(i:Nat) (rs cs:Int) (w:Bool),(i≤c.pages.length∧m=c.pages.length-i∧rs=X4 (·.rows) (c.pages.take i)∧cs=X4 (·.cells) (c.pages.take i)∧w=(c.pages.take i).all (fun p=>decide (p.enc=2))∧(c.pages.take i).all (fun p=>decide (p.rows≠0))=true)∧s=sdS k n c i rs cs w,⟨_,sdS k n c 0 0 0 true,Q0 [0] (by exact rfl) ⟨.refl _,.refl _,.refl _,.refl _,.refl _,.refl _,.tab rfl,Qp (by show((List.length _:Nat):Int)=_;rw[List.length_map]),.refl _,trivial⟩ ⟨⟨by decide,_,rfl,.refl _⟩,trivial⟩,0,0,0,true,⟨by omega,rfl,rfl,rfl,rfl,rfl⟩,rfl⟩,?_⟩
 rintro m s ⟨i,rs,cs,w,⟨hi,rfl,hrs,hcs,hw,ha⟩,rfl⟩
 have hin:∀j,j<c.pages.length→Kt (c.pages.getD j default):=fun j hj=>by
  rw[List.getD_eq_getElem?_getD,List.getElem?_eq_getElem hj];exact hp _ (List.getElem_mem hj)
 have hb1:=KG (·.rows) (c.pages.take i) fun p hq=>(hp p (List.mem_of_mem_take hq)).1
 have hb2:=KG (·.cells) (c.pages.take i) fun p hq=>(hp p (List.mem_of_mem_take hq)).2
 have htl:(c.pages.take i).length≤200:=by rw[List.length_take];omega
 rw[←hrs]at hb1
 rw[←hcs]at hb2
 by_cases h1:i<c.pages.length
 ·have hpi:=hin i h1
  have e1:=UA (·.rows) h1
  have e2:=UA (·.cells) h1
  have e3:=Jr (fun p=>decide (p.enc=2)) h1
  have e4:=Jr (fun p=>decide (p.rows≠0)) h1
  rw[←hrs]at e1
  rw[←hcs]at e2
  rw[←hw]at e3
  rw[ha]at e4
  obtain⟨hpr,hpc⟩:=hpi
  repeat' first|refine And.intro ?_ ?_|(intro h;try first|exact dzq|replace h:=cvq)
  all_goals try exact cz
  refine⟨sdB k n c i rs cs w,Q0 [0,1] (by exact rfl) ⟨.refl _,.refl _,.refl _,.refl _,.refl _,.refl _,.refl _,.refl _,.refl _,.refl _,trivial⟩ ⟨⟨by decide,_,rfl,.refl _⟩,⟨by decide,_,rfl,QM (row:=encP (c.pages.getD i default)) ⟨.refl _,.refl _,.refl _,.refl _,.refl _,.refl _,.refl _,trivial⟩ (eP _)⟩,trivial⟩,?_⟩
  by_cases h2:(c.pages.getD i default).rows=0
  · repeat' first|refine And.intro ?_ ?_|(intro h;try first|exact dzq|replace h:=cvq)
    all_goals try exact cz
    have hf:Zg k n c=false:=by
     have:c.pages.all (fun p=>decide (p.rows≠0))=false:=by
      rw[List.all_eq_false]
      exact⟨_,List.getElem_mem h1,by rw[List.getD_eq_getElem?_getD,List.getElem?_eq_getElem h1]at h2;simpa using h2⟩
     unfold Zg
     rw[this];rfl
    exact⟨_,Q2 [6] rfl,_,rfl,by rw[hf];rfl,rfl⟩
  ·have hstep:∀(w':Bool) (rs' cs':Int),rs'=rs+(c.pages.getD i default).rows→cs'=cs+(c.pages.getD i default).cells→w'=(w&&decide ((c.pages.getD i default).enc=2))→ ∃(j:Nat) (rs1 cs1:Int) (w1:Bool),(j≤c.pages.length∧c.pages.length-(i+1)=c.pages.length-j∧rs1=X4 (·.rows) (c.pages.take j)∧cs1=X4 (·.cells) (c.pages.take j)∧w1=(c.pages.take j).all (fun p=>decide (p.enc=2))∧(c.pages.take j).all (fun p=>decide (p.rows≠0))=true)∧sdS k n c (i+1) rs' cs' w'=sdS k n c j rs1 cs1 w1:=by
    rintro w' rs' cs' rfl rfl rfl
    exact⟨i+1,_,_,_,⟨by omega,rfl,e1.symm,e2.symm,e3.symm,by rw[e4,decide_eq_true h2];rfl⟩,rfl⟩
   cases w
   · repeat' first|refine And.intro ?_ ?_|(intro h;try first|exact dzq|replace h:=cvq)
     all_goals try exact czq
     exact⟨_,sdS k n c (i+1) (rs+(c.pages.getD i default).rows) (cs+(c.pages.getD i default).cells) false,Q0 [0] (by exact rfl) ⟨.refl _,.refl _,.refl _,.refl _,.refl _,.refl _,.refl _,.refl _,Qp (by omega),trivial⟩ ⟨⟨by decide,_,rfl,.refl _⟩,trivial⟩,hstep _ _ _ rfl rfl rfl,by omega⟩
   · repeat' first|refine And.intro ?_ ?_|(intro h;try first|exact dzq|replace h:=cvq)
     all_goals try exact czq
     exact⟨_,sdS k n c (i+1) (rs+(c.pages.getD i default).rows) (cs+(c.pages.getD i default).cells) (decide ((c.pages.getD i default).enc=2)),Q0 [0] (by exact rfl) ⟨.refl _,.refl _,.refl _,.refl _,.refl _,ZV rfl,.refl _,.refl _,Qp (by omega),trivial⟩ ⟨⟨by decide,_,rfl,.refl _⟩,trivial⟩,hstep _ _ _ rfl rfl rfl,by omega⟩
 ·obtain rfl:i=c.pages.length:=by omega
  rw[List.take_length]at hrs hcs hw ha
  have hso:Zg k n c=(decide (rs=n)&&decide (c.words≤256)&&(w||decide (c.words=0∧c.size=0))&&(!c.known||decide (c.st.nulls≤cs)&&decide (0≤UN k c.st.mx c.st.mn))):=by
   unfold Zg
   rw[ha,←hrs,←hcs,←hw];rfl
  rw[hso]
  clear hso hrs hcs hw ha hin htl
  by_cases h2:rs=n
  ·by_cases h3:c.words≤256
   ·cases w
    ·by_cases h4:c.words=0
     ·by_cases h5:c.size=0
      ·cases hk:c.known
       ·have hx1:=hk
        have hx2:=hk
        have hx3:=hk
        have hx4:=hk
        repeat' first|refine And.intro ?_ ?_|(intro h;try first|exact ZD|replace h:=ZE)
        all_goals try exact cz
        all_goals exact⟨_,Q2 [6] rfl,_,rfl,congrArg AVal.bool (by simp[*]),rfl⟩
       ·have hx1:=hk
        have hx2:=hk
        have hx3:=hk
        have hx4:=hk
        by_cases h6:c.st.nulls≤cs
        · repeat' first|refine And.intro ?_ ?_|(intro h;try first|exact ZD|replace h:=ZE)
          all_goals try exact cz
          all_goals refine⟨k,c.st.mx,c.st.mn,rfl,?_⟩
          repeat' first|refine And.intro ?_ ?_|(intro h;try first|exact ZD|replace h:=ZE)
          all_goals try exact cz
          all_goals exact⟨_,Q2 [6] rfl,_,rfl,congrArg AVal.bool (by simp[*]),rfl⟩
        · repeat' first|refine And.intro ?_ ?_|(intro h;try first|exact ZD|replace h:=ZE)
          all_goals try exact cz
          all_goals exact⟨_,Q2 [6] rfl,_,rfl,congrArg AVal.bool (by simp[*]),rfl⟩
      · repeat' first|refine And.intro ?_ ?_|(intro h;try first|exact dzq|replace h:=cvq)
        all_goals try exact cz
        all_goals exact⟨_,Q2 [6] rfl,_,rfl,congrArg AVal.bool (by simp[*]),rfl⟩
     · repeat' first|refine And.intro ?_ ?_|(intro h;try first|exact dzq|replace h:=cvq)
       all_goals try exact cz
       all_goals exact⟨_,Q2 [6] rfl,_,rfl,congrArg AVal.bool (by simp[*]),rfl⟩
    ·cases hk:c.known
     ·have hx1:=hk
      have hx2:=hk
      have hx3:=hk
      have hx4:=hk
      repeat' first|refine And.intro ?_ ?_|(intro h;try first|exact ZD|replace h:=ZE)
      all_goals try exact cz
      all_goals exact⟨_,Q2 [6] rfl,_,rfl,congrArg AVal.bool (by simp[*]),rfl⟩
     ·have hx1:=hk
      have hx2:=hk
      have hx3:=hk
      have hx4:=hk
      by_cases h6:c.st.nulls≤cs
      · repeat' first|refine And.intro ?_ ?_|(intro h;try first|exact ZD|replace h:=ZE)
        all_goals try exact cz
        all_goals refine⟨k,c.st.mx,c.st.mn,rfl,?_⟩
        repeat' first|refine And.intro ?_ ?_|(intro h;try first|exact ZD|replace h:=ZE)
        all_goals try exact cz
        all_goals exact⟨_,Q2 [6] rfl,_,rfl,congrArg AVal.bool (by simp[*]),rfl⟩
      · repeat' first|refine And.intro ?_ ?_|(intro h;try first|exact ZD|replace h:=ZE)
        all_goals try exact cz
        all_goals exact⟨_,Q2 [6] rfl,_,rfl,congrArg AVal.bool (by simp[*]),rfl⟩
   · repeat' first|refine And.intro ?_ ?_|(intro h;try first|exact dzq|replace h:=cvq)
     all_goals try exact cz
     all_goals exact⟨_,Q2 [6] rfl,_,rfl,congrArg AVal.bool (by simp[*]),rfl⟩
  · repeat' first|refine And.intro ?_ ?_|(intro h;try first|exact dzq|replace h:=cvq)
    all_goals try exact cz
    all_goals exact⟨_,Q2 [6] rfl,_,rfl,congrArg AVal.bool (by simp[*]),rfl⟩
def S_sound:SpecI:=fun args K=>∃k n c,args=[.int .i64 k,.int .i64 n,.agg (encC c)]∧((∀p∈c.pages,Kt p)∧c.pages.length≤200)∧K (.bool (Zg k n c))
theorem Nd[Syms]:Zx Try.prog 60 S_sound:=by
 rintro args K ⟨k,n,c,rfl,⟨h1,h2⟩,hk⟩
 exact⟨rfl,_,rfl,hk,fnI Qh Qi Q3 Tw Qt (Px k n c h1 h2)⟩
end
section
set_option maxRecDepth 100000
set_option maxHeartbeats 4000000
structure RwOk(L:Nat)(g:Rw):Prop where
 n:0≤g.n∧g.n≤1048576
 len:g.chunks.length≤L
 pages:∀c∈g.chunks,(∀p∈c.pages,Kt p)∧c.pages.length≤200
structure MtOk(m:Mt):Prop where
 fs:FsOk m.s
 len:m.groups.length≤200
 groups:∀g∈m.groups,RwOk (Qu m.s).length g
theorem KF:∀(l m:List Rw),Zd (l++m)=Zd l+Zd m
 |[],m=>by rw[List.nil_append,Zd];omega
 |x::l,m=>by rw[List.cons_append,Zd,Zd,KF l m];omega
theorem D2{l:List Rw}{i:Nat}(h:i<l.length):Zd (l.take (i+1))=Zd (l.take i)+(l.getD i default).n:=by
 rw[List.take_add_one,KF,List.getD_eq_getElem?_getD,List.getElem?_eq_getElem h]
 simp[Zd]
theorem B1:∀(l:List Rw),(∀g∈l,0≤g.n∧g.n≤1048576)→0≤Zd l∧Zd l≤1048576*l.length
 |[],_=>⟨Int.le_refl _,by simp[Zd]⟩
 |x::l,h=>by
  have h1:=h x (List.mem_cons_self ..)
  have h2:=B1 l fun p hp=>h p (List.mem_cons_of_mem _ hp)
  rw[Zd,List.length_cons]
  omega
theorem DO(f:Rw→Bool){l:List Rw}{i:Nat}(h:i<l.length):(l.take (i+1)).all f=((l.take i).all f&&f (l.getD i default)):=by
 rw[List.take_add_one,List.all_append,List.getD_eq_getElem?_getD,List.getElem?_eq_getElem h]
 simp
theorem Gr{n:Int}{ls:List Lf}{cs:List Ck}{j:Nat}(h1:j<cs.length)(h2:cs.length≤ls.length):Zn n ((Q5 ls).drop j) (cs.drop j)=(Zg (ls.getD j default).kind n (cs.getD j default)&&Zn n ((Q5 ls).drop (j+1)) (cs.drop (j+1))):=by
 have e1:(Q5 ls).drop j=(ls.getD j default).kind::(Q5 ls).drop (j+1):=by
  rw[List.drop_eq_getElem_cons (by simp;omega)]
  simp[show j<ls.length by omega]
 have e2:cs.drop j=cs.getD j default::cs.drop (j+1):=by
  rw[List.drop_eq_getElem_cons h1]
  simp[h1]
 rw[e1,e2,Zn]
noncomputable def plWh:Nat→Nat→Pl:=XG [(28,5),(28,11)] (Qz plt)
abbrev dWh:CallT:=Q6 60 (Xc S_sound) Q7
theorem Tj[Syms]:dWh.det Try.prog:=ZW Nd Q3
abbrev cWh:CallT:=Q6 44 (Xc (seeW S_leaves)) Q7
theorem Tt[Syms]:cWh.ok Try.prog:=Qk Dp.seeW Q9
def whS(m:Mt)(ls:List Lf)(i:Nat)(sm:Int):St:=⟨[(1,.ptr 0 0 0),(3,vL ls),(4,.int .i64 sm),(13,vR m.groups),(14,.int .i64 m.groups.length),(15,.int .i64 i)],[(0,some (.cells [QT m] false))],1⟩
def whB(m:Mt)(ls:List Lf)(i:Nat)(sm:Int)(g:Rw):St:=⟨[(1,.ptr 0 0 0),(3,vL ls),(4,.int .i64 sm),(6,.ptr 1 0 0),(13,vR m.groups),(14,.int .i64 m.groups.length),(15,.int .i64 i)],[(0,some (.cells [QT m] false)),(1,some (.cells [encR g] false))],2⟩
def whI(m:Mt)(ls:List Lf)(i:Nat)(sm:Int)(g:Rw)(j:Nat):St:=⟨[(1,.ptr 0 0 0),(3,vL ls),(4,.int .i64 sm),(6,.ptr 1 0 0),(13,vR m.groups),(14,.int .i64 m.groups.length),(15,.int .i64 i),(27,vC g.chunks),(28,.int .i64 g.chunks.length),(29,.int .i64 j)],[(0,some (.cells [QT m] false)),(1,some (.cells [encR g] false))],2⟩
def whC(m:Mt)(ls:List Lf)(i:Nat)(sm:Int)(g:Rw)(j:Nat)(c:Ck):St:=⟨[(1,.ptr 0 0 0),(3,vL ls),(4,.int .i64 sm),(6,.ptr 1 0 0),(7,.int .i64 j),(8,.ptr 2 0 0),(13,vR m.groups),(14,.int .i64 m.groups.length),(15,.int .i64 i),(27,vC g.chunks),(28,.int .i64 g.chunks.length),(29,.int .i64 j)],[(0,some (.cells [QT m] false)),(1,some (.cells [encR g] false)),(2,some (.cells [encC c] false))],3⟩
theorem Pe[Syms](m:Mt)(h:MtOk m):
 fnT dWh cWh (Qv fns) (Qn tys) plWh 100 28 [.agg (QT m)] [] 0 (fun v H _=>v= .bool (Zz m)∧H=[]):=by
 obtain⟨hfs,hgl,hgr⟩:=h
 repeat' first|refine And.intro ?_ ?_|(intro h;try first|exact dzq|replace h:=cvq)
 all_goals try exact cz
 refine⟨[vF m.s],⟨.tab rfl,trivial⟩,m.s,rfl,hfs,?_⟩
 have hll:(Qu m.s).length≤1000:=by have h1:(Qu m.s).length≤m.s.length:=Zu _ _ _;have h2:=hfs.len;omega
 have hwh:Zz m=((m.groups.all fun g=>decide (g.n≠0)&&Zn g.n (Q5 (Qu m.s)) g.chunks)&&decide (Zd m.groups=m.n∧Zd m.groups≤200)):=rfl
 generalize Qu m.s=ls at *
 repeat' first|refine And.intro ?_ ?_|(intro h;try first|exact dzq|replace h:=cvq)
 all_goals try exact cz
 refine⟨fun q s=>∃(i:Nat) (sm:Int),(i≤m.groups.length∧q=m.groups.length-i∧sm=Zd (m.groups.take i)∧(m.groups.take i).all (fun g=>decide (g.n≠0)&&Zn g.n (Q5 ls) g.chunks)=true)∧s=whS m ls i sm,⟨_,whS m ls 0 0,Q0 [0] (by exact rfl) ⟨.refl _,.refl _,.refl _,.tab rfl,Qp (by show((List.length _:Nat):Int)=_;rw[List.length_map]),.refl _,trivial⟩ ⟨⟨by decide,_,rfl,.refl _⟩,trivial⟩,0,0,⟨by omega,rfl,rfl,rfl⟩,rfl⟩,?_⟩
 rintro q s ⟨i,sm,⟨hi,rfl,hsm,hal⟩,rfl⟩
 have hb:=B1 (m.groups.take i) fun p hq=>(hgr p (List.mem_of_mem_take hq)).n
 have htl:(m.groups.take i).length≤200:=by rw[List.length_take];omega
 rw[←hsm]at hb
 by_cases h1:i<m.groups.length
 ·have hgi:RwOk ls.length (m.groups.getD i default):=by
   rw[List.getD_eq_getElem?_getD,List.getElem?_eq_getElem h1];exact hgr _ (List.getElem_mem h1)
  have e1:=D2 h1
  have e2:=DO (fun g=>decide (g.n≠0)&&Zn g.n (Q5 ls) g.chunks) h1
  have hbad:(decide ((m.groups.getD i default).n≠0)&&Zn (m.groups.getD i default).n (Q5 ls) (m.groups.getD i default).chunks)=false→Zz m=false:=by
   intro hb
   have:(m.groups.all fun g=>decide (g.n≠0)&&Zn g.n (Q5 ls) g.chunks)=false:=by
    rw[List.all_eq_false]
    refine⟨_,List.getElem_mem h1,?_⟩
    rw[List.getD_eq_getElem?_getD,List.getElem?_eq_getElem h1]at hb
    rw[show m.groups[i]=(some m.groups[i]).getD default from rfl,hb];decide
   rw[hwh,this];rfl
  rw[←hsm]at e1
  rw[hal]at e2
  obtain⟨hn,hcl,hpg⟩:=hgi
  repeat' first|refine And.intro ?_ ?_|(intro h;try first|exact dzq|replace h:=cvq)
  all_goals try exact czq
  refine⟨whB m ls i sm (m.groups.getD i default),Q0 [0,1] (by exact rfl) ⟨.refl _,.refl _,.refl _,.refl _,.refl _,.refl _,.refl _,trivial⟩ ⟨⟨by decide,_,rfl,.refl _⟩,⟨by decide,_,rfl,QM (row:=encR (m.groups.getD i default)) ⟨.refl _,.refl _,trivial⟩ (eR _)⟩,trivial⟩,?_⟩
  generalize m.groups.getD i default=g at *
  by_cases h2:g.n=0
  · repeat' first|refine And.intro ?_ ?_|(intro h;try first|exact dzq|replace h:=cvq)
    all_goals try exact czq
    exact⟨_,Q2 [2] rfl,_,rfl,by rw[hbad (by rw[h2];rfl)];rfl,rfl⟩
  ·rw[decide_eq_true h2,Bool.true_and]at hbad e2
   repeat' first|refine And.intro ?_ ?_|(intro h;try first|exact dzq|replace h:=cvq)
   all_goals try exact czq
   refine⟨fun q s=>∃(j:Nat),(j≤g.chunks.length∧q=g.chunks.length-j∧Zn g.n (Q5 ls) g.chunks=Zn g.n ((Q5 ls).drop j) (g.chunks.drop j))∧s=whI m ls i (sm+g.n) g j,⟨_,whI m ls i (sm+g.n) g 0,Q0 [0,1] (by exact rfl) ⟨.refl _,.refl _,.refl _,.refl _,.refl _,.refl _,.refl _,.tab rfl,Qp (by show(((g.chunks.map encC).length:Nat):Int)=_;rw[List.length_map]),.refl _,trivial⟩ ⟨⟨by decide,_,rfl,.refl _⟩,⟨by decide,_,rfl,.refl _⟩,trivial⟩,0,⟨by omega,rfl,rfl⟩,rfl⟩,?_⟩
   rintro q s ⟨j,⟨hj,rfl,hso⟩,rfl⟩
   by_cases h3:j<g.chunks.length
   ·have hd:=Gr (n:=g.n) h3 hcl
    have hpj:(∀p∈(g.chunks.getD j default).pages,Kt p)∧(g.chunks.getD j default).pages.length≤200:=by
     rw[List.getD_eq_getElem?_getD,List.getElem?_eq_getElem h3];exact hpg _ (List.getElem_mem h3)
    repeat' first|refine And.intro ?_ ?_|(intro h;try first|exact dzq|replace h:=cvq)
    all_goals try exact czq
    refine⟨whC m ls i (sm+g.n) g j (g.chunks.getD j default),Q0 [0,1,2] (by exact rfl) ⟨.refl _,.refl _,.refl _,.refl _,.refl _,.refl _,.refl _,.refl _,.refl _,.refl _,.refl _,.refl _,trivial⟩ ⟨⟨by decide,_,rfl,.refl _⟩,⟨by decide,_,rfl,.refl _⟩,⟨by decide,_,rfl,QM (row:=encC (g.chunks.getD j default)) ⟨.refl _,.refl _,.refl _,.refl _,.refl _,.refl _,.refl _,.refl _,.refl _,.refl _,.refl _,trivial⟩ (eC _)⟩,trivial⟩,?_⟩
    generalize g.chunks.getD j default=c at *
    repeat' first|refine And.intro ?_ ?_|(intro h;try first|exact dzq|replace h:=cvq)
    all_goals try exact czq
    refine⟨(ls.getD j default).kind,g.n,c,rfl,hpj,?_⟩
    cases hs:Zg (ls.getD j default).kind g.n c
    ·skip
     have hx1:=hs
     have hx2:=hs
     have hx3:=hs
     have hx4:=hs
     repeat' first|refine And.intro ?_ ?_|(intro h;try first|exact ZD|replace h:=ZE)
     all_goals try exact czq
     exact⟨_,Q2 [2] rfl,_,rfl,by rw[hbad (by rw[hso,hd,hs];rfl)];rfl,rfl⟩
    ·rw[hs,Bool.true_and]at hd
     have hx1:=hs
     have hx2:=hs
     have hx3:=hs
     have hx4:=hs
     repeat' first|refine And.intro ?_ ?_|(intro h;try first|exact ZD|replace h:=ZE)
     all_goals try exact czq
     exact⟨_,whI m ls i (sm+g.n) g (j+1),Q0 [0,1] (by exact rfl) ⟨.refl _,.refl _,.refl _,.refl _,.refl _,.refl _,.refl _,.refl _,.refl _,Qp (by omega),trivial⟩ ⟨⟨by decide,_,rfl,.refl _⟩,⟨by decide,_,rfl,.refl _⟩,trivial⟩,⟨j+1,⟨by omega,rfl,by rw[hso,hd]⟩,rfl⟩,by omega⟩
   ·obtain rfl:j=g.chunks.length:=by omega
    have hs1:Zn g.n (Q5 ls) g.chunks=true:=by
     rw[hso,List.drop_length]
     cases(Q5 ls).drop g.chunks.length<;>rfl
    rw[hs1]at e2
    repeat' first|refine And.intro ?_ ?_|(intro h;try first|exact dzq|replace h:=cvq)
    all_goals try exact czq
    exact⟨_,whS m ls (i+1) (sm+g.n),Q0 [0] (by exact rfl) ⟨.refl _,.refl _,.refl _,.refl _,.refl _,Qp (by omega),trivial⟩ ⟨⟨by decide,_,rfl,.refl _⟩,trivial⟩,⟨i+1,sm+g.n,⟨by omega,rfl,e1.symm,e2⟩,rfl⟩,by omega⟩
 ·obtain rfl:i=m.groups.length:=by omega
  rw[List.take_length]at hsm hal
  rw[hwh,hal,←hsm,Bool.true_and]
  have hx1:(QT m).getD 1 .any= .int .i64 m.n:=rfl
  have hx2:(QT m).getD (0+1) .any= .int .i64 m.n:=rfl
  have hx3:=hx1
  have hx4:=hx2
  clear hsm hwh
  by_cases h2:sm=m.n
  ·by_cases h3:sm≤200
   · repeat' first|refine And.intro ?_ ?_|(intro h;try first|exact ZD|replace h:=ZE)
     all_goals try exact czq
     all_goals exact⟨_,Q2 [2] rfl,_,rfl,congrArg AVal.bool (by simp[*]),rfl⟩
   · repeat' first|refine And.intro ?_ ?_|(intro h;try first|exact ZD|replace h:=ZE)
     all_goals try exact czq
     all_goals exact⟨_,Q2 [2] rfl,_,rfl,congrArg AVal.bool (by simp[*]),rfl⟩
  · repeat' first|refine And.intro ?_ ?_|(intro h;try first|exact ZD|replace h:=ZE)
    all_goals try exact czq
    all_goals exact⟨_,Q2 [2] rfl,_,rfl,congrArg AVal.bool (by simp[*]),rfl⟩
def S_whole:SpecI:=fun args K=>∃m,args=[.agg (QT m)]∧MtOk m∧K (.bool (Zz m))
theorem N1[Syms]:Zx Try.prog 28 S_whole:=by
 rintro args K ⟨m,rfl,h,hk⟩
 exact⟨rfl,_,rfl,hk,fnI Qh Qi Tj Tt Qt (Pe m h)⟩
end
section
set_option maxRecDepth 100000
set_option maxHeartbeats 4000000
theorem JP(r:BR):(plainR r).1≤1048576:=Zo (by decide) r
theorem NJ(r:BR):Kt (pageR r).1:=by
 have h1:=JP r
 have h2:=JP (plainR r).2
 show(0≤(((plainR r).1:Nat):Int)∧(((plainR r).1:Nat):Int)≤1048576)∧(0≤(((plainR (plainR r).2).1:Nat):Int)∧(((plainR (plainR r).2).1:Nat):Int)≤1048576)
 omega
theorem Di:∀(k:Nat) (r:BR) (s:List Pg),(∀p∈s,Kt p)→(∀p∈(ZC k r s).1,Kt p)∧(ZC k r s).1.length≤s.length+k
 |0,r,s,h=>⟨h,Nat.le_refl _⟩
 |k+1,r,s,h=>by
  rw[ZC]
  split
  ·exact⟨h,by dsimp only;omega⟩
  ·obtain⟨h1,h2⟩:=Di k (pageR r).2 (s++[(pageR r).1]) fun p hp=>by
    rcases List.mem_append.1 hp with k|k
    ·exact h p k
    ·rw[List.mem_singleton.1 k];exact NJ r
   exact⟨h1,by rw[List.length_append]at h2;simp at h2;omega⟩
theorem LL(k:Int)(r:BR):(∀p∈(Zl k r).1.pages,Kt p)∧(Zl k r).1.pages.length≤200:=by
 obtain⟨h1,h2⟩:=Di (Qx 200 4 (ckR0 r).2).1 (Qx 200 4 (ckR0 r).2).2 [] (fun p hp=>nomatch hp)
 have h3:=Zo (m:=200) (w:=4) (by decide) (ckR0 r).2
 refine⟨h1,?_⟩
 show(ZC (Qx 200 4 (ckR0 r).2).1 (Qx 200 4 (ckR0 r).2).2 []).1.length≤200
 simp at h2
 omega
theorem Fp:∀(ks:List Int) (r:BR) (s:List Ck),(∀c∈s,(∀p∈c.pages,Kt p)∧c.pages.length≤200)→(∀c∈(Z6 ks r s).1,(∀p∈c.pages,Kt p)∧c.pages.length≤200)∧(Z6 ks r s).1.length≤s.length+ks.length
 |[],r,s,h=>⟨h,Nat.le_refl _⟩
 |k::ks,r,s,h=>by
  rw[Z6]
  split
  ·exact⟨h,by dsimp only;omega⟩
  ·obtain⟨h1,h2⟩:=Fp ks (Zl k r).2 (s++[(Zl k r).1]) fun p hp=>by
    rcases List.mem_append.1 hp with j|j
    ·exact h p j
    ·rw[List.mem_singleton.1 j];exact LL k r
   exact⟨h1,by rw[List.length_append]at h2;simp at h2 ⊢;omega⟩
theorem Lu(ks:List Int)(r:BR):RwOk ks.length (Ze ks r).1:=by
 obtain⟨h1,h2⟩:=Fp ks (plainR r).2 [] (fun p hp=>nomatch hp)
 have h3:=JP r
 refine⟨?_,?_,h1⟩
 ·show 0≤(((plainR r).1:Nat):Int)∧(((plainR r).1:Nat):Int)≤1048576;omega
 ·show(Z6 ks (plainR r).2 []).1.length≤ks.length
  simpa using h2
theorem Kg(ks:List Int):∀(k:Nat) (r:BR) (s:List Rw),(∀g∈s,RwOk ks.length g)→(∀g∈(Z3 ks k r s).1,RwOk ks.length g)∧(Z3 ks k r s).1.length≤s.length+k
 |0,r,s,h=>⟨h,Nat.le_refl _⟩
 |k+1,r,s,h=>by
  rw[Z3]
  split
  ·exact⟨h,by dsimp only;omega⟩
  ·obtain⟨h1,h2⟩:=Kg ks k (Ze ks r).2 (s++[(Ze ks r).1]) fun p hp=>by
    rcases List.mem_append.1 hp with j|j
    ·exact h p j
    ·rw[List.mem_singleton.1 j];exact Lu ks r
   exact⟨h1,by rw[List.length_append]at h2;simp at h2;omega⟩
theorem NV(r:BR):MtOk (WM r).1:=by
 unfold WM
 dsimp only
 split
 ·exact⟨We.fs (fs:=[]) (fun f hf=>nomatch hf) (Nat.zero_le _),Nat.zero_le _,fun g hg=>nomatch hg⟩
 ·generalize(QC (Qx 2000 5 r).1 (Qx 2000 5 r).2)=y
  obtain⟨h1,h2⟩:=K8 y.1
  have h4:=Zo (m:=200) (w:=4) (by decide) (plainR (Qs y.2 (Zt y.1).2)).2
  obtain⟨h5,h6⟩:=Kg (QR (Zt y.1).1) (Qx 200 4 (plainR (Qs y.2 (Zt y.1).2)).2).1 (Qx 200 4 (plainR (Qs y.2 (Zt y.1).2)).2).2 [] (fun p hp=>nomatch hp)
  refine⟨h1.fs h2,?_,fun g hg=>?_⟩
  ·simp at h6;show(Z3 _ _ _ _).1.length≤200;omega
  ·have:=h5 g hg
   rwa [show(QR (Zt y.1).1).length=(Qu (Zt y.1).1).length from List.length_map ..]at this
abbrev cFpa:CallT:=Q6 26 (QD ID) (Q6 27 (QD UL) (Q6 28 (Xc S_whole) Q7))
theorem RX[Syms]:cFpa.ok Try.prog:=Q4 Q0v (Q4 Um (Qk N1 Q9))
noncomputable def plFp:Nat→Nat→Pl:=XG [(15,1),(15,2),(15,8)] (Qz plt)
def fpS(r:BR)(m:Mt):St:=⟨[(2,.ptr 1 0 0),(3,.int .i64 0),(4,.ptr 0 0 0),(5,.ptr 2 0 0)],[(0,rdB r),(1,some (.cells [QE .nils 0 .nils] false)),(2,some (.cells [QT m] false))],3⟩
theorem G2[Syms]{Post:AVal→Heap→Nat→Prop}{N nx:Nat}{x:Int}{e:Env}{H:Heap}{row:List AVal}{m:Mt}{p:Mt×Int}{rs:List ResultVar}(h2:e.get 2= .ptr 1 0 0)(h3:e.get 3= .int .i64 x)(H1:H.get 1=some (.cells [row] false))(hrow:Ww row (QT m))(hn:QG 0 nx [0,1]=true)(hp:p=(m,x))
 (hrs:Zc (Qn tys) ⟨[(2,.ptr 1 0 0),(3,.int .i64 x)],[(1,some (.cells [QT m] false))],2⟩ rs=some (.tup [.agg (QT m),.int .i64 x])) (hP:Post (.tup [.agg (QT p.1),.int .i64 p.2]) [] 2):
 ∃s3,Reb 0 N ⟨e,H,nx⟩ s3∧ ∃v,Zc (Qn tys) s3 rs=some v∧Vt Post v s3.heap s3.nx:=by
 subst hp
 exact⟨⟨[(2,.ptr 1 0 0),(3,.int .i64 x)],[(1,some (.cells [QT m] false))],2⟩,Q0 [0,1] hn ⟨by rw[h2];exact .refl _,by rw[h3];exact .refl _,trivial⟩ ⟨⟨Nat.lt_succ_self _,_,H1,QM hrow (eM m)⟩,trivial⟩,_,hrs,[],fun n b h=>(by rw[Heap.get_nil]at h;cases h),hP⟩
def fpZ(x:Int):St:=⟨[(2,.ptr 1 0 0),(3,.int .i64 x)],[(1,some (.cells [QT mt0] false))],2⟩
theorem J1[Syms]{N nx:Nat}{e:Env}{H:Heap}{x x':Int}(h2:e.get 2= .ptr 1 0 0)(h3:e.get 3= .int .i64 x')(hx:x'=x)(H1:H.get 1=some (.cells [[.nils,.int .i64 0,.nils]] false))(hn:QG 0 nx [0,1]=true):Reb 0 N ⟨e,H,nx⟩ (fpZ x):=by
 subst hx
 exact Q0 [0,1] hn ⟨by rw[h2];exact .refl _,by rw[h3];exact .refl _,trivial⟩ ⟨⟨Nat.lt_succ_self _,_,H1,QM (row:=QT mt0) ⟨.zero _ _ rfl,.refl _,.zero _ _ rfl,trivial⟩ (eM mt0)⟩,trivial⟩
def GB(q:Mt×BR):Mt×Int:=
 let r1:=if q.2.b≠[]then Qs q.2 9 else q.2
 let r2:=if r1.e=0∧Zz q.1=false then Qs r1 10 else r1
 if r2.e≠0 then(mt0,r2.e)else(q.1,0)
theorem CL{m:Mt}{r r1 r2:BR}(h1:(if r.b≠[]then Qs r 9 else r)=r1)(h2:(if r1.e=0∧Zz m=false then Qs r1 10 else r1)=r2):GB (m,r)=if r2.e≠0 then(mt0,r2.e)else(m,0):=by subst h1 h2;rfl
theorem VC{m:Mt}{b:List UInt8}{e:Int}(h:e≠0):GB (m,⟨b,e⟩)=(mt0,e):=by
 have hf:Qs ⟨b,e⟩ 9=⟨b,e⟩:=if_neg h
 have he:(if b≠[]then Qs ⟨b,e⟩ 9 else⟨b,e⟩)=⟨b,e⟩:=by rw[hf];split<;>rfl
 exact(CL he (if_neg (fun hh=>h hh.1))).trans (if_pos h)
theorem Fg{m:Mt}{b:List UInt8}(h:b≠[]):GB (m,⟨b,0⟩)=(mt0,9):=
 (CL (r1:=⟨b,9⟩) (r2:=⟨b,9⟩) (if_pos h) (if_neg (fun hh=>absurd (show(9:Int)=0 from hh.1) (by decide)))).trans (if_pos (show(9:Int)≠0 by decide))
theorem G4{m:Mt}:GB (m,⟨[],0⟩)=if Zz m=false then(mt0,10)else(m,0):=by
 unfold GB
 cases h:Zz m<;>simp[h,Qs]
theorem Ol[Syms]{Post:AVal→Heap→Nat→Prop}(b:List UInt8)(hl:b.length≤1000000)(p:Mt×Int)(hp:p=YQ b)(hP:Post (.tup [.agg (QT p.1),.int .i64 p.2]) [] 2):
 fnT Q7 cFpa (Qv fns) (Qn tys) plFp 100 15 [vB b] [] 0 (Vt Post):=by
 repeat' first|refine And.intro ?_ ?_|(intro h;try first|exact dz|replace h:=cv)
 all_goals try exact cz
 refine⟨⟨[(2,.ptr 1 0 0),(3,.int .i64 0),(4,.ptr 0 0 0)],[(0,rdB ⟨b,0⟩),(1,some (.cells [QE .nils 0 .nils] false))],2⟩,Q0 [1,0] (by exact rfl) ⟨.refl _,.refl _,.refl _,trivial⟩ ⟨⟨by decide,_,rfl,.refl _⟩,⟨by decide,_,rfl,.refl _⟩,trivial⟩,?_⟩
 refine⟨[0],[.ptr 0 0 0],[(0,rdB ⟨b,0⟩)],rfl,⟨.refl _,trivial⟩,⟨⟨by decide,_,rfl,.refl _⟩,trivial⟩,⟨b,0⟩,rfl,rfl,rfl,hl,?_⟩
 have hok:=NV ⟨b,0⟩
 have hp:p=GB (WM ⟨b,0⟩):=hp
 generalize WM ⟨b,0⟩=q at *
 obtain⟨m,b',e'⟩:=q
 dsimp only at hok
 repeat' first|refine And.intro ?_ ?_|(intro h;try first|exact dz|replace h:=cv)
 all_goals try exact cz
 refine⟨fpS ⟨b',e'⟩ m,Q0 [0,1,4] (by exact rfl) ⟨.refl _,.refl _,.refl _,.refl _,trivial⟩ ⟨⟨by decide,_,rfl,.refl _⟩,⟨by decide,_,rfl,.refl _⟩,⟨by decide,_,rfl,QM (row:=QT m) ⟨.refl _,.refl _,.refl _,trivial⟩ (eM _)⟩,trivial⟩,?_⟩
 by_cases hb:b'=[]
 ·subst hb
  by_cases he:e'=0
  ·subst he
   rw[G4]at hp
   cases hw:Zz m
   ·rw[if_pos hw]at hp
    repeat' first|refine And.intro ?_ ?_|(intro h;try first|exact dzq|replace h:=cvq)
    all_goals try exact cz
    refine⟨m,rfl,hok,?_⟩
    have hx1:=hw
    have hx2:=hw
    have hx3:=hw
    have hx4:=hw
    repeat' first|refine And.intro ?_ ?_|(intro h;try first|exact ZD|replace h:=ZE)
    all_goals try exact cz
    refine⟨[0],[.ptr 0 0 0,.int .i64 10],[(0,rdB ⟨[],0⟩)],rfl,⟨.refl _,.refl _,trivial⟩,⟨⟨by decide,_,rfl,.refl _⟩,trivial⟩,⟨[],0⟩,10,rfl,rfl,rfl,?_⟩
    rw[show Qs ⟨[],0⟩ 10=⟨[],10⟩ from rfl,show rdB ⟨[],10⟩=some (.cells [[vB [],.int .i64 10]] false) from rfl]
    have hx1:=fun ρ=>Yy ρ ([]) (10)
    have hx2:=hx1
    have hx3:=hx1
    have hx4:=hx1
    repeat' first|refine And.intro ?_ ?_|(intro h;try first|exact ZD|replace h:=ZE)
    all_goals try exact cz
    refine⟨fpZ (10),?_,?_⟩
    · repeat' first|refine And.intro ?_ ?_|(intro h;try first|exact ZD|replace h:=ZE)
      all_goals try exact cz
      all_goals exact Exists.intro () (J1 rfl rfl rfl rfl (by exact rfl))
    ·exact G2 (row:=QT mt0) (m:=mt0) rfl rfl rfl ⟨.refl _,.refl _,.refl _,trivial⟩ (by exact rfl) hp (by exact rfl) hP
   ·rw[if_neg (by rw[hw];decide)]at hp
    repeat' first|refine And.intro ?_ ?_|(intro h;try first|exact dzq|replace h:=cvq)
    all_goals try exact cz
    refine⟨m,rfl,hok,?_⟩
    have hx1:=hw
    have hx2:=hw
    have hx3:=hw
    have hx4:=hw
    repeat' first|refine And.intro ?_ ?_|(intro h;try first|exact ZD|replace h:=ZE)
    all_goals try exact cz
    exact G2 (row:=QT m) (m:=m) rfl rfl rfl ⟨.refl _,.refl _,.refl _,trivial⟩ (by exact rfl) hp (by exact rfl) hP
  ·rw[VC he]at hp
   repeat' first|refine And.intro ?_ ?_|(intro h;try first|exact dzq|replace h:=cvq)
   all_goals try exact cz
   have hx1:=he
   have hx2:=he
   have hx3:=he
   have hx4:=he
   refine⟨fpZ (e'),?_,?_⟩
   · repeat' first|refine And.intro ?_ ?_|(intro h;try first|exact ZD|replace h:=ZE)
     all_goals try exact cz
     all_goals exact Exists.intro () (J1 rfl rfl rfl rfl (by exact rfl))
   ·exact G2 (row:=QT mt0) (m:=mt0) rfl rfl rfl ⟨.refl _,.refl _,.refl _,trivial⟩ (by exact rfl) hp (by exact rfl) hP
 ·have hbl:=List.length_pos_iff.2 hb
  repeat' first|refine And.intro ?_ ?_|(intro h;try first|exact dzq|replace h:=cvq)
  all_goals try exact cz
  refine⟨[0],[.ptr 0 0 0,.int .i64 9],[(0,rdB ⟨b',e'⟩)],rfl,⟨.refl _,.refl _,trivial⟩,⟨⟨by decide,_,rfl,.refl _⟩,trivial⟩,⟨b',e'⟩,9,rfl,rfl,rfl,?_⟩
  by_cases he:e'=0
  ·subst he
   rw[Fg hb]at hp
   rw[show Qs ⟨b',0⟩ 9=⟨b',9⟩ from rfl,show rdB ⟨b',9⟩=some (.cells [[vB b',.int .i64 9]] false) from rfl]
   have hx1:=fun ρ=>Yy ρ (b') (9)
   have hx2:=hx1
   have hx3:=hx1
   have hx4:=hx1
   repeat' first|refine And.intro ?_ ?_|(intro h;try first|exact ZD|replace h:=ZE)
   all_goals try exact cz
   refine⟨fpZ (9),?_,?_⟩
   · repeat' first|refine And.intro ?_ ?_|(intro h;try first|exact ZD|replace h:=ZE)
     all_goals try exact cz
     all_goals exact Exists.intro () (J1 rfl rfl rfl rfl (by exact rfl))
   ·exact G2 (row:=QT mt0) (m:=mt0) rfl rfl rfl ⟨.refl _,.refl _,.refl _,trivial⟩ (by exact rfl) hp (by exact rfl) hP
  ·rw[VC he]at hp
   rw[show Qs ⟨b',e'⟩ 9=⟨b',e'⟩ from if_neg he,show rdB ⟨b',e'⟩=some (.cells [[vB b',.int .i64 e']] false) from rfl]
   have hx1:=fun ρ=>Yy ρ (b') (e')
   have hx2:=hx1
   have hx3:=hx1
   have hx4:=hx1
   repeat' first|refine And.intro ?_ ?_|(intro h;try first|exact ZD|replace h:=ZE)
   all_goals try exact cz
   refine⟨fpZ (e'),?_,?_⟩
   · repeat' first|refine And.intro ?_ ?_|(intro h;try first|exact ZD|replace h:=ZE)
     all_goals try exact cz
     all_goals exact Exists.intro () (J1 rfl rfl rfl rfl (by exact rfl))
   ·exact G2 (row:=QT mt0) (m:=mt0) rfl rfl rfl ⟨.refl _,.refl _,.refl _,trivial⟩ (by exact rfl) hp (by exact rfl) hP
def FJ:SpecT:=fun args H nx Post=>∃b,args=[vB b]∧H=[]∧nx=0∧b.length≤1000000∧Post (.tup [.agg (QT (YQ b).1),.int .i64 (YQ b).2]) [] 2
theorem Du[Syms]:FJ.ok Try.prog 15:=by
 rintro args H nx Post ⟨b,rfl,rfl,rfl,h1,h⟩
 exact XB.forget (Qg Qh Qi Q3 RX Qt (Ol b h1 _ rfl h))
end
section
set_option maxRecDepth 100000
set_option maxHeartbeats 4000000
theorem B5:∀(l m:List Fd),sbL (l++m)=sbL l++sbL m
 |[],m=>rfl
 |x::l,m=>by rw[List.cons_append,sbL,sbL,B5 l m,List.append_assoc]
theorem Ni{s:List Fd}{i:Nat}(h:i<s.length):sbL (s.take (i+1))=sbL (s.take i)++FU (s.getD i default):=by
 rw[List.take_add_one,B5,List.getD_eq_getElem?_getD,List.getElem?_eq_getElem h]
 simp[sbL]
theorem SH(s:List Fd)(i:Nat):(sbL (s.take i)).length≤(sbL s).length:=by
 have:sbL s=sbL (s.take i)++sbL (s.drop i):=by rw[←B5,List.take_append_drop]
 rw[this,List.length_append];omega
def S_sbytes:SpecY:=fun args K=>∃s,args=[vF s]∧((sbF s).length≤1000000∧s.length≤100000∧ ∀f∈s,(0≤f.rep∧f.rep<256)∧(0≤f.kind∧f.kind<256)∧0≤f.kids∧f.kids<1000000)∧K (sbF s)
end
section
set_option maxRecDepth 100000
set_option maxHeartbeats 4000000
def Wb(x:Int):Prop:=0≤x∧x<128^9
def JC(x:Int):Prop:=0≤x∧x<4294967296
structure PgB(p:Pg):Prop where
 n1:Wb p.rows
 n2:Wb p.cells
 n3:Wb p.enc
 n4:Wb p.rlen
 n5:Wb p.dlen
 n6:Wb p.vlen
 crc:JC p.crc
theorem wrC{x:Int}(h:JC x):wr .u64 x=((x.toNat:Nat):Int):=wrU ⟨h.1,by have:=h.2;omega⟩
abbrev oB(o:List UInt8):Option Blk:=some (.cells (o.map encB) false)
abbrev slB(n:Nat)(o:List UInt8):AVal:=.slice n 0 o.length 1 none
theorem Iz(q s:List UInt8):List.take q.length (List.drop 0 (q.map encB))++s.map encB=(q++s).map encB:=by
 rw[List.drop_zero,List.take_of_length_le (by simp),List.map_append]
theorem IA(q s:List UInt8):q.length+(s.map encB).length=(q++s).length:=by rw[List.length_map,List.length_append]
theorem apZ(q:List UInt8){s:List UInt8}(h:s.length=0):q.map encB=(q++s).map encB:=by rw[List.eq_nil_of_length_eq_zero h,List.append_nil]
theorem apZl(q:List UInt8){s:List UInt8}(h:s.length=0):q.length=(q++s).length:=by rw[List.eq_nil_of_length_eq_zero h,List.append_nil]
theorem Ou[Syms]{Post:AVal→Heap→Nat→Prop}{N k K nx:Nat}{e:Env}{H:Heap}{len:Nat}{rows:List (List AVal)}{o:List UInt8}{rs:List ResultVar}{cap:Option Nat}(hn:QG 1 nx [0,K]=true)(hk:e.get k= .slice K 0 len 1 cap)(hb:H.get K=some (.cells rows false))(hr:rows=o.map encB)(hl:len=o.length)
 (hrs:Zc (Qn tys) ⟨[(k,slB 1 o)],[(1,oB o)],2⟩ rs=some (slB 1 o)) (hP:Post (slB 1 o) [(1,oB o)] 2):
 ∃s3,Reb 1 N ⟨e,H,nx⟩ s3∧ ∃v,Zc (Qn tys) s3 rs=some v∧Post v s3.heap s3.nx:=by
 subst hr hl
 exact⟨⟨[(k,slB 1 o)],[(1,oB o)],2⟩,Q0 [0,K] hn ⟨by rw[hk];exact Q8 rfl,trivial⟩ ⟨⟨Nat.lt_succ_self _,_,hb,Q1 rfl (fB _)⟩,trivial⟩,_,hrs,hP⟩
def FL:SpecT:=fun args H nx Post=>∃o b,args=[slB 0 o,.bool b]∧H=[(0,oB o)]∧nx=1∧o.length≤1000000∧Post (slB 1 (o++flB b)) [(1,oB (o++flB b))] 2
theorem IL(x:Int):0≤wr .u64 x:=by
 unfold wr
 split
 ·rename_i h;exact h.1
 ·show(0:Int)≤(if(false&&decide (x%(2^64:Int)≥(2^63:Int)))=true then x%(2^64:Int)-(2^64:Int)else x%(2^64:Int))
  simp;omega
end
section
set_option maxRecDepth 100000
set_option maxHeartbeats 4000000
structure CkB(c:Ck):Prop where
 n1:Wb c.words
 n2:Wb c.size
 crc:JC c.crc
 nulls:Wb c.st.nulls
 pages:∀p∈c.pages,PgB p
 len:c.pages.length≤100000
theorem MN:∀(l m:List Pg),Y6 (l++m)=Y6 l++Y6 m
 |[],m=>rfl
 |x::l,m=>by rw[List.cons_append,Y6,Y6,MN l m,List.append_assoc]
theorem L9{l:List Pg}{i:Nat}(h:i<l.length):Y6 (l.take (i+1))=Y6 (l.take i)++pgB (l.getD i default):=by
 rw[List.take_add_one,MN,List.getD_eq_getElem?_getD,List.getElem?_eq_getElem h]
 simp[Y6]
theorem R6(l:List Pg)(i:Nat):(Y6 (l.take i)).length≤(Y6 l).length:=by
 have:Y6 l=Y6 (l.take i)++Y6 (l.drop i):=by rw[←MN,List.take_append_drop]
 rw[this,List.length_append];omega
end
section
set_option maxRecDepth 100000
set_option maxHeartbeats 4000000
structure RwB(L:Nat)(g:Rw):Prop where
 n:Wb g.n
 len:g.chunks.length≤L
 chunks:∀c∈g.chunks,CkB c
structure MtB(m:Mt):Prop where
 fs:FsOk m.s
 sb:∀f∈m.s,(0≤f.rep∧f.rep<256)∧(0≤f.kind∧f.kind<256)∧0≤f.kids∧f.kids<1000000
 n:Wb m.n
 len:m.groups.length≤100000
 groups:∀g∈m.groups,RwB (Qu m.s).length g
theorem CV(ks:List Int):YM ks []=[]:=by cases ks<;>rfl
theorem DF:∀{ks:List Int} {cs:List Ck} {j:Nat},j<cs.length→cs.length≤ks.length→YM ks (cs.take (j+1))=YM ks (cs.take j)++ckB (ks.getD j 0) (cs.getD j default)
 |ks,[],j,h,_=>by simp at h
 |[],c::cs,j,_,h=>by simp at h
 |k::ks,c::cs,0,_,_=>by simp[YM]
 |k::ks,c::cs,j+1,h,h2=>by
  have:=DF (ks:=ks) (cs:=cs) (j:=j) (by simpa using h) (by simpa using h2)
  rw[List.take_succ_cons,List.take_succ_cons,YM,YM,this,List.append_assoc]
  rfl
theorem Ip:∀(ks:List Int) (cs:List Ck) (j:Nat),(YM ks (cs.take j)).length≤(YM ks cs).length
 |ks,[],j=>by simp
 |[],c::cs,j=>by cases j<;>simp[YM]
 |k::ks,c::cs,0=>by cases ks<;>simp[YM]
 |k::ks,c::cs,j+1=>by
  have:=Ip ks cs j
  rw[List.take_succ_cons,YM,YM,List.length_append,List.length_append];omega
theorem Mu(ks:List Int):∀(l m:List Rw),XP ks (l++m)=XP ks l++XP ks m
 |[],m=>rfl
 |x::l,m=>by rw[List.cons_append,XP,XP,Mu ks l m,List.append_assoc]
theorem IQ{ks:List Int}{l:List Rw}{i:Nat}(h:i<l.length):XP ks (l.take (i+1))=XP ks (l.take i)++rwB ks (l.getD i default):=by
 rw[List.take_add_one,Mu,List.getD_eq_getElem?_getD,List.getElem?_eq_getElem h]
 simp[XP]
theorem PA(ks:List Int)(l:List Rw)(i:Nat):(XP ks (l.take i)).length≤(XP ks l).length:=by
 have:XP ks l=XP ks (l.take i)++XP ks (l.drop i):=by rw[←Mu,List.take_append_drop]
 rw[this,List.length_append];omega
end
def S_make:SpecI:=fun args K=>∃ns,args=[vI ns]∧(ns.length≤9223372036854775807∧K (vF (QW ns)))
theorem NY[Syms]:Zx Try.prog 20 S_make:=by
 rintro args K ⟨ns,rfl,h,hk⟩
 exact⟨rfl,_,rfl,hk,fnI Qh Qi RK Ts Qt (T5 ns h)⟩
def dv(g n:Int):Int:=wr .i64 (g.tdiv n)
def pgM(g r:Int):Pg:=⟨r,r+wi g 9,wi g 2,wi (dv g 2) 300,wi (dv g 5) 300,wi (dv g 9) 3000,wr .u32 (wr .u32 g*77)⟩
def YF(g left:Int):Int:=if 1+wi (dv g 7) 20<left then 1+wi (dv g 7) 20 else left
def ZX(g:Int):Nat→Int→List Pg
 |0,_=>[]
 |f+1,left=>if 0<left then pgM g (YF g left)::ZX g f (left-YF g left)else[]
def d2(p:Pg):Pg:={p with enc:=2}
def nM(g:Int):Int:=1+wi g 40
def Wl(g:Int)(k:Nat):Ck:=
 if wi (dv g 11) 3=0 then⟨wi g 257,wi (dv g 13) 9000,wr .u32 g,(ZX g 40 (nM g)).map d2,decide (0<wi (dv g 3+k) 3),default⟩
 else⟨0,0,0,ZX g 40 (nM g),decide (0<wi (dv g 3+k) 3),default⟩
def ZQ(kind:Int)(v:Vl):Vl:=if kind=1 then⟨wi v.n 2,[]⟩else if kind=2 then⟨wr .i32 v.n,[]⟩else if kind=3 then⟨v.n,[]⟩else⟨0,v.s.take 100⟩
def ZF(g:Int)(k:Nat)(kind:Int)(l:List Vl)(a:Nat):Ck×Nat:=
 if(Wl g k).known=true∧0<l.length then
  ({Wl g k with st:=⟨wi g (nM g+1),true,ZQ kind (l.getD (a%l.length) default),ZQ kind (l.getD (a%l.length) default)⟩},a+1)
 else(Wl g k,a)
def Z7(g:Int)(l:List Vl):List Int→Nat→Nat→List Ck×Nat
 |[],_,a=>([],a)
 |kd::ks,k,a=>((ZF g k kd l a).1::(Z7 g l ks (k+1) (ZF g k kd l a).2).1,(Z7 g l ks (k+1) (ZF g k kd l a).2).2)
def Zf(ks:List Int)(l:List Vl):List Int→Nat→List Rw×Nat
 |[],a=>([],a)
 |g::gs,a=>(⟨nM g,(Z7 g l ks 0 a).1⟩::(Zf ks l gs (Z7 g l ks 0 a).2).1,(Zf ks l gs (Z7 g l ks 0 a).2).2)
def KU(ns gs:List Int)(l:List Vl):Mt:=⟨QW ns,Zd (Zf (QR (QW ns)) l (gs.take 4) 0).1,(Zf (QR (QW ns)) l (gs.take 4) 0).1⟩
abbrev vV(l:List Vl):AVal:=vT 2 ZU default l
def I64(x:Int):Prop:=-9223372036854775808≤x∧x≤9223372036854775807
theorem Yp{a n:Int}(hn:0<n):0≤wi a n∧wi a n<n:=Vr hn
theorem US(g:Int):1≤nM g∧nM g≤40:=by
 have:=Yp (a:=g) (n:=40) (by decide)
 unfold nM;omega
theorem GZ{g left:Int}(h:0<left):1≤YF g left∧YF g left≤left∧YF g left≤20:=by
 have:=Yp (a:=dv g 7) (n:=20) (by decide)
 unfold YF
 split<;>omega
theorem V1{g left:Int}{f:Nat}(h:0<left):ZX g (f+1) left=pgM g (YF g left)::ZX g f (left-YF g left):=by rw[ZX,if_pos h]
theorem MP{g left:Int}{f:Nat}(h:¬0<left):ZX g f left=[]:=by
 cases f with
 |zero=>rfl
 |succ f=>rw[ZX,if_neg h]
theorem WL(g:Int):∀(f:Nat) (left:Int),(ZX g f left).length≤f
 |0,_=>Nat.le_refl _
 |f+1,left=>by
  rw[ZX]
  split
  ·rw[List.length_cons];have:=WL g f (left-YF g left);omega
  ·exact Nat.zero_le _
theorem Up(g:Int)(l:List Vl):∀(ks:List Int) (k a:Nat),(Z7 g l ks k a).1.length=ks.length
 |[],_,_=>rfl
 |kd::ks,k,a=>by rw[Z7,List.length_cons,Up g l ks,List.length_cons]
theorem DH(g:Int)(k:Nat)(kd:Int)(l:List Vl)(a:Nat):(ZF g k kd l a).2≤a+1:=by
 unfold ZF
 split
 ·exact Nat.le_refl _
 ·exact Nat.le_succ _
theorem Fq(g:Int)(l:List Vl):∀(ks:List Int) (k a:Nat),(Z7 g l ks k a).2≤a+ks.length
 |[],_,_=>Nat.le_refl _
 |kd::ks,k,a=>by
  have h1:=DH g k kd l a
  have h2:=Fq g l ks (k+1) (ZF g k kd l a).2
  rw[Z7,List.length_cons]
  show(Z7 g l ks (k+1) (ZF g k kd l a).2).2≤_
  omega
def YJ(ks:List Int)(l:List Vl)(gs:List Int):Nat→List Rw×Nat
 |0=>([],0)
 |i+1=>((YJ ks l gs i).1++[⟨nM (gs.getD i 0),(Z7 (gs.getD i 0) l ks 0 (YJ ks l gs i).2).1⟩],(Z7 (gs.getD i 0) l ks 0 (YJ ks l gs i).2).2)
theorem Gz(ks:List Int)(l:List Vl):∀(x y:List Int) (a:Nat),Zf ks l (x++y) a=((Zf ks l x a).1++(Zf ks l y (Zf ks l x a).2).1,(Zf ks l y (Zf ks l x a).2).2)
 |[],y,a=>rfl
 |g::x,y,a=>by
  rw[List.cons_append,Zf,Zf,Gz ks l x y]
  rfl
theorem Ia(ks:List Int)(l:List Vl)(gs:List Int):∀i,i≤gs.length→YJ ks l gs i=Zf ks l (gs.take i) 0
 |0,_=>by rw[List.take_zero];rfl
 |i+1,h=>by
  have ih:=Ia ks l gs i (by omega)
  have e:gs.take (i+1)=gs.take i++[gs.getD i 0]:=by
   rw[List.take_add_one,List.getD_eq_getElem?_getD,List.getElem?_eq_getElem (by omega)];rfl
  rw[YJ,ih,e,Gz]
  rfl
def Wk(g:Int)(l:List Vl)(ks:List Int)(a:Nat):Nat→List Ck×Nat
 |0=>([],a)
 |k+1=>((Wk g l ks a k).1++[(ZF g k (ks.getD k 0) l (Wk g l ks a k).2).1],(ZF g k (ks.getD k 0) l (Wk g l ks a k).2).2)
theorem GJ(g:Int)(l:List Vl):∀(x y:List Int) (k a:Nat),Z7 g l (x++y) k a=((Z7 g l x k a).1++(Z7 g l y (k+x.length) (Z7 g l x k a).2).1,(Z7 g l y (k+x.length) (Z7 g l x k a).2).2)
 |[],y,k,a=>rfl
 |q::x,y,k,a=>by
  rw[List.cons_append,Z7,Z7,GJ g l x y,List.length_cons]
  rw[show k+1+x.length=k+(x.length+1) by omega]
  rfl
theorem Il(g:Int)(l:List Vl)(ks:List Int)(a:Nat):∀k,k≤ks.length→Wk g l ks a k=Z7 g l (ks.take k) 0 a
 |0,_=>by rw[List.take_zero];rfl
 |k+1,h=>by
  have ih:=Il g l ks a k (by omega)
  have e:ks.take (k+1)=ks.take k++[ks.getD k 0]:=by
   rw[List.take_add_one,List.getD_eq_getElem?_getD,List.getElem?_eq_getElem (by omega)];rfl
  rw[Wk,ih,e,GJ,List.length_take,Nat.min_eq_left (by omega),Nat.zero_add]
  rfl
theorem Im(g:Int)(l:List Vl)(ks:List Int)(a:Nat):∀k,(Wk g l ks a k).2≤a+k
 |0=>Nat.le_refl _
 |k+1=>by
  have h1:=Im g l ks a k
  have h2:=DH g k (ks.getD k 0) l (Wk g l ks a k).2
  show(ZF g k (ks.getD k 0) l (Wk g l ks a k).2).2≤_
  omega
theorem Ib(ks:List Int)(l:List Vl)(gs:List Int):∀i,(YJ ks l gs i).2≤i*ks.length
 |0=>by simp[YJ]
 |i+1=>by
  have h1:=Ib ks l gs i
  have h2:=Fq (gs.getD i 0) l ks 0 (YJ ks l gs i).2
  show(Z7 (gs.getD i 0) l ks 0 (YJ ks l gs i).2).2≤_
  rw[Nat.add_mul,Nat.one_mul];omega
section
set_option maxRecDepth 100000
set_option maxHeartbeats 4000000
def G_wi:List AVal→(AVal→Prop)→Prop:=fun args K=>∃a n,args=[.int .i64 a,.int .i64 n]∧(0<n∧n≤4611686018427387904)∧K (.int .i64 (wi a n))
theorem Pd[Syms]:Ec Try.prog 49 G_wi:=by
 rintro args K ⟨a,n,rfl,⟨h1,h2⟩,hk⟩
 refine⟨GS,_,hk,fun ι w vs hv=>?_⟩
 obtain⟨v0,vs0,rfl,hv0,hv⟩:=hv.uncons
 obtain⟨v1,vs1,rfl,hv1,hv⟩:=hv.uncons
 obtain rfl:=hv.unnil
 obtain rfl:=hv0.of_int
 obtain rfl:=hv1.of_int
 refine(K0 a n h1 h2 w).mono ?_
 rintro e w' ⟨rfl,rfl⟩
 exact⟨_,rfl,.int _ _,rfl⟩
theorem DU[Syms]:Ec Try.prog 13 G_wi:=by
 rintro args K ⟨a,n,rfl,⟨h1,h2⟩,hk⟩
 refine⟨GR,_,hk,fun ι w vs hv=>?_⟩
 obtain⟨v0,vs0,rfl,hv0,hv⟩:=hv.uncons
 obtain⟨v1,vs1,rfl,hv1,hv⟩:=hv.uncons
 obtain rfl:=hv.unnil
 obtain rfl:=hv0.of_int
 obtain rfl:=hv1.of_int
 refine(UZ a n h1 h2 w).mono ?_
 rintro e w' ⟨rfl,rfl⟩
 exact⟨_,rfl,.int _ _,rfl⟩
abbrev cGd:CallT:=Q6 49 (BN G_wi) Q7
theorem TR[Syms]:cGd.ok Try.prog:=VN Pd Q9
theorem Bk[Syms]{N nx:Nat}{e:Env}{H:Heap}{row:List AVal}{v:Vl}{rs:List ResultVar}(hk:e.get 4= .ptr 1 0 0)(H1:H.get 1=some (.cells [row] false))(hrow:Ww row (ZU v))(hn:QG 0 nx [0,1]=true)
 (hrs:Zc (Qn tys) ⟨[(4,.ptr 1 0 0)],[(1,some (.cells [ZU v] false))],2⟩ rs=some (.agg (ZU v))):
 ∃s3,Reb 0 N ⟨e,H,nx⟩ s3∧ ∃u,Zc (Qn tys) s3 rs=some u∧Vt (fun u H _=>u= .agg (ZU v)∧H=[]) u s3.heap s3.nx:=
 ⟨⟨[(4,.ptr 1 0 0)],[(1,some (.cells [ZU v] false))],2⟩,Q0 [0,1] hn ⟨by rw[hk];exact .refl _,trivial⟩ ⟨⟨Nat.lt_succ_self _,_,H1,QM hrow (fV v)⟩,trivial⟩,_,hrs,[],fun n b h=>(by rw[Heap.get_nil]at h;cases h),rfl,rfl⟩
theorem Ps(s:List UInt8):((s.drop 0).take ((if(100:Int)<(s.length:Int)then 100 else(s.length:Int)).toNat-0))=s.take 100:=by
 rw[List.drop_zero]
 split
 ·rfl
 ·rw[List.take_of_length_le (by omega),List.take_of_length_le (by omega)]
theorem T9[Syms](k:Int)(v:Vl):fnT Q7 cGd (Qv fns) (Qn tys) (Qz plt) 100 22 [.int .i64 k,.agg (ZU v)] [] 0 (Vt (fun u H _=>u= .agg (ZU (ZQ k v))∧H=[])):=by
 unfold ZQ
 by_cases h1:k=1
 ·rw[if_pos h1]
  repeat' first|refine And.intro ?_ ?_|(intro h;try first|exact dzq|replace h:=cvq)
  all_goals try exact cz
  refine⟨v.n,2,rfl,by decide,?_⟩
  repeat' first|refine And.intro ?_ ?_|(intro h;try first|exact dzq|replace h:=cvq)
  all_goals try exact cz
  exact Bk (v:=⟨wi v.n 2,[]⟩) rfl rfl ⟨.refl _,.refl _,trivial⟩ (by exact rfl) (by exact rfl)
 rw[if_neg h1]
 by_cases h2:k=2
 ·rw[if_pos h2]
  have hw:=Sw v.n
  repeat' first|refine And.intro ?_ ?_|(intro h;try first|exact dzq|replace h:=cvq)
  all_goals try exact cz
  exact Bk (v:=⟨wr .i32 v.n,[]⟩) rfl rfl ⟨Qp hw,.refl _,trivial⟩ (by exact rfl) (by exact rfl)
 rw[if_neg h2]
 by_cases h3:k=3
 ·rw[if_pos h3]
  repeat' first|refine And.intro ?_ ?_|(intro h;try first|exact dzq|replace h:=cvq)
  all_goals try exact cz
  exact Bk (v:=⟨v.n,[]⟩) rfl rfl ⟨.refl _,.refl _,trivial⟩ (by exact rfl) (by exact rfl)
 rw[if_neg h3]
 repeat' first|refine And.intro ?_ ?_|(intro h;try first|exact dzq|replace h:=cvq)
 all_goals try exact cz
 exact Bk (v:=⟨0,v.s.take 100⟩) rfl rfl ⟨.refl _,Ei (Ps v.s),trivial⟩ (by exact rfl) (by exact rfl)
def S_good:SpecI:=fun args K=>∃k v,args=[.int .i64 k,.agg (ZU v)]∧K (.agg (ZU (ZQ k v)))
theorem Ri[Syms]:Zx Try.prog 22 S_good:=by
 rintro args K ⟨k,v,rfl,hk⟩
 exact⟨rfl,_,rfl,hk,XB.forget (Qg Qh Qi Q3 TR Qt (T9 k v))⟩
abbrev cKn:CallT:=Q6 15 (QD FJ) Q7
theorem TQ[Syms]:cKn.ok Try.prog:=Q4 Du Q9
theorem Lo[Syms]:fnT Q7 cKn (Qv fns) (Qn tys) (Qz plt) 100 10 [] [] 0 (fun v H _=>v= .bool true∧H=[]):=by
 refine⟨[],[vB []],[],rfl,⟨.zeroT 1 _ _ rfl,trivial⟩,trivial,[],rfl,rfl,rfl,Nat.zero_le _,?_⟩
 have hp:YQ []=(mt0,8):=rfl
 rw[hp]
 repeat' first|refine And.intro ?_ ?_|(intro h;try first|exact dzq|replace h:=cvq)
 all_goals try exact cz
 exact⟨_,Q2 [0] rfl,_,rfl,rfl,rfl⟩
def S_known19:SpecI:=fun args K=>args=[]∧K (.bool true)
theorem EQ[Syms]:Zx Try.prog 10 S_known19:=by
 rintro args K ⟨rfl,hk⟩
 exact⟨rfl,_,rfl,hk,Qg Qh Qi Q3 TQ Qt Lo⟩
end
section
set_option maxRecDepth 100000
set_option maxHeartbeats 4000000
def rE(fs:List Fd)(i:Nat)(p d o l:AVal):Env:=[(0,vF fs),(4,p),(5,d),(6,o),(7,l),(8,.int .i64 i)]
def sI(k n:Nat):AVal:=.slice k 0 n 1 none
def rA(fs:List Fd)(i:Nat):St:=⟨rE fs i .nils .nils .nils .nils,[],0⟩
def rB(fs:List Fd)(i:Nat)(out:List (Int×Int)):St:=⟨rE fs i (sI 0 i) (sI 1 i) .nils .nils,[(0,some (.cells (out.map (Qq ·.1)) false)),(1,some (.cells (out.map (Qq ·.2)) false))],2⟩
def rC(fs:List Fd)(i n:Nat)(out:List (Int×Int))(R S:List (List AVal)):St:=
 ⟨rE fs i (sI 0 i) (sI 1 i) (sI 2 n) (sI 3 n),[(0,some (.cells (out.map (Qq ·.1)) false)),(1,some (.cells (out.map (Qq ·.2)) false)),(2,some (.cells R false)),(3,some (.cells S false))],4⟩
def rD(fs:List Fd)(i n:Nat)(out:List (Int×Int))(R S:List (List AVal)):St:=
 ⟨rE fs i (sI 0 (i+1)) (sI 1 (i+1)) (sI 2 n) (sI 3 n),[(0,some (.cells (out.map (Qq ·.1)) false)),(1,some (.cells (out.map (Qq ·.2)) false)),(2,some (.cells R false)),(3,some (.cells S false))],4⟩
structure RInv(fs:List Fd)(i:Nat)(st:Stk)(out:List (Int×Int)):Prop where
 le:i≤fs.length
 len:out.length=i
 run:out++FV (fs.drop i) i st=FV fs 0 []
 pos:∀p∈st,0≤p.2∧p.2≤9223372036854775807
 sl:st.length≤i
def rSt(fs:List Fd)(i:Nat)(st:Stk)(out:List (Int×Int))(s:St):Prop:=
 (i=0∧st=[]∧out=[]∧s=rA fs i)∨(st=[]∧s=rB fs i out)∨(∃j1 j2 R S,(Qm j1∧Qm j2∧R=st.reverse.map (Qq ·.1)++j1∧S=st.reverse.map (Qq ·.2)++j2)∧s=rC fs i st.length out R S)
theorem PG{fs:List Fd}{i:Nat}{st:Stk}(h:i<fs.length):FV (fs.drop i) i st=(U0 (Xr st),((Xr st).length:Int))::FV (fs.drop (i+1)) (i+1) (Wm i (fs.getD i default) (XL (Xr st))):=by
 rw[Bo h];rfl
theorem Cf:∀st:Stk,(Xr st).length≤st.length
 |[]=>Nat.le_refl _
 |(a,k)::t=>by rw[Xr];split<;>simp;have:=Cf t;omega
theorem JM{fs:List Fd}{i:Nat}{st:Stk}{out:List (Int×Int)}(hk:∀i,(fs.getD i default).kids≤9223372036854775807)(h:RInv fs i st out)(hi:i<fs.length):
 RInv fs (i+1) (Wm i (fs.getD i default) (XL (Xr st))) (out++[(U0 (Xr st),((Xr st).length:Int))]):=by
 have hn:Ku st:=fun p hp=>(h.pos p hp).1
 refine⟨hi,by simp[h.len],?_,fun p hp=>⟨MJ hn i _ p hp,?_⟩,?_⟩
 ·rw[←h.run,PG hi];simp
 ·have hd:∀p∈XL (Xr st),p.2≤9223372036854775807:=by
   intro p hp
   cases hq:Xr st with
   |nil=>rw[hq]at hp;simp[XL]at hp
   |cons q t=>
    obtain⟨a,k⟩:=q
    have hm:∀r∈(a,k)::t,r.2≤9223372036854775807:=fun r hr=>(h.pos r (Ce (by rw[hq];exact hr))).2
    rw[hq]at hp
    simp only[XL,List.mem_cons]at hp
    rcases hp with rfl|hp
    ·have:=hm (a,k) (List.mem_cons_self ..);simp only at this ⊢;omega
    ·exact hm p (List.mem_cons_of_mem _ hp)
  unfold Wm at hp
  split at hp
  ·rcases List.mem_cons.1 hp with rfl|hp
   ·exact hk i
   ·exact hd p hp
  ·exact hd p hp
 ·have h1:=Cf st
  have h2:(XL (Xr st)).length≤(Xr st).length:=by cases Xr st<;>simp[XL]
  have:=h.sl
  unfold Wm
  split<;>simp<;>omega
theorem fI1(l:List (Int×Int)):Qm (l.map (Qq ·.1)):=Yg (fun a x hx=>by simp[Qq]at hx;subst hx;rfl) l
theorem fI2(l:List (Int×Int)):Qm (l.map (Qq ·.2)):=Yg (fun a x hx=>by simp[Qq]at hx;subst hx;rfl) l
theorem QX{g:Int×Int→List AVal}{l:List (Int×Int)}{i:Nat}(hl:l.length=i)(x:Int×Int):List.take i (List.drop 0 (l.map g))++[g x]=(l++[x]).map g:=by
 rw[List.drop_zero,List.take_of_length_le (by rw[List.length_map];omega)];simp
theorem Es[Syms]{na N:Nat}{e:Env}{H:Heap}{nx:Nat}(h2:(e.get 2).isZ 1=true)(h3:(e.get 3).isZ 1=true):Reb na N ⟨e,H,nx⟩ ⟨[(3,vI []),(2,vI [])],[],nx⟩:=by
 refine(Xy (k:=2) (y:=vI []) fun ι v hv=>.vt _ _ _ _ (hv.isZ h2)).trans ((Xy (e:=(2,vI [])::e) (k:=3) (y:=vI []) fun ι v hv=>.vt _ _ _ _ (RelV.isZ (ι:=ι) (sz:=1) h3 (show RelV ι (e.get 3) v from hv))).trans (KK (fun j=>?_) (fun m b h=>by rw[Heap.get_nil]at h;cases h)))
 rw[Env.get_cons,Env.get_cons,Env.get_cons,Env.get_cons,Env.get_nil]
 cases Nat.beq j 3<;>cases Nat.beq j 2<;>simp
theorem D5[Syms]{na N:Nat}{e:Env}{H:Heap}{nx i:Nat}{out:List (Int×Int)}(h2:e.get 2=sI 0 i)(h3:e.get 3=sI 1 i)(hb0:H.get 0=some (.cells (out.map (Qq ·.1)) false))(hb1:H.get 1=some (.cells (out.map (Qq ·.2)) false))(hol:out.length=i):
 Reb na N ⟨e,H,nx⟩ ⟨[(3,vI (out.map (·.2))),(2,vI (out.map (·.1)))],[],nx⟩:=by
 refine(Y3 (enc:=Qq) (k:=2) 0 (l:=out.map (·.1)) [(3,sI 1 i)] [(1,some (.cells (out.map (Qq ·.2)) false))] h2 hb0 (fI1 _) ?_ ?_ ?_ ?_).trans (Y3 (enc:=Qq) (k:=3) 0 (l:=out.map (·.2)) [(2,vI (out.map (·.1)))] [] rfl rfl (fI2 _) ?_ ?_ ?_ ?_)
 ·rw[List.take_of_length_le (by simp;omega),List.map_map];rfl
 ·simp;omega
 ·intro p hp;simp only[List.mem_singleton]at hp;subst hp;exact⟨show(3:Nat)≠2 by decide,h3⟩
 ·intro m b h
  rw[Heap.get_cons,Heap.get_nil]at h
  by_cases hm:m=1
  ·subst hm;rw[Nat.beq_refl]at h;rw[Heap.get_set_ne _ _ (by decide),hb1];exact h
  ·rw[QS hm]at h;cases h
 ·rw[List.take_of_length_le (by simp;omega),List.map_map];rfl
 ·simp;omega
 ·intro p hp;simp only[List.mem_singleton]at hp;subst hp;exact⟨show(2:Nat)≠3 by decide,rfl⟩
 ·intro m b h;rw[Heap.get_nil]at h;cases h
theorem W3{st:Stk}{q:List (List AVal)}{g:Int×Int→List AVal}{n:Nat}(hn:n=st.length):List.take n (List.drop 0 (st.reverse.map g++q))=st.reverse.map g:=by
 rw[List.drop_zero,hn,show st.length=(st.reverse.map g).length by simp];exact List.take_left
theorem PB[Syms](fs:List Fd)(hl:fs.length<1000)(hk:∀i,(fs.getD i default).kids≤9223372036854775807):
 fnT Q7 Q7 (Qv fns) (Qn tys) (Qz plt) 100 78 [vF fs] [] 0 (fun v H _=>v= .tup [vI (Qf fs),vI (X0 fs)]∧H=[]):=by
 refine⟨fun n s=>∃i st out,(RInv fs i st out∧n=fs.length-i)∧rSt fs i st out s,⟨_,rA fs 0,Q0 [] rfl ?_ ?_,0,[],[],⟨⟨by omega,rfl,rfl,by simp,by simp⟩,rfl⟩,.inl ⟨rfl,rfl,rfl,rfl⟩⟩,?_⟩
 ·exact⟨.refl _,.refl _,.refl _,.refl _,.refl _,.refl _,trivial⟩
 ·exact trivial
 rintro n s ⟨i,st,out,⟨hI,rfl⟩,(⟨h0,rfl,rfl,rfl⟩|⟨rfl,rfl⟩|⟨j1,j2,R,S,⟨hj1,hj2,hR,hS⟩,rfl⟩)⟩
 ·have hle:=hI.le
  have hol:=hI.len
  by_cases hin:i<fs.length
  ·have hnx:=JM hk hI hin
   by_cases hc:(fs.getD i default).kind=0∧0<(fs.getD i default).kids
   ·rw[Wm,if_pos hc,show Xr []=[] from rfl]at hnx
    repeat' first|refine And.intro ?_ ?_|(intro h;try first|exact dz|replace h:=cv)
    all_goals try exact cz
    refine Xm ?_
    repeat' first|refine And.intro ?_ ?_|(intro h;try first|exact dz|replace h:=cv)
    all_goals try exact cz
    all_goals(try exact NoSel.mk (by kernel_rfl))
    refine⟨rD fs i 1 ([]++[(-1,0)]) [Qq ((i:Nat):Int)] [Qq (fs.getD i default).kids],?_,?_⟩
    · repeat' first|refine And.intro ?_ ?_|(intro h;try first|exact dz|replace h:=cv)
      all_goals try exact cz
      all_goals(try exact Apart.mk (by kernel_rfl))
      all_goals refine Exists.intro () ?_
      all_goals first
      |(refine Q0 [1,3,5,7] (by exact rfl) ?_ ?_
        ·exact⟨.refl _,Q8 (by first|rfl|omega),Q8 (by first|rfl|omega),.refl _,.refl _,.refl _,trivial⟩
        ·exact⟨⟨by decide,_,rfl,Q1 (by subst h0;rfl) (fI1 _)⟩,⟨by decide,_,rfl,Q1 (by subst h0;rfl) (fI2 _)⟩,⟨by decide,_,rfl,Q1 rfl (fI [_])⟩,⟨by decide,_,rfl,Q1 rfl (fI [_])⟩,trivial⟩)
      |(refine Q0 [1,3,6,7] (by exact rfl) ?_ ?_
        ·exact⟨.refl _,Q8 (by first|rfl|omega),Q8 (by first|rfl|omega),.refl _,.refl _,.refl _,trivial⟩
        ·exact⟨⟨by decide,_,rfl,Q1 (by subst h0;rfl) (fI1 _)⟩,⟨by decide,_,rfl,Q1 (by subst h0;rfl) (fI2 _)⟩,⟨by decide,_,rfl,Q1 rfl (fI [_])⟩,⟨by decide,_,rfl,Q1 rfl (fI [_])⟩,trivial⟩)
      |(refine Q0 [1,3,7,6] (by exact rfl) ?_ ?_
        ·exact⟨.refl _,Q8 (by first|rfl|omega),Q8 (by first|rfl|omega),.refl _,.refl _,.refl _,trivial⟩
        ·exact⟨⟨by decide,_,rfl,Q1 (by subst h0;rfl) (fI1 _)⟩,⟨by decide,_,rfl,Q1 (by subst h0;rfl) (fI2 _)⟩,⟨by decide,_,rfl,Q1 rfl (fI [_])⟩,⟨by decide,_,rfl,Q1 rfl (fI [_])⟩,trivial⟩)
      |(refine Q0 [1,3,7,5] (by exact rfl) ?_ ?_
        ·exact⟨.refl _,Q8 (by first|rfl|omega),Q8 (by first|rfl|omega),.refl _,.refl _,.refl _,trivial⟩
        ·exact⟨⟨by decide,_,rfl,Q1 (by subst h0;rfl) (fI1 _)⟩,⟨by decide,_,rfl,Q1 (by subst h0;rfl) (fI2 _)⟩,⟨by decide,_,rfl,Q1 rfl (fI [_])⟩,⟨by decide,_,rfl,Q1 rfl (fI [_])⟩,trivial⟩)
    repeat' first|refine And.intro ?_ ?_|(intro h;try first|exact dz|replace h:=cv)
    all_goals try exact cz
    exact⟨_,rC fs (i+1) 1 ([]++[(-1,0)]) [Qq ((i:Nat):Int)] [Qq (fs.getD i default).kids],.refl _ _ _,⟨_,_,_,⟨hnx,rfl⟩,.inr (.inr ⟨[],[],_,_,⟨QK,QK,rfl,rfl⟩,rfl⟩)⟩,by omega⟩
   ·rw[Wm,if_neg hc,show Xr []=[] from rfl]at hnx
    repeat' first|refine And.intro ?_ ?_|(intro h;try first|exact dz|replace h:=cv)
    all_goals try exact cz
    refine Xm ?_
    repeat' first|refine And.intro ?_ ?_|(intro h;try first|exact dz|replace h:=cv)
    all_goals try exact cz
    all_goals
     refine⟨_,rB fs (i+1) ([]++[(-1,0)]),Q0 [1,3] rfl ?_ ?_,⟨_,_,_,⟨hnx,rfl⟩,.inr (.inl ⟨rfl,rfl⟩)⟩,by omega⟩
     ·exact⟨.refl _,Q8 (by first|rfl|omega),Q8 (by first|rfl|omega),.refl _,.refl _,.refl _,trivial⟩
     ·exact⟨⟨by decide,_,rfl,Q1 (by subst h0;rfl) (fI1 _)⟩,⟨by decide,_,rfl,Q1 (by subst h0;rfl) (fI2 _)⟩,trivial⟩
  · repeat' first|refine And.intro ?_ ?_|(intro h;try first|exact dz|replace h:=cv)
    all_goals try exact cz
    have h0:fs=[]:=List.eq_nil_of_length_eq_zero (by omega)
    subst h0
    exact⟨_,Es rfl rfl,_,rfl,rfl,rfl⟩
 ·have hle:=hI.le
  have hol:=hI.len
  by_cases hin:i<fs.length
  ·have hnx:=JM hk hI hin
   by_cases hc:(fs.getD i default).kind=0∧0<(fs.getD i default).kids
   ·rw[Wm,if_pos hc,show Xr []=[] from rfl]at hnx
    repeat' first|refine And.intro ?_ ?_|(intro h;try first|exact dz|replace h:=cv)
    all_goals try exact cz
    refine Xm ?_
    repeat' first|refine And.intro ?_ ?_|(intro h;try first|exact dz|replace h:=cv)
    all_goals try exact cz
    all_goals(try exact NoSel.mk (by kernel_rfl))
    refine⟨rD fs i 1 (out++[(-1,0)]) [Qq ((i:Nat):Int)] [Qq (fs.getD i default).kids],?_,?_⟩
    · repeat' first|refine And.intro ?_ ?_|(intro h;try first|exact dz|replace h:=cv)
      all_goals try exact cz
      all_goals(try exact Apart.mk (by kernel_rfl))
      all_goals refine Exists.intro () ?_
      all_goals first
      |(refine Q0 [3,5,7,9] (by exact rfl) ?_ ?_
        ·exact⟨.refl _,Q8 (by first|rfl|omega),Q8 (by first|rfl|omega),.refl _,.refl _,.refl _,trivial⟩
        ·exact⟨⟨by decide,_,rfl,Q1 (QX (g:=(Qq ·.1)) hol (-1,0)) (fI1 _)⟩,⟨by decide,_,rfl,Q1 (QX (g:=(Qq ·.2)) hol (-1,0)) (fI2 _)⟩,⟨by decide,_,rfl,Q1 rfl (fI [_])⟩,⟨by decide,_,rfl,Q1 rfl (fI [_])⟩,trivial⟩)
      |(refine Q0 [3,5,8,9] (by exact rfl) ?_ ?_
        ·exact⟨.refl _,Q8 (by first|rfl|omega),Q8 (by first|rfl|omega),.refl _,.refl _,.refl _,trivial⟩
        ·exact⟨⟨by decide,_,rfl,Q1 (QX (g:=(Qq ·.1)) hol (-1,0)) (fI1 _)⟩,⟨by decide,_,rfl,Q1 (QX (g:=(Qq ·.2)) hol (-1,0)) (fI2 _)⟩,⟨by decide,_,rfl,Q1 rfl (fI [_])⟩,⟨by decide,_,rfl,Q1 rfl (fI [_])⟩,trivial⟩)
      |(refine Q0 [3,5,9,8] (by exact rfl) ?_ ?_
        ·exact⟨.refl _,Q8 (by first|rfl|omega),Q8 (by first|rfl|omega),.refl _,.refl _,.refl _,trivial⟩
        ·exact⟨⟨by decide,_,rfl,Q1 (QX (g:=(Qq ·.1)) hol (-1,0)) (fI1 _)⟩,⟨by decide,_,rfl,Q1 (QX (g:=(Qq ·.2)) hol (-1,0)) (fI2 _)⟩,⟨by decide,_,rfl,Q1 rfl (fI [_])⟩,⟨by decide,_,rfl,Q1 rfl (fI [_])⟩,trivial⟩)
      |(refine Q0 [3,5,9,7] (by exact rfl) ?_ ?_
        ·exact⟨.refl _,Q8 (by first|rfl|omega),Q8 (by first|rfl|omega),.refl _,.refl _,.refl _,trivial⟩
        ·exact⟨⟨by decide,_,rfl,Q1 (QX (g:=(Qq ·.1)) hol (-1,0)) (fI1 _)⟩,⟨by decide,_,rfl,Q1 (QX (g:=(Qq ·.2)) hol (-1,0)) (fI2 _)⟩,⟨by decide,_,rfl,Q1 rfl (fI [_])⟩,⟨by decide,_,rfl,Q1 rfl (fI [_])⟩,trivial⟩)
    repeat' first|refine And.intro ?_ ?_|(intro h;try first|exact dz|replace h:=cv)
    all_goals try exact cz
    exact⟨_,rC fs (i+1) 1 (out++[(-1,0)]) [Qq ((i:Nat):Int)] [Qq (fs.getD i default).kids],.refl _ _ _,⟨_,_,_,⟨hnx,rfl⟩,.inr (.inr ⟨[],[],_,_,⟨QK,QK,rfl,rfl⟩,rfl⟩)⟩,by omega⟩
   ·rw[Wm,if_neg hc,show Xr []=[] from rfl]at hnx
    repeat' first|refine And.intro ?_ ?_|(intro h;try first|exact dz|replace h:=cv)
    all_goals try exact cz
    refine Xm ?_
    repeat' first|refine And.intro ?_ ?_|(intro h;try first|exact dz|replace h:=cv)
    all_goals try exact cz
    all_goals
     refine⟨_,rB fs (i+1) (out++[(-1,0)]),Q0 [3,5] rfl ?_ ?_,⟨_,_,_,⟨hnx,rfl⟩,.inr (.inl ⟨rfl,rfl⟩)⟩,by omega⟩
     ·exact⟨.refl _,Q8 (by first|rfl|omega),Q8 (by first|rfl|omega),.refl _,.refl _,.refl _,trivial⟩
     ·exact⟨⟨by decide,_,rfl,Q1 (QX (g:=(Qq ·.1)) hol (-1,0)) (fI1 _)⟩,⟨by decide,_,rfl,Q1 (QX (g:=(Qq ·.2)) hol (-1,0)) (fI2 _)⟩,trivial⟩
  · repeat' first|refine And.intro ?_ ?_|(intro h;try first|exact dz|replace h:=cv)
    all_goals try exact cz
    have hrun:=hI.run
    rw[List.drop_of_length_le (by omega),HI]at hrun
    simp only[FV,List.append_nil]at hrun
    exact⟨_,D5 (out:=out) rfl rfl rfl rfl hol,_,rfl,by rw[hrun];rfl,rfl⟩
 ·have hle:=hI.le
  have hol:=hI.len
  have hsl:=hI.sl
  have hfR:Qm R:=hR▸Qw (fI1 _) hj1
  have hfS:Qm S:=hS▸Qw (fI2 _) hj2
  by_cases hin:i<fs.length
  · repeat' first|refine And.intro ?_ ?_|(intro h;try first|exact dz|replace h:=cv)
    all_goals try exact cz
    refine⟨fun m s=>∃(st1:Stk) (q1 q2:List (List AVal)),(m=st1.length∧Xr st1=Xr st∧R=st1.reverse.map (Qq ·.1)++q1∧S=st1.reverse.map (Qq ·.2)++q2∧Qm q1∧Qm q2∧(∀p∈st1,0≤p.2∧p.2≤9223372036854775807)∧st1.length≤st.length)∧s=rC fs i st1.length out R S,⟨_,rC fs i st.length out R S,HR [0,4,5,6,7,8],st,j1,j2,⟨rfl,rfl,hR,hS,hj1,hj2,hI.pos,Nat.le_refl _⟩,rfl⟩,?_⟩
    rintro m s ⟨st1,q1,q2,⟨rfl,hp1,hR1,hS1,hq1,hq2,hb1,hl1⟩,rfl⟩
    have hnx:=JM hk hI hin
    rw[←hp1]at hnx
    clear hI hj1 hj2 hR hS
    cases st1 with
    |nil=>
     have hx1:True=True:=rfl
     have hx2:True=True:=rfl
     have hx3:True=True:=rfl
     have hx4:True=True:=rfl
     by_cases hc:(fs.getD i default).kind=0∧0<(fs.getD i default).kids
     ·rw[Wm,if_pos hc]at hnx
      repeat' first|refine And.intro ?_ ?_|(intro h;try first|exact dzi|replace h:=cvi)
      all_goals try exact cz
      all_goals(try first|((with_reducible show(_:Int)≤(_:Int));simp only[hx2,hx3,hx4,Qd,Ql,Z9,Nat.zero_add];omega)|((with_reducible show(_:Int)<(_:Int));simp only[hx2,hx3,hx4,Qd,Ql,Z9,Nat.zero_add];omega)|((with_reducible show(_:Nat)≤(_:Nat));simp only[hx2,hx3,hx4,Xo,List.length_set,Nat.zero_add];omega)|((with_reducible show(_:Nat)<(_:Nat));simp only[hx2,hx3,hx4,Xo,List.length_set,Nat.zero_add];omega)|((with_reducible show isC _ _ _=true);simp only[hx2,hx3,hx4,Qd,Ql,Z9,Nat.zero_add];exact rfl))
      refine⟨rD fs i 1 (out++[(-1,0)]) [Qq (i:Int)] [Qq (fs.getD i default).kids],?_,?_⟩
      · repeat' first|refine And.intro ?_ ?_|(intro h;try first|exact dzi|replace h:=cvi)
        all_goals try exact cz
        all_goals(try first|((with_reducible show(_:Int)≤(_:Int));simp only[hx2,hx3,hx4,Qd,Ql,Z9,Nat.zero_add];omega)|((with_reducible show(_:Int)<(_:Int));simp only[hx2,hx3,hx4,Qd,Ql,Z9,Nat.zero_add];omega)|((with_reducible show(_:Nat)≤(_:Nat));simp only[hx2,hx3,hx4,Xo,List.length_set,Nat.zero_add];omega)|((with_reducible show(_:Nat)<(_:Nat));simp only[hx2,hx3,hx4,Xo,List.length_set,Nat.zero_add];omega)|((with_reducible show isC _ _ _=true);simp only[hx2,hx3,hx4,Qd,Ql,Z9,Nat.zero_add];exact rfl))
        all_goals refine Exists.intro () ?_
        all_goals first
        |(refine Q0 [5,7,9,11] (by exact rfl) ?_ ?_
          ·exact⟨.refl _,Q8 (by first|rfl|omega),Q8 (by first|rfl|omega),Q8 (by first|rfl|omega),Q8 (by first|rfl|omega),.refl _,trivial⟩
          ·refine⟨⟨by decide,_,rfl,Q1 ?_ (fI1 _)⟩,⟨by decide,_,rfl,Q1 ?_ (fI2 _)⟩,⟨by decide,_,rfl,Q1 ?_ (fI [_])⟩,⟨by decide,_,rfl,Q1 ?_ (fI [_])⟩,trivial⟩
           ·exact QX (g:=(Qq ·.1)) hol (-1,0)
           ·exact QX (g:=(Qq ·.2)) hol (-1,0)
           ·rfl
           ·rfl)
        |(refine Q0 [5,7,10,11] (by exact rfl) ?_ ?_
          ·exact⟨.refl _,Q8 (by first|rfl|omega),Q8 (by first|rfl|omega),Q8 (by first|rfl|omega),Q8 (by first|rfl|omega),.refl _,trivial⟩
          ·refine⟨⟨by decide,_,rfl,Q1 ?_ (fI1 _)⟩,⟨by decide,_,rfl,Q1 ?_ (fI2 _)⟩,⟨by decide,_,rfl,Q1 ?_ (fI [_])⟩,⟨by decide,_,rfl,Q1 ?_ (fI [_])⟩,trivial⟩
           ·exact QX (g:=(Qq ·.1)) hol (-1,0)
           ·exact QX (g:=(Qq ·.2)) hol (-1,0)
           ·rfl
           ·rfl)
        |(refine Q0 [5,7,11,10] (by exact rfl) ?_ ?_
          ·exact⟨.refl _,Q8 (by first|rfl|omega),Q8 (by first|rfl|omega),Q8 (by first|rfl|omega),Q8 (by first|rfl|omega),.refl _,trivial⟩
          ·refine⟨⟨by decide,_,rfl,Q1 ?_ (fI1 _)⟩,⟨by decide,_,rfl,Q1 ?_ (fI2 _)⟩,⟨by decide,_,rfl,Q1 ?_ (fI [_])⟩,⟨by decide,_,rfl,Q1 ?_ (fI [_])⟩,trivial⟩
           ·exact QX (g:=(Qq ·.1)) hol (-1,0)
           ·exact QX (g:=(Qq ·.2)) hol (-1,0)
           ·rfl
           ·rfl)
        |(refine Q0 [5,7,11,9] (by exact rfl) ?_ ?_
          ·exact⟨.refl _,Q8 (by first|rfl|omega),Q8 (by first|rfl|omega),Q8 (by first|rfl|omega),Q8 (by first|rfl|omega),.refl _,trivial⟩
          ·refine⟨⟨by decide,_,rfl,Q1 ?_ (fI1 _)⟩,⟨by decide,_,rfl,Q1 ?_ (fI2 _)⟩,⟨by decide,_,rfl,Q1 ?_ (fI [_])⟩,⟨by decide,_,rfl,Q1 ?_ (fI [_])⟩,trivial⟩
           ·exact QX (g:=(Qq ·.1)) hol (-1,0)
           ·exact QX (g:=(Qq ·.2)) hol (-1,0)
           ·rfl
           ·rfl)
      repeat' first|refine And.intro ?_ ?_|(intro h;try first|exact dzi|replace h:=cvi)
      all_goals try exact cz
      exact⟨_,rC fs (i+1) 1 (out++[(-1,0)]) [Qq (i:Int)] [Qq (fs.getD i default).kids],.refl _ _ _,⟨_,_,_,⟨hnx,rfl⟩,.inr (.inr ⟨[],[],_,_,⟨QK,QK,rfl,rfl⟩,rfl⟩)⟩,by omega⟩
     ·rw[Wm,if_neg hc]at hnx
      repeat' first|refine And.intro ?_ ?_|(intro h;try first|exact dzi|replace h:=cvi)
      all_goals try exact cz
      all_goals(try first|((with_reducible show(_:Int)≤(_:Int));simp only[hx2,hx3,hx4,Qd,Ql,Z9,Nat.zero_add];omega)|((with_reducible show(_:Int)<(_:Int));simp only[hx2,hx3,hx4,Qd,Ql,Z9,Nat.zero_add];omega)|((with_reducible show(_:Nat)≤(_:Nat));simp only[hx2,hx3,hx4,Xo,List.length_set,Nat.zero_add];omega)|((with_reducible show(_:Nat)<(_:Nat));simp only[hx2,hx3,hx4,Xo,List.length_set,Nat.zero_add];omega)|((with_reducible show isC _ _ _=true);simp only[hx2,hx3,hx4,Qd,Ql,Z9,Nat.zero_add];exact rfl))
      all_goals
       refine⟨_,rC fs (i+1) 0 (out++[(-1,0)]) R S,Q0 [5,7,2,3] rfl ?_ ?_,⟨_,_,_,⟨hnx,rfl⟩,.inr (.inr ⟨R,S,_,_,⟨hfR,hfS,rfl,rfl⟩,rfl⟩)⟩,by omega⟩
       ·exact⟨.refl _,Q8 (by first|rfl|omega),Q8 (by first|rfl|omega),Q8 (by first|rfl|omega),Q8 (by first|rfl|omega),.refl _,trivial⟩
       ·refine⟨⟨by decide,_,rfl,Q1 ?_ (fI1 _)⟩,⟨by decide,_,rfl,Q1 ?_ (fI2 _)⟩,⟨by decide,_,rfl,Qb hfR⟩,⟨by decide,_,rfl,Q1 ?_ hfS⟩,trivial⟩
        ·exact QX (g:=(Qq ·.1)) hol (-1,0)
        ·exact QX (g:=(Qq ·.2)) hol (-1,0)
        ·rfl
    |cons q t=>
     obtain⟨a,k⟩:=q
     have hx4:((↑(t.length+1):Int)-1).toNat=t.length:=by omega
     have hx1:True=True:=rfl
     have hx2:R.getD t.length []=Qq a:=by rw[hR1];simp[List.getElem?_append,List.getElem?_map]
     have hx3:S.getD t.length []=Qq k:=by rw[hS1];simp[List.getElem?_append,List.getElem?_map]
     have hRl:t.length<R.length:=by rw[hR1];simp
     have hSl:t.length<S.length:=by rw[hS1];simp
     have hkb:=hb1 (a,k) (List.mem_cons_self ..)
     have htl:t.length+1≤st.length:=hl1
     simp only at hkb
     rw[List.length_cons]
     by_cases hk0:k=0
     ·skip
      have hpz:Xr ((a,k)::t)=Xr t:=by rw[Xr,if_pos hk0]
      repeat' first|refine And.intro ?_ ?_|(intro h;try first|exact dzi|replace h:=cvi)
      all_goals try exact cz
      all_goals(try first|((with_reducible show(_:Int)≤(_:Int));simp only[hx2,hx3,hx4,Qd,Ql,Z9,Nat.zero_add];omega)|((with_reducible show(_:Nat)≤(_:Nat));simp only[hx2,hx3,hx4,Xo,List.length_set,Nat.zero_add];omega)|((with_reducible show isC _ _ _=true);simp only[hx2,hx3,hx4,Qd,Ql,Z9,Nat.zero_add];exact rfl))
      refine⟨t.length,rC fs i t.length out R S,Q0 [0,1,2,3] rfl ?_ ?_,⟨t,Qq a::q1,Qq k::q2,⟨rfl,hpz▸hp1,by rw[hR1];simp,by rw[hS1];simp,Xe (fun x hx=>by simp[Qq]at hx;subst hx;rfl) hq1,Xe (fun x hx=>by simp[Qq]at hx;subst hx;rfl) hq2,fun p hp=>hb1 p (List.mem_cons_of_mem _ hp),by omega⟩,rfl⟩,by omega⟩
      ·exact⟨.refl _,.refl _,.refl _,Q8 (by first|rfl|omega),Q8 (by first|rfl|omega),.refl _,trivial⟩
      ·exact⟨⟨by decide,_,rfl,Qb (fI1 _)⟩,⟨by decide,_,rfl,Qb (fI2 _)⟩,⟨by decide,_,rfl,Qb hfR⟩,⟨by decide,_,rfl,Qb hfS⟩,trivial⟩
     ·skip
      have hpz:Xr ((a,k)::t)=(a,k)::t:=by rw[Xr,if_neg hk0]
      rw[hpz]at hnx
      have hset:S.set t.length (Qq (k-1))=((a,k-1)::t).reverse.map (Qq ·.2)++q2:=by rw[hS1];simp[List.set_append]
      have hRq:R=((a,k-1)::t).reverse.map (Qq ·.1)++q1:=by rw[hR1];simp
      have hfS2:Qm (S.set t.length (Qq (k-1))):=hset▸Qw (fI2 _) hq2
      by_cases hc:(fs.getD i default).kind=0∧0<(fs.getD i default).kids
      ·rw[Wm,if_pos hc]at hnx
       repeat' first|refine And.intro ?_ ?_|(intro h;try first|exact dzi|replace h:=cvi)
       all_goals try exact cz
       all_goals(try first|((with_reducible show(_:Int)≤(_:Int));simp only[hx2,hx3,hx4,Qd,Ql,Z9,Nat.zero_add];omega)|((with_reducible show(_:Int)<(_:Int));simp only[hx2,hx3,hx4,Qd,Ql,Z9,Nat.zero_add];omega)|((with_reducible show(_:Nat)≤(_:Nat));simp only[hx2,hx3,hx4,Xo,List.length_set,Nat.zero_add];omega)|((with_reducible show(_:Nat)<(_:Nat));simp only[hx2,hx3,hx4,Xo,List.length_set,Nat.zero_add];omega)|((with_reducible show isC _ _ _=true);simp only[hx2,hx3,hx4,Qd,Ql,Z9,Nat.zero_add];exact rfl))
       refine⟨rD fs i (t.length+1+1) (out++[(a,((t.length+1:Nat):Int))]) (((((i:Nat):Int),(fs.getD i default).kids)::(a,k-1)::t).reverse.map (Qq ·.1)) (((((i:Nat):Int),(fs.getD i default).kids)::(a,k-1)::t).reverse.map (Qq ·.2)),?_,?_⟩
       · repeat' first|refine And.intro ?_ ?_|(intro h;try first|exact dzi|replace h:=cvi)
         all_goals try exact cz
         all_goals(try first|((with_reducible show(_:Int)≤(_:Int));simp only[hx2,hx3,hx4,Qd,Ql,Z9,Nat.zero_add];omega)|((with_reducible show(_:Int)<(_:Int));simp only[hx2,hx3,hx4,Qd,Ql,Z9,Nat.zero_add];omega)|((with_reducible show(_:Nat)≤(_:Nat));simp only[hx2,hx3,hx4,Xo,List.length_set,Nat.zero_add];omega)|((with_reducible show(_:Nat)<(_:Nat));simp only[hx2,hx3,hx4,Xo,List.length_set,Nat.zero_add];omega)|((with_reducible show isC _ _ _=true);simp only[hx2,hx3,hx4,Qd,Ql,Z9,Nat.zero_add];exact rfl))
         all_goals refine Exists.intro () ?_
         all_goals first
         |(refine Q0 [6,8,10,12] (by exact rfl) ?_ ?_
           ·exact⟨.refl _,Q8 (by first|rfl|omega),Q8 (by first|rfl|omega),Q8 (by first|rfl|omega),Q8 (by first|rfl|omega),.refl _,trivial⟩
           ·refine⟨⟨by decide,_,rfl,Q1 ?_ (fI1 _)⟩,⟨by decide,_,rfl,Q1 ?_ (fI2 _)⟩,⟨by decide,_,rfl,Q1 ?_ (fI1 _)⟩,⟨by decide,_,rfl,Q1 ?_ (fI2 _)⟩,trivial⟩
            ·show List.take i (List.drop 0 (out.map (Qq ·.1)))++[[.int .i64 (asI ((R.getD (0+((↑(t.length+1):Int)-1).toNat) []).getD 0 .any))]]=_;rw[Nat.zero_add,hx4,hx2];exact QX (g:=(Qq ·.1)) hol (a,((t.length+1:Nat):Int))
            ·exact QX (g:=(Qq ·.2)) hol (a,((t.length+1:Nat):Int))
            ·show List.take (t.length+1) (List.drop 0 R)++[Qq i]=_;rw[hRq,W3 (by simp)];simp
            ·show List.take (t.length+1) (List.drop 0 (S.set (0+((↑(t.length+1):Int)-1).toNat) (QF (S.getD (0+((↑(t.length+1):Int)-1).toNat) []) 0 [.int .i64 (asI ((S.getD (0+((↑(t.length+1):Int)-1).toNat) []).getD 0 .any)-1)])))++[Qq (fs.getD i default).kids]=_;rw[Nat.zero_add,hx4,hx3,show QF (Qq k) 0 [.int .i64 (asI ((Qq k).getD 0 .any)-1)]=Qq (k-1) from rfl,hset,W3 (by simp)];simp)
         |(refine Q0 [6,8,11,12] (by exact rfl) ?_ ?_
           ·exact⟨.refl _,Q8 (by first|rfl|omega),Q8 (by first|rfl|omega),Q8 (by first|rfl|omega),Q8 (by first|rfl|omega),.refl _,trivial⟩
           ·refine⟨⟨by decide,_,rfl,Q1 ?_ (fI1 _)⟩,⟨by decide,_,rfl,Q1 ?_ (fI2 _)⟩,⟨by decide,_,rfl,Q1 ?_ (fI1 _)⟩,⟨by decide,_,rfl,Q1 ?_ (fI2 _)⟩,trivial⟩
            ·show List.take i (List.drop 0 (out.map (Qq ·.1)))++[[.int .i64 (asI ((R.getD (0+((↑(t.length+1):Int)-1).toNat) []).getD 0 .any))]]=_;rw[Nat.zero_add,hx4,hx2];exact QX (g:=(Qq ·.1)) hol (a,((t.length+1:Nat):Int))
            ·exact QX (g:=(Qq ·.2)) hol (a,((t.length+1:Nat):Int))
            ·show List.take (t.length+1) (List.drop 0 R)++[Qq i]=_;rw[hRq,W3 (by simp)];simp
            ·show List.take (t.length+1) (List.drop 0 (S.set (0+((↑(t.length+1):Int)-1).toNat) (QF (S.getD (0+((↑(t.length+1):Int)-1).toNat) []) 0 [.int .i64 (asI ((S.getD (0+((↑(t.length+1):Int)-1).toNat) []).getD 0 .any)-1)])))++[Qq (fs.getD i default).kids]=_;rw[Nat.zero_add,hx4,hx3,show QF (Qq k) 0 [.int .i64 (asI ((Qq k).getD 0 .any)-1)]=Qq (k-1) from rfl,hset,W3 (by simp)];simp)
         |(refine Q0 [6,8,12,11] (by exact rfl) ?_ ?_
           ·exact⟨.refl _,Q8 (by first|rfl|omega),Q8 (by first|rfl|omega),Q8 (by first|rfl|omega),Q8 (by first|rfl|omega),.refl _,trivial⟩
           ·refine⟨⟨by decide,_,rfl,Q1 ?_ (fI1 _)⟩,⟨by decide,_,rfl,Q1 ?_ (fI2 _)⟩,⟨by decide,_,rfl,Q1 ?_ (fI1 _)⟩,⟨by decide,_,rfl,Q1 ?_ (fI2 _)⟩,trivial⟩
            ·show List.take i (List.drop 0 (out.map (Qq ·.1)))++[[.int .i64 (asI ((R.getD (0+((↑(t.length+1):Int)-1).toNat) []).getD 0 .any))]]=_;rw[Nat.zero_add,hx4,hx2];exact QX (g:=(Qq ·.1)) hol (a,((t.length+1:Nat):Int))
            ·exact QX (g:=(Qq ·.2)) hol (a,((t.length+1:Nat):Int))
            ·show List.take (t.length+1) (List.drop 0 R)++[Qq i]=_;rw[hRq,W3 (by simp)];simp
            ·show List.take (t.length+1) (List.drop 0 (S.set (0+((↑(t.length+1):Int)-1).toNat) (QF (S.getD (0+((↑(t.length+1):Int)-1).toNat) []) 0 [.int .i64 (asI ((S.getD (0+((↑(t.length+1):Int)-1).toNat) []).getD 0 .any)-1)])))++[Qq (fs.getD i default).kids]=_;rw[Nat.zero_add,hx4,hx3,show QF (Qq k) 0 [.int .i64 (asI ((Qq k).getD 0 .any)-1)]=Qq (k-1) from rfl,hset,W3 (by simp)];simp)
         |(refine Q0 [6,8,12,10] (by exact rfl) ?_ ?_
           ·exact⟨.refl _,Q8 (by first|rfl|omega),Q8 (by first|rfl|omega),Q8 (by first|rfl|omega),Q8 (by first|rfl|omega),.refl _,trivial⟩
           ·refine⟨⟨by decide,_,rfl,Q1 ?_ (fI1 _)⟩,⟨by decide,_,rfl,Q1 ?_ (fI2 _)⟩,⟨by decide,_,rfl,Q1 ?_ (fI1 _)⟩,⟨by decide,_,rfl,Q1 ?_ (fI2 _)⟩,trivial⟩
            ·show List.take i (List.drop 0 (out.map (Qq ·.1)))++[[.int .i64 (asI ((R.getD (0+((↑(t.length+1):Int)-1).toNat) []).getD 0 .any))]]=_;rw[Nat.zero_add,hx4,hx2];exact QX (g:=(Qq ·.1)) hol (a,((t.length+1:Nat):Int))
            ·exact QX (g:=(Qq ·.2)) hol (a,((t.length+1:Nat):Int))
            ·show List.take (t.length+1) (List.drop 0 R)++[Qq i]=_;rw[hRq,W3 (by simp)];simp
            ·show List.take (t.length+1) (List.drop 0 (S.set (0+((↑(t.length+1):Int)-1).toNat) (QF (S.getD (0+((↑(t.length+1):Int)-1).toNat) []) 0 [.int .i64 (asI ((S.getD (0+((↑(t.length+1):Int)-1).toNat) []).getD 0 .any)-1)])))++[Qq (fs.getD i default).kids]=_;rw[Nat.zero_add,hx4,hx3,show QF (Qq k) 0 [.int .i64 (asI ((Qq k).getD 0 .any)-1)]=Qq (k-1) from rfl,hset,W3 (by simp)];simp)
       repeat' first|refine And.intro ?_ ?_|(intro h;try first|exact dzi|replace h:=cvi)
       all_goals try exact cz
       exact⟨_,rC fs (i+1) (t.length+1+1) (out++[(a,((t.length+1:Nat):Int))]) (((((i:Nat):Int),(fs.getD i default).kids)::(a,k-1)::t).reverse.map (Qq ·.1)) (((((i:Nat):Int),(fs.getD i default).kids)::(a,k-1)::t).reverse.map (Qq ·.2)),.refl _ _ _,⟨_,_,_,⟨hnx,rfl⟩,.inr (.inr ⟨[],[],_,_,⟨QK,QK,(List.append_nil _).symm,(List.append_nil _).symm⟩,rfl⟩)⟩,by omega⟩
      ·rw[Wm,if_neg hc]at hnx
       repeat' first|refine And.intro ?_ ?_|(intro h;try first|exact dzi|replace h:=cvi)
       all_goals try exact cz
       all_goals(try first|((with_reducible show(_:Int)≤(_:Int));simp only[hx2,hx3,hx4,Qd,Ql,Z9,Nat.zero_add];omega)|((with_reducible show(_:Int)<(_:Int));simp only[hx2,hx3,hx4,Qd,Ql,Z9,Nat.zero_add];omega)|((with_reducible show(_:Nat)≤(_:Nat));simp only[hx2,hx3,hx4,Xo,List.length_set,Nat.zero_add];omega)|((with_reducible show(_:Nat)<(_:Nat));simp only[hx2,hx3,hx4,Xo,List.length_set,Nat.zero_add];omega)|((with_reducible show isC _ _ _=true);simp only[hx2,hx3,hx4,Qd,Ql,Z9,Nat.zero_add];exact rfl))
       all_goals
        refine⟨_,rC fs (i+1) (t.length+1) (out++[(a,((t.length+1:Nat):Int))]) R (S.set t.length (Qq (k-1))),Q0 [6,8,2,3] rfl ?_ ?_,⟨_,_,_,⟨hnx,rfl⟩,.inr (.inr ⟨q1,q2,_,_,⟨hq1,hq2,hRq,hset⟩,rfl⟩)⟩,by omega⟩
        ·exact⟨.refl _,Q8 (by first|rfl|omega),Q8 (by first|rfl|omega),Q8 (by first|rfl|omega),Q8 (by first|rfl|omega),.refl _,trivial⟩
        ·refine⟨⟨by decide,_,rfl,Q1 ?_ (fI1 _)⟩,⟨by decide,_,rfl,Q1 ?_ (fI2 _)⟩,⟨by decide,_,rfl,Qb hfR⟩,⟨by decide,_,rfl,Q1 ?_ hfS2⟩,trivial⟩
         ·show List.take i (List.drop 0 (out.map (Qq ·.1)))++[[.int .i64 (asI ((R.getD (0+((↑(t.length+1):Int)-1).toNat) []).getD 0 .any))]]=_;rw[Nat.zero_add,hx4,hx2];exact QX (g:=(Qq ·.1)) hol (a,((t.length+1:Nat):Int))
         ·exact QX (g:=(Qq ·.2)) hol (a,((t.length+1:Nat):Int))
         ·show S.set (0+((↑(t.length+1):Int)-1).toNat) (QF (S.getD (0+((↑(t.length+1):Int)-1).toNat) []) 0 [.int .i64 (asI ((S.getD (0+((↑(t.length+1):Int)-1).toNat) []).getD 0 .any)-1)])=S.set t.length (Qq (k-1));rw[Nat.zero_add,hx4,hx3];rfl
  · repeat' first|refine And.intro ?_ ?_|(intro h;try first|exact dz|replace h:=cv)
    all_goals try exact cz
    have hrun:=hI.run
    rw[List.drop_of_length_le (by omega),HI]at hrun
    simp only[FV,List.append_nil]at hrun
    exact⟨_,D5 (out:=out) rfl rfl rfl rfl hol,_,rfl,by rw[hrun];rfl,rfl⟩
end
section
set_option maxRecDepth 100000
set_option maxHeartbeats 4000000
def S_rwalk:SpecI:=fun args K=>∃fs,args=[vF fs]∧FsOk fs∧K (.tup [vI (Qf fs),vI (X0 fs)])
theorem C0[Syms]:Zx Try.prog 78 S_rwalk:=by
 rintro args K ⟨fs,rfl,h,hk⟩
 exact⟨rfl,_,rfl,hk,fnI Qh Qi Q3 Q9 Qt (PB fs h.len h.kids)⟩
end
section
set_option maxRecDepth 100000
set_option maxHeartbeats 4000000
theorem SL[Syms](fs:List Fd)(hF:FsOk fs):
 fnT Q7 (Q6 78 (Xc S_rwalk) Q7) (Qv fns) (Qn tys) (Qz plt) 100 48 [vF fs] [] 0 (fun v H _=>v=vI (Qf fs)∧H=[]):=by
 refine⟨fs,rfl,hF,?_⟩
 repeat' first|refine And.intro ?_ ?_|(intro h;try first|exact dz|replace h:=cv)
 all_goals try exact cz
 exact⟨_,Q2 [2] rfl,_,rfl,rfl,rfl⟩
theorem PN[Syms]:Zx Try.prog 48 S_par:=by
 rintro args K ⟨fs,rfl,h,hk⟩
 exact⟨rfl,_,rfl,hk,fnI Qh Qi Q3 (Qk C0 Q9) Qt (SL fs h)⟩
abbrev So:CallT:=Q6 48 (Xc S_par) Q7
theorem OV[Syms]:So.ok Try.prog:=Qk PN Q9
end
section
set_option maxRecDepth 100000
set_option maxHeartbeats 4000000
def rlE(fs:List Fd)(ps:List Int)(i:Nat)(o:AVal):Env:=[(0,vF fs),(3,vI ps),(4,o),(5,.int .i64 i)]
def rlA(fs:List Fd)(ps:List Int)(i:Nat):St:=⟨rlE fs ps i .nils,[],0⟩
def rlB(fs:List Fd)(ps:List Int)(i:Nat):St:=⟨rlE fs ps i (.slice 0 0 (Zh fs ps i).length 4 none),[(0,some (.cells ((Zh fs ps i).map ZM) false))],1⟩
def clA(fs:List Fd)(ps:List Int)(i:Nat)(x:Lf)(k:Int):St:=⟨rlE fs ps i .nils++[(6,.ptr 0 0 0),(7,.int .i64 k)],[(0,some (.cells [ZM x] false))],1⟩
def clB(fs:List Fd)(ps:List Int)(i:Nat)(x:Lf)(k:Int):St:=⟨rlE fs ps i (.slice 0 0 (Zh fs ps i).length 4 none)++[(6,.ptr 1 0 0),(7,.int .i64 k)],[(0,some (.cells ((Zh fs ps i).map ZM) false)),(1,some (.cells [ZM x] false))],2⟩
theorem O4{a b:Lf}(h1:a.field=b.field)(h2:a.r=b.r)(h3:a.d=b.d)(h4:a.kind=b.kind):a=b:=by cases a;cases b;simp_all
theorem IW[Syms](fs:List Fd)(hF:FsOk fs):
 fnT Q7 So (Qv fns) (Qn tys) (Qz plt) 100 21 [vF fs] [] 0 (fun v H _=>v=vL (Qu fs)∧H=[]):=by
 have hl:=hF.len
 refine⟨fs,rfl,hF,?_⟩
 have hpl:=XS fs
 have ha:=UQ fs
 unfold Qu
 generalize Qf fs=ps at *
 refine⟨fun m s=>∃i:Nat,(i≤fs.length∧m=fs.length-i)∧((Zh fs ps i=[]∧s=rlA fs ps i)∨s=rlB fs ps i),⟨_,rlA fs ps 0,Q2 [0,3,4,5] rfl,0,⟨by omega,rfl⟩,.inl ⟨rfl,rfl⟩⟩,?_⟩
 rintro m s ⟨i,⟨hi,rfl⟩,(⟨h0,rfl⟩|rfl)⟩
 ·have hol:=Zu fs ps i
  by_cases hin:i<fs.length
  ·by_cases hk:(fs.getD i default).kind=0
   · repeat' first|refine And.intro ?_ ?_|(intro h;try first|exact dz|replace h:=cv)
     all_goals try exact cz
     exact⟨_,rlA fs ps (i+1),Q2 [0,3,4,5] rfl,⟨i+1,⟨by omega,rfl⟩,.inl ⟨by rw[Qc,if_neg (fun h=>h hk)];exact h0,rfl⟩⟩,by omega⟩
   · repeat' first|refine And.intro ?_ ?_|(intro h;try first|exact dz|replace h:=cv)
     all_goals try exact cz
     have hq:=Vy (fs:=fs) ha fs.length (Nat.le_refl _) i hin
     have hL:mkL fs ps (Qo fs ps i) i=(Qo fs ps fs.length).getD i default:=(W5 fs ps hin).symm
     have hR:upR fs ps fs.length i=(mkL fs ps (Qo fs ps i) i).r:=by rw[upR,if_pos (by omega),hL];rfl
     have hD:upD fs ps fs.length i=(mkL fs ps (Qo fs ps i) i).d:=by rw[upD,if_pos (by omega),hL];rfl
     rw[←hL]at hq
     have hf0:(mkL fs ps (Qo fs ps i) i).field=i:=rfl
     have hf3:(mkL fs ps (Qo fs ps i) i).kind=(fs.getD i default).kind:=rfl
     have hl1:(Zh fs ps (i+1)).length=(Zh fs ps i).length+1:=by rw[Qc,if_pos hk,List.length_append];rfl
     have hl2:Zh fs ps (i+1)=Zh fs ps i++[mkL fs ps (Qo fs ps i) i]:=by rw[Qc,if_pos hk]
     generalize mkL fs ps (Qo fs ps i) i=L at *
     refine⟨fun m s=>∃(k r d:Int),(m=(k+1).toNat∧ -1≤k∧k≤i∧r+upR fs ps fs.length k=L.r∧d+upD fs ps fs.length k=L.d∧0≤r∧r≤i-k∧0≤d∧d≤i-k)∧s=clA fs ps i ⟨i,r,d,(fs.getD i default).kind⟩ k,⟨_,clA fs ps i ⟨i,0,0,(fs.getD i default).kind⟩ i,Q0 [0] rfl ?_ ?_,i,0,0,⟨rfl,by omega,by omega,by omega,by omega,by omega,by omega,by omega,by omega⟩,rfl⟩,?_⟩
     ·exact⟨.refl _,.refl _,.refl _,.refl _,.refl _,.refl _,trivial⟩
     ·exact⟨⟨by decide,_,rfl,Q1 rfl (fL [_])⟩,trivial⟩
     rintro m s ⟨k,r,d,⟨rfl,hk1,hk2,hr1,hd1,hr0,hr2,hd0,hd2⟩,rfl⟩
     by_cases hk0:0≤k
     ·obtain⟨k,rfl⟩:=Int.eq_ofNat_of_zero_le hk0
      have hs1:=BS (fs:=fs) ha (k:=k) (by omega)
      have hs2:=BT (fs:=fs) ha (k:=k) (by omega)
      have hq2:=ha k (by omega)
      rw[hs1]at hr1
      rw[hs2]at hd1
      repeat' first|refine And.intro ?_ ?_|(intro h;try first|exact dz|replace h:=cv)
      all_goals try exact cz
      all_goals(try first|(show(-9223372036854775808:Int)≤r+1;omega)|(show r+1≤(9223372036854775807:Int);omega)|(show(-9223372036854775808:Int)≤d+1;omega)|(show d+1≤(9223372036854775807:Int);omega))
      ·rw[if_pos (by assumption)]at hr1
       rw[if_pos (by assumption)]at hd1
       refine⟨_,clA fs ps i ⟨i,r+1,d+1,(fs.getD i default).kind⟩ (ps.getD k 0),Q0 [0] rfl ?_ ?_,⟨_,_,_,⟨rfl,by omega,by omega,by omega,by omega,by omega,by omega,by omega,by omega⟩,rfl⟩,by omega⟩
       ·exact⟨.refl _,.refl _,.refl _,.refl _,.refl _,.refl _,trivial⟩
       ·exact⟨⟨by decide,_,rfl,Q1 rfl (fL [_])⟩,trivial⟩
      ·rw[if_neg (by assumption)]at hr1
       rw[if_pos (by assumption)]at hd1
       refine⟨_,clA fs ps i ⟨i,r,d+1,(fs.getD i default).kind⟩ (ps.getD k 0),Q0 [0] rfl ?_ ?_,⟨_,_,_,⟨rfl,by omega,by omega,by omega,by omega,by omega,by omega,by omega,by omega⟩,rfl⟩,by omega⟩
       ·exact⟨.refl _,.refl _,.refl _,.refl _,.refl _,.refl _,trivial⟩
       ·exact⟨⟨by decide,_,rfl,Q1 rfl (fL [_])⟩,trivial⟩
      ·rw[if_neg (by assumption)]at hr1
       rw[if_neg (fun hh=>hh (by assumption))]at hd1
       refine⟨_,clA fs ps i ⟨i,r,d,(fs.getD i default).kind⟩ (ps.getD k 0),Q0 [0] rfl ?_ ?_,⟨_,_,_,⟨rfl,by omega,by omega,by omega,by omega,by omega,by omega,by omega,by omega⟩,rfl⟩,by omega⟩
       ·exact⟨.refl _,.refl _,.refl _,.refl _,.refl _,.refl _,trivial⟩
       ·exact⟨⟨by decide,_,rfl,Q1 rfl (fL [_])⟩,trivial⟩
     ·have hu1:upR fs ps fs.length k=0:=by rw[upR,if_neg hk0]
      have hu2:upD fs ps fs.length k=0:=by rw[upD,if_neg hk0]
      have hxL:(⟨i,r,d,(fs.getD i default).kind⟩:Lf)=L:=O4 hf0.symm (by show r=L.r;omega) (by show d=L.d;omega) hf3.symm
      repeat' first|refine And.intro ?_ ?_|(intro h;try first|exact dz|replace h:=cv)
      all_goals try exact cz
      refine⟨_,rlB fs ps (i+1),Q0 [2] rfl ?_ ?_,⟨i+1,⟨by omega,rfl⟩,.inr rfl⟩,by omega⟩
      ·exact⟨.refl _,.refl _,Q8 (by rw[hl1];rw[h0];rfl),.refl _,trivial⟩
      ·refine⟨⟨by decide,_,rfl,Q1 ?_ (fL _)⟩,trivial⟩
       rw[hl2,h0,←hxL];rfl
  · repeat' first|refine And.intro ?_ ?_|(intro h;try first|exact dz|replace h:=cv)
    all_goals try exact cz
    obtain rfl:i=fs.length:=by omega
    exact⟨_,VL (k:=2) 4 ZM default rfl,_,rfl,by rw[h0];rfl,rfl⟩
 ·have hol:=Zu fs ps i
  by_cases hin:i<fs.length
  ·by_cases hk:(fs.getD i default).kind=0
   · repeat' first|refine And.intro ?_ ?_|(intro h;try first|exact dz|replace h:=cv)
     all_goals try exact cz
     refine⟨_,rlB fs ps (i+1),Q0 [0] rfl ?_ ?_,⟨i+1,⟨by omega,rfl⟩,.inr rfl⟩,by omega⟩
     ·exact⟨.refl _,.refl _,Q8 (by rw[Qc,if_neg (fun h=>h hk)]),.refl _,trivial⟩
     ·exact⟨⟨by decide,_,rfl,Q1 (by rw[Qc,if_neg (fun h=>h hk)]) (fL _)⟩,trivial⟩
   · repeat' first|refine And.intro ?_ ?_|(intro h;try first|exact dz|replace h:=cv)
     all_goals try exact cz
     have hq:=Vy (fs:=fs) ha fs.length (Nat.le_refl _) i hin
     have hL:mkL fs ps (Qo fs ps i) i=(Qo fs ps fs.length).getD i default:=(W5 fs ps hin).symm
     have hR:upR fs ps fs.length i=(mkL fs ps (Qo fs ps i) i).r:=by rw[upR,if_pos (by omega),hL];rfl
     have hD:upD fs ps fs.length i=(mkL fs ps (Qo fs ps i) i).d:=by rw[upD,if_pos (by omega),hL];rfl
     rw[←hL]at hq
     have hf0:(mkL fs ps (Qo fs ps i) i).field=i:=rfl
     have hf3:(mkL fs ps (Qo fs ps i) i).kind=(fs.getD i default).kind:=rfl
     have hl1:(Zh fs ps (i+1)).length=(Zh fs ps i).length+1:=by rw[Qc,if_pos hk,List.length_append];rfl
     have hl2:Zh fs ps (i+1)=Zh fs ps i++[mkL fs ps (Qo fs ps i) i]:=by rw[Qc,if_pos hk]
     generalize mkL fs ps (Qo fs ps i) i=L at *
     refine⟨fun m s=>∃(k r d:Int),(m=(k+1).toNat∧ -1≤k∧k≤i∧r+upR fs ps fs.length k=L.r∧d+upD fs ps fs.length k=L.d∧0≤r∧r≤i-k∧0≤d∧d≤i-k)∧s=clB fs ps i ⟨i,r,d,(fs.getD i default).kind⟩ k,⟨_,clB fs ps i ⟨i,0,0,(fs.getD i default).kind⟩ i,Q0 [0,1] rfl ?_ ?_,i,0,0,⟨rfl,by omega,by omega,by omega,by omega,by omega,by omega,by omega,by omega⟩,rfl⟩,?_⟩
     ·exact⟨.refl _,.refl _,.refl _,.refl _,.refl _,.refl _,trivial⟩
     ·exact⟨⟨by decide,_,rfl,Qb (fL _)⟩,⟨by decide,_,rfl,Q1 rfl (fL [_])⟩,trivial⟩
     rintro m s ⟨k,r,d,⟨rfl,hk1,hk2,hr1,hd1,hr0,hr2,hd0,hd2⟩,rfl⟩
     by_cases hk0:0≤k
     ·obtain⟨k,rfl⟩:=Int.eq_ofNat_of_zero_le hk0
      have hs1:=BS (fs:=fs) ha (k:=k) (by omega)
      have hs2:=BT (fs:=fs) ha (k:=k) (by omega)
      have hq2:=ha k (by omega)
      rw[hs1]at hr1
      rw[hs2]at hd1
      repeat' first|refine And.intro ?_ ?_|(intro h;try first|exact dz|replace h:=cv)
      all_goals try exact cz
      all_goals(try first|(show(-9223372036854775808:Int)≤r+1;omega)|(show r+1≤(9223372036854775807:Int);omega)|(show(-9223372036854775808:Int)≤d+1;omega)|(show d+1≤(9223372036854775807:Int);omega))
      ·rw[if_pos (by assumption)]at hr1
       rw[if_pos (by assumption)]at hd1
       refine⟨_,clB fs ps i ⟨i,r+1,d+1,(fs.getD i default).kind⟩ (ps.getD k 0),Q0 [0,1] rfl ?_ ?_,⟨_,_,_,⟨rfl,by omega,by omega,by omega,by omega,by omega,by omega,by omega,by omega⟩,rfl⟩,by omega⟩
       ·exact⟨.refl _,.refl _,.refl _,.refl _,.refl _,.refl _,trivial⟩
       ·exact⟨⟨by decide,_,rfl,Qb (fL _)⟩,⟨by decide,_,rfl,Q1 rfl (fL [_])⟩,trivial⟩
      ·rw[if_neg (by assumption)]at hr1
       rw[if_pos (by assumption)]at hd1
       refine⟨_,clB fs ps i ⟨i,r,d+1,(fs.getD i default).kind⟩ (ps.getD k 0),Q0 [0,1] rfl ?_ ?_,⟨_,_,_,⟨rfl,by omega,by omega,by omega,by omega,by omega,by omega,by omega,by omega⟩,rfl⟩,by omega⟩
       ·exact⟨.refl _,.refl _,.refl _,.refl _,.refl _,.refl _,trivial⟩
       ·exact⟨⟨by decide,_,rfl,Qb (fL _)⟩,⟨by decide,_,rfl,Q1 rfl (fL [_])⟩,trivial⟩
      ·rw[if_neg (by assumption)]at hr1
       rw[if_neg (fun hh=>hh (by assumption))]at hd1
       refine⟨_,clB fs ps i ⟨i,r,d,(fs.getD i default).kind⟩ (ps.getD k 0),Q0 [0,1] rfl ?_ ?_,⟨_,_,_,⟨rfl,by omega,by omega,by omega,by omega,by omega,by omega,by omega,by omega⟩,rfl⟩,by omega⟩
       ·exact⟨.refl _,.refl _,.refl _,.refl _,.refl _,.refl _,trivial⟩
       ·exact⟨⟨by decide,_,rfl,Qb (fL _)⟩,⟨by decide,_,rfl,Q1 rfl (fL [_])⟩,trivial⟩
     ·have hu1:upR fs ps fs.length k=0:=by rw[upR,if_neg hk0]
      have hu2:upD fs ps fs.length k=0:=by rw[upD,if_neg hk0]
      have hxL:(⟨i,r,d,(fs.getD i default).kind⟩:Lf)=L:=O4 hf0.symm (by show r=L.r;omega) (by show d=L.d;omega) hf3.symm
      repeat' first|refine And.intro ?_ ?_|(intro h;try first|exact dz|replace h:=cv)
      all_goals try exact cz
      refine⟨_,rlB fs ps (i+1),Q0 [3] rfl ?_ ?_,⟨i+1,⟨by omega,rfl⟩,.inr rfl⟩,by omega⟩
      ·exact⟨.refl _,.refl _,Q8 (by rw[hl1]),.refl _,trivial⟩
      ·refine⟨⟨by decide,_,rfl,Q1 ?_ (fL _)⟩,trivial⟩
       rw[hl2,List.map_append,←hxL];show List.take _ (List.drop 0 ((Zh fs ps i).map ZM))++[_]=_;rw[List.drop_zero,List.take_of_length_le (by rw[List.length_map];exact Nat.le_refl _)];rfl
  · repeat' first|refine And.intro ?_ ?_|(intro h;try first|exact dz|replace h:=cv)
    all_goals try exact cz
    obtain rfl:i=fs.length:=by omega
    exact⟨_,Yz (enc:=ZM) (k:=2) default (l:=Zh fs ps fs.length) rfl rfl (fL _) (List.take_of_length_le (by simp)) (by simp),_,rfl,rfl,rfl⟩
theorem K4[Syms]:Zx Try.prog 21 S_leaves:=by
 rintro args K ⟨fs,rfl,h,hk⟩
 exact⟨rfl,_,rfl,hk,fnI Qh Qi Q3 OV Qt (IW fs h)⟩
end
end Go.Proofs.Ytajieadpaeggcaa
