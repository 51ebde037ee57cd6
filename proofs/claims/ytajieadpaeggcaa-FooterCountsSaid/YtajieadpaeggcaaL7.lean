/-
  Two values compared. The document's. What may be of a chunk. The document's. Is a file's description whole? The document's. A reader over bytes:it fails,takes,reads numbers. The document's. A reader's numbers. The document's. A file's description,read:numbers,truths,values. The document's. A file's description,read:values,chunks. The document's. A file's description,read:pages,what is known,chunks. The document's,plain. What a description read with nothing wrong is like. Plain. A schema's bytes and a file's description,read as the document reads them. Plain.
-/
import Derived.Test.YtajieadpaeggcaaL4
import Derived.Test.YtajieadpaeggcaaL5
import Derived.Test.YtajieadpaeggcaaL6
import Derived.Test.YtajieadpaeggcaaL2
import Derived.Test.YtajieadpaeggcaaL3
set_option linter.unusedVariables false
set_option linter.unusedSimpArgs false
namespace Go.Proofs.Ytajieadpaeggcaa
open Go Go.Av
section
set_option maxRecDepth 100000
set_option maxHeartbeats 4000000
theorem LJ(x:UInt8)(a b:List UInt8):U4 (x::a) (x::b)=U4 a b:=by
 have h1:Op.bytesLess (x::a) (x::b)=Op.bytesLess a b:=by
  rw[Op.bytesLess]
  simp
 have h2:eqb (x::a) (x::b)=eqb a b:=by rw[eqb,Nat.beq_refl,Bool.true_and]
 unfold U4
 rw[h1,h2]
theorem RB{x y:UInt8}(a b:List UInt8)(h:x≠y):U4 (x::a) (y::b)=U3 (x.toNat:Nat) (y.toNat:Nat):=by
 have hn:x.toNat≠y.toNat:=fun k=>h (UInt8.toNat_inj.1 k)
 have h2:eqb (x::a) (y::b)=false:=by
  rw[eqb]
  cases hb:Nat.beq x.toNat y.toNat
  ·rfl
  ·exact absurd (Nat.eq_of_beq_eq_true hb) hn
 have h1:Op.bytesLess (x::a) (y::b)=decide (x.toNat<y.toNat):=by
  rw[Op.bytesLess]
  have:(x == y)=false:=by simp[h]
  rw[this,Bool.false_and,Bool.or_false]
  exact decide_eq_decide.2 UInt8.lt_iff_toNat_lt
 unfold U4 U3
 rw[h1,h2]
 by_cases hl:x.toNat<y.toNat
 ·rw[if_pos (decide_eq_true hl),if_pos (by omega)]
 ·rw[if_neg (by simp[hl]),if_neg (by simp[hl]),if_neg (by omega),if_pos (by omega)]
theorem OJ(a b:List UInt8)(h:a=[]∨b=[]):U4 a b=U3 (a.length:Nat) (b.length:Nat):=by
 cases a with
 |nil=>
  cases b with
  |nil=>rfl
  |cons y b=>
   unfold U4 U3
   rw[show Op.bytesLess [] (y::b)=true from rfl,if_pos rfl,if_pos (by simp<;>omega)]
 |cons x a=>
  cases b with
  |nil=>
   unfold U4 U3
   rw[show Op.bytesLess (x::a) []=false from by simp[Op.bytesLess],show eqb (x::a) []=false from rfl,if_neg (by simp),if_neg (by simp),if_neg (by simp<;>omega),if_pos (by simp<;>omega)]
  |cons y b=>rcases h with h|h<;>cases h
theorem OI(a b c:Int):U3 (a+c) (b+c)=U3 a b:=by
 unfold U3
 by_cases h1:a<b
 ·rw[if_pos h1,if_pos (by omega)]
 ·rw[if_neg h1,if_neg (by omega)]
  by_cases h2:b<a
  ·rw[if_pos h2,if_pos (by omega)]
  ·rw[if_neg h2,if_neg (by omega)]
theorem LI{a b:List UInt8}{i:Nat}(h:i<a.length)(k:i<b.length):U4 (a.drop i) (b.drop i)=if a.getD i 0=b.getD i 0 then U4 (a.drop (i+1)) (b.drop (i+1))else U3 ((a.getD i 0).toNat:Nat) ((b.getD i 0).toNat:Nat):=by
 have e1:a.drop i=a.getD i 0::a.drop (i+1):=by rw[List.drop_eq_getElem_cons h];simp[h]
 have e2:b.drop i=b.getD i 0::b.drop (i+1):=by rw[List.drop_eq_getElem_cons k];simp[k]
 rw[e1,e2]
 by_cases hc:a.getD i 0=b.getD i 0
 ·rw[if_pos hc,hc,LJ]
 ·rw[if_neg hc,RB _ _ hc]
theorem DE{a b:List UInt8}{i:Nat}(hi:i≤a.length)(hk:i≤b.length)(h:¬(i<a.length∧i<b.length)):U4 (a.drop i) (b.drop i)=U3 (a.length:Nat) (b.length:Nat):=by
 rw[OJ _ _ (by
  by_cases h1:i<a.length
  ·right;exact List.drop_eq_nil_of_le (by omega)
  ·left;exact List.drop_eq_nil_of_le (by omega)),List.length_drop,List.length_drop]
 have:=OI ((a.length-i:Nat):Int) ((b.length-i:Nat):Int) (i:Nat)
 rw[←this]
 congr 1<;>omega
theorem SM[Syms](a b:Int):fnT Q7 Q7 (Qv fns) (Qn tys) (Qz plt) 100 110 [.int .i64 a,.int .i64 b] [] 0 (fun v H _=>v= .int .i64 (U3 a b)∧H=[]):=by
 unfold U3
 by_cases h1:a<b
 ·rw[if_pos h1]
  repeat' first|refine And.intro ?_ ?_|(intro h;try first|exact dz|replace h:=cv)
  all_goals try exact cz
  all_goals exact⟨_,Q2 [4] rfl,_,rfl,rfl,rfl⟩
 ·rw[if_neg h1]
  by_cases h2:b<a
  ·rw[if_pos h2]
   repeat' first|refine And.intro ?_ ?_|(intro h;try first|exact dz|replace h:=cv)
   all_goals try exact cz
   all_goals exact⟨_,Q2 [4] rfl,_,rfl,rfl,rfl⟩
  ·rw[if_neg h2]
   repeat' first|refine And.intro ?_ ?_|(intro h;try first|exact dz|replace h:=cv)
   all_goals try exact cz
   all_goals exact⟨_,Q2 [4] rfl,_,rfl,rfl,rfl⟩
def S_rord:SpecI:=fun args K=>∃a b,args=[.int .i64 a,.int .i64 b]∧K (.int .i64 (U3 a b))
theorem HL[Syms]:Zx Try.prog 110 S_rord:=by
 rintro args K ⟨a,b,rfl,hk⟩
 exact⟨rfl,_,rfl,hk,fnI Qh Qi Q3 Q9 Qt (SM a b)⟩
abbrev RS:CallT:=Q6 110 (Xc S_rord) Q7
theorem RQ[Syms]:RS.ok Try.prog:=Qk HL Q9
theorem RT[Syms]:RS.det Try.prog:=ZW HL Q3
noncomputable def plRc:Nat→Nat→Pl:=XG [(91,0)] (Qz plt)
def rcC(k:Int)(a b:Vl):St:=⟨[(4,.vp (ZU a) 0),(5,.vp (ZU b) 0),(0,.int .i64 k)],[],2⟩
def rcI(k:Int)(a b:Vl)(i:Nat):St:=⟨[(4,.vp (ZU a) 0),(5,.vp (ZU b) 0),(0,.int .i64 k),(7,.int .i64 i)],[],0⟩
theorem SR[Syms](k:Int)(a b:Vl)(ha:a.s.length≤1000000)(hb:b.s.length≤1000000):fnT RS RS (Qv fns) (Qn tys) plRc 100 91 [.int .i64 k,.agg (ZU a),.agg (ZU b)] [] 0 (fun v H _=>v= .int .i64 (UN k a b)∧H=[]):=by
 repeat' first|refine And.intro ?_ ?_|(intro h;try first|exact dzq|replace h:=cvq)
 all_goals try exact cz
 refine⟨rcC k a b,Sz (ra':=ZU a) (rb':=ZU b) (n0:=0) (n1:=1) (by decide) rfl rfl (by decide) rfl rfl ⟨.same _,.same _,trivial⟩ ⟨.same _,.same _,trivial⟩ (fV a) (fV b) ⟨.same _,trivial⟩ ⟨.same _,trivial⟩,?_⟩
 unfold UN
 by_cases hk:k=4
 ·rw[if_pos hk]
  repeat' first|refine And.intro ?_ ?_|(intro h;try first|exact dzq|replace h:=cvq)
  all_goals try exact cz
  refine⟨fun m s=>∃i:Nat,(i≤a.s.length∧i≤b.s.length∧m=a.s.length-i∧U4 a.s b.s=U4 (a.s.drop i) (b.s.drop i))∧s=rcI k a b i,⟨_,rcI k a b 0,Q0 [] (by exact rfl) ⟨.refl _,.refl _,.refl _,.refl _,trivial⟩ trivial,0,⟨by omega,by omega,rfl,rfl⟩,rfl⟩,?_⟩
  rintro m s ⟨i,⟨hi,hj,rfl,hc⟩,rfl⟩
  by_cases h1:i<a.s.length
  ·by_cases h2:i<b.s.length
   ·have hd:=LI h1 h2
    have ba:((i:Nat):Int).toNat<a.s.length:=by omega
    have bb:((i:Nat):Int).toNat<b.s.length:=by omega
    by_cases he:a.s.getD i 0=b.s.getD i 0
    ·rw[if_pos he]at hd
     have hen:((a.s.getD i 0).toNat:Int)=(b.s.getD i 0).toNat:=by rw[he]
     repeat' first|refine And.intro ?_ ?_|(intro h;try first|exact dzq|replace h:=cvq)
     all_goals try exact czq
     all_goals(try((with_reducible show(_:Nat)<_);first|exact ba|exact bb))
     all_goals exact⟨_,rcI k a b (i+1),Q0 [] (by exact rfl) ⟨.refl _,.refl _,.refl _,Qp (by omega),trivial⟩ trivial,⟨i+1,⟨by omega,by omega,rfl,by rw[hc,hd]⟩,rfl⟩,by omega⟩
    ·rw[if_neg he]at hd
     have hen:¬((a.s.getD i 0).toNat:Int)=(b.s.getD i 0).toNat:=fun h=>he (UInt8.toNat_inj.1 (by omega))
     have w1:wr .i64 (((a.s.getD i 0).toNat:Nat):Int)=((a.s.getD i 0).toNat:Nat):=IM (by have:=(a.s.getD i 0).toNat_lt;omega)
     have w2:wr .i64 (((b.s.getD i 0).toNat:Nat):Int)=((b.s.getD i 0).toNat:Nat):=IM (by have:=(b.s.getD i 0).toNat_lt;omega)
     repeat' first|refine And.intro ?_ ?_|(intro h;try first|exact dzq|replace h:=cvq)
     all_goals try exact czq
     all_goals(try((with_reducible show(_:Nat)<_);first|exact ba|exact bb))
     all_goals refine⟨_,_,rfl,?_⟩
     repeat' first|refine And.intro ?_ ?_|(intro h;try first|exact dzq|replace h:=cvq)
     all_goals try exact czq
     all_goals exact⟨_,Q2 [6] rfl,_,rfl,by rw[hc,hd,←w1,←w2];rfl,rfl⟩
   ·rw[hc,DE hi hj (fun h=>h2 h.2)]
    repeat' first|refine And.intro ?_ ?_|(intro h;try first|exact dzq|replace h:=cvq)
    all_goals try exact czq
    all_goals exact⟨_,_,rfl,_,Q2 [6] rfl,_,rfl,rfl,rfl⟩
  ·rw[hc,DE hi hj (fun h=>h1 h.1)]
   repeat' first|refine And.intro ?_ ?_|(intro h;try first|exact dzq|replace h:=cvq)
   all_goals try exact czq
   all_goals exact⟨_,_,rfl,_,Q2 [6] rfl,_,rfl,rfl,rfl⟩
 ·rw[if_neg hk]
  repeat' first|refine And.intro ?_ ?_|(intro h;try first|exact dzq|replace h:=cvq)
  all_goals try exact czq
  all_goals exact⟨_,_,rfl,_,Q2 [6] rfl,_,rfl,rfl,rfl⟩
def S_rcmp:SpecI:=fun args K=>∃k a b,args=[.int .i64 k,.agg (ZU a),.agg (ZU b)]∧(a.s.length≤1000000∧b.s.length≤1000000)∧K (.int .i64 (UN k a b))
theorem HS[Syms]:Zx Try.prog 91 S_rcmp:=by
 rintro args K ⟨k,a,b,rfl,⟨h1,h2⟩,hk⟩
 exact⟨rfl,_,rfl,hk,fnI Qh Qi RT RQ Qt (SR k a b h1 h2)⟩
end
section
set_option maxRecDepth 100000
set_option maxHeartbeats 4000000
noncomputable def plRf:Nat→Nat→Pl:=XG [(67,0)] (Qz plt)
abbrev cRf:CallT:=Q6 91 (Xc S_rcmp) Q7
theorem TD[Syms]:cRf.ok Try.prog:=Qk HS Q9
theorem RP[Syms]:cRf.det Try.prog:=ZW HS Q3
def rf0(k n:Int)(c:Ck):St:=⟨[(3,.vp (encC c) 0),(1,.int .i64 n),(2,.int .i64 k)],[],1⟩
def rfS(k n:Int)(c:Ck)(i:Nat)(rs cs:Int)(w:Bool):St:=⟨[(3,.vp (encC c) 0),(1,.int .i64 n),(2,.int .i64 k),(7,.int .i64 rs),(8,.int .i64 cs),(9,.bool w),(10,.int .i64 i)],[],0⟩
theorem Td[Syms](k n:Int)(c:Ck)(hp:∀p∈c.pages,Kt p)(hl:c.pages.length≤200)(hv1:c.st.mn.s.length≤1000000)(hv2:c.st.mx.s.length≤1000000):
 fnT cRf cRf (Qv fns) (Qn tys) plRf 100 67 [.agg (encC c),.int .i64 n,.int .i64 k] [] 0 (fun v H _=>v= .bool (Zg k n c)∧H=[]):=by
 repeat' first|refine And.intro ?_ ?_|(intro h;try first|exact dzq|replace h:=cvq)
 all_goals try exact cz
 refine⟨rf0 k n c,QV (n:=0) (rows:=[encC c]) rfl (Xe (eC c) QK) ⟨.pt 0 0 (encC c) (encC c) rfl ⟨.same _,.same _,.same _,.same _,.same _,.same _,.same _,.same _,.same _,.same _,.same _,trivial⟩,.same _,.same _,trivial⟩ trivial,?_⟩
 repeat' first|refine And.intro ?_ ?_|(intro h;try first|exact dzq|replace h:=cvq)
 all_goals try exact cz
 refine⟨fun m s=>∃(i:Nat) (rs cs:Int) (w:Bool),(i≤c.pages.length∧m=c.pages.length-i∧rs=X4 (·.rows) (c.pages.take i)∧cs=X4 (·.cells) (c.pages.take i)∧w=(c.pages.take i).all (fun p=>decide (p.enc=2))∧(c.pages.take i).all (fun p=>decide (p.rows≠0))=true)∧s=rfS k n c i rs cs (!w),⟨_,rfS k n c 0 0 0 false,Q0 [] (by exact rfl) ⟨.refl _,.refl _,.refl _,.refl _,.refl _,.refl _,.refl _,trivial⟩ trivial,0,0,0,true,⟨by omega,rfl,rfl,rfl,rfl,rfl⟩,rfl⟩,?_⟩
 rintro m s ⟨i,rs,cs,w,⟨hi,rfl,hrs,hcs,hw,ha⟩,rfl⟩
 have hin:∀j,j<c.pages.length→Kt (c.pages.getD j default):=fun j hj=>by
  rw[List.getD_eq_getElem?_getD,List.getElem?_eq_getElem hj];exact hp _ (List.getElem_mem hj)
 have hb1:=KG (·.rows) (c.pages.take i) fun p hq=>(hp p (List.mem_of_mem_take hq)).1
 have hb2:=KG (·.cells) (c.pages.take i) fun p hq=>(hp p (List.mem_of_mem_take hq)).2
 have htl:(c.pages.take i).length≤200:=by rw[List.length_take];omega
 rw[←hrs]at hb1
 rw[←hcs]at hb2
 have hx1:(encC c).getD (0+3) .any= .vs 7 (c.pages.map encP):=rfl
 have hx2:(c.pages.map encP).length=c.pages.length:=List.length_map ..
 by_cases h1:i<c.pages.length
 ·have hpi:=hin i h1
  have e1:=UA (·.rows) h1
  have e2:=UA (·.cells) h1
  have e3:=Jr (fun p=>decide (p.enc=2)) h1
  have e4:=Jr (fun p=>decide (p.rows≠0)) h1
  rw[←hrs]at e1
  rw[←hcs]at e2
  rw[←hw]at e3
  rw[ha]at e4
  obtain⟨hpr,hpc⟩:=hpi
  have hra:(c.pages.map encP).getD ((i:Nat):Int).toNat []=encP (c.pages.getD i default):=by rw[Int.toNat_natCast];exact Wf encP default h1
  have hrb:(asR ((encC c).getD (0+3) .any)).getD ((i:Nat):Int).toNat []=encP (c.pages.getD i default):=hra
  have hx3:(c.pages.map encP).getD i []=encP (c.pages.getD i default):=Wf encP default h1
  have hx4:(encP (c.pages.getD i default)).getD 0 .any= .int .i64 (c.pages.getD i default).rows∧(encP (c.pages.getD i default)).getD (0+2) .any= .int .i64 (c.pages.getD i default).enc:=⟨rfl,rfl⟩
  by_cases h2:(c.pages.getD i default).rows=0
  · repeat' first|refine And.intro ?_ ?_|(intro h;try first|exact ZD|replace h:=ZE)
    all_goals try exact czq
    all_goals(try((with_reducible first|show isC _ _ _=true|show(_:Int)≤_);rw[hrb];first|rfl|(show(_:Int)≤rs+(c.pages.getD i default).rows;omega)|(show rs+(c.pages.getD i default).rows≤_;omega)|(show(_:Int)≤cs+(c.pages.getD i default).cells;omega)|(show cs+(c.pages.getD i default).cells≤_;omega)))
    have hf:Zg k n c=false:=by
     have:c.pages.all (fun p=>decide (p.rows≠0))=false:=by
      rw[List.all_eq_false]
      exact⟨_,List.getElem_mem h1,by rw[List.getD_eq_getElem?_getD,List.getElem?_eq_getElem h1]at h2;simpa using h2⟩
     unfold Zg
     rw[this];rfl
    exact⟨_,Q2 [6] rfl,_,rfl,by rw[hf];rfl,rfl⟩
  ·have hstep:∀(w':Bool) (rs' cs':Int),rs'=rs+(c.pages.getD i default).rows→cs'=cs+(c.pages.getD i default).cells→w'=(w&&decide ((c.pages.getD i default).enc=2))→ ∃(j:Nat) (rs1 cs1:Int) (w1:Bool),(j≤c.pages.length∧c.pages.length-(i+1)=c.pages.length-j∧rs1=X4 (·.rows) (c.pages.take j)∧cs1=X4 (·.cells) (c.pages.take j)∧w1=(c.pages.take j).all (fun p=>decide (p.enc=2))∧(c.pages.take j).all (fun p=>decide (p.rows≠0))=true)∧rfS k n c (i+1) rs' cs' (!w')=rfS k n c j rs1 cs1 (!w1):=by
    rintro w' rs' cs' rfl rfl rfl
    exact⟨i+1,_,_,_,⟨by omega,rfl,e1.symm,e2.symm,e3.symm,by rw[e4,decide_eq_true h2];rfl⟩,rfl⟩
   cases w
   · repeat' first|refine And.intro ?_ ?_|(intro h;try first|exact ZD|replace h:=ZE)
     all_goals try exact czq
     all_goals(try((with_reducible first|show isC _ _ _=true|show(_:Int)≤_);rw[hrb];first|rfl|(show(_:Int)≤rs+(c.pages.getD i default).rows;omega)|(show rs+(c.pages.getD i default).rows≤_;omega)|(show(_:Int)≤cs+(c.pages.getD i default).cells;omega)|(show cs+(c.pages.getD i default).cells≤_;omega)))
     exact⟨_,rfS k n c (i+1) (rs+(c.pages.getD i default).rows) (cs+(c.pages.getD i default).cells) (!false),Q0 [] (by exact rfl) ⟨.refl _,.refl _,.refl _,Qp (by rw[hrb];rfl),Qp (by rw[hrb];rfl),ZV rfl,Qp (by omega),trivial⟩ trivial,hstep _ _ _ rfl rfl rfl,by omega⟩
   · repeat' first|refine And.intro ?_ ?_|(intro h;try first|exact ZD|replace h:=ZE)
     all_goals try exact czq
     all_goals(try((with_reducible first|show isC _ _ _=true|show(_:Int)≤_);rw[hrb];first|rfl|(show(_:Int)≤rs+(c.pages.getD i default).rows;omega)|(show rs+(c.pages.getD i default).rows≤_;omega)|(show(_:Int)≤cs+(c.pages.getD i default).cells;omega)|(show cs+(c.pages.getD i default).cells≤_;omega)))
     exact⟨_,rfS k n c (i+1) (rs+(c.pages.getD i default).rows) (cs+(c.pages.getD i default).cells) (!(true&&decide ((c.pages.getD i default).enc=2))),Q0 [] (by exact rfl) ⟨.refl _,.refl _,.refl _,Qp (by rw[hrb];rfl),Qp (by rw[hrb];rfl),ZV (by rw[hrb];show decide (¬(c.pages.getD i default).enc=2)=!(true&&decide ((c.pages.getD i default).enc=2));simp),Qp (by omega),trivial⟩ trivial,hstep _ _ _ rfl rfl rfl,by omega⟩
 ·obtain rfl:i=c.pages.length:=by omega
  rw[List.take_length]at hrs hcs hw ha
  have hso:Zg k n c=(decide (rs=n)&&decide (c.words≤256)&&(w||decide (c.words=0∧c.size=0))&&(!c.known||decide (c.st.nulls≤cs)&&decide (0≤UN k c.st.mx c.st.mn))):=by
   unfold Zg
   rw[ha,←hrs,←hcs,←hw];rfl
  rw[hso]
  clear hso hrs hcs hw ha hin htl
  have hx3:=hx2
  have hx4:=hx2
  have hcc:decide (UN k c.st.mx c.st.mn<0)=!decide (0≤UN k c.st.mx c.st.mn):=by
   by_cases h:UN k c.st.mx c.st.mn<0
   ·rw[decide_eq_true h,decide_eq_false (by omega)];rfl
   ·rw[decide_eq_false h,decide_eq_true (by omega)];rfl
  by_cases h2:rs=n
  ·by_cases h3:c.words≤256
   ·cases w
    ·by_cases h4:c.words=0
     ·by_cases h5:c.size=0
      ·skip
       cases hk:c.known
       ·have hx3:=hk
        have hx4:=hk
        repeat' first|refine And.intro ?_ ?_|(intro h;try first|exact ZD|replace h:=ZE)
        all_goals try exact cz
        all_goals exact⟨_,Q2 [6] rfl,_,rfl,congrArg AVal.bool (by simp[*]<;>exact hcc),rfl⟩
       ·have hx3:=hk
        have hx4:=hk
        by_cases h6:c.st.nulls≤cs
        · repeat' first|refine And.intro ?_ ?_|(intro h;try first|exact ZD|replace h:=ZE)
          all_goals try exact cz
          all_goals refine⟨k,c.st.mx,c.st.mn,rfl,⟨hv2,hv1⟩,?_⟩
          repeat' first|refine And.intro ?_ ?_|(intro h;try first|exact ZD|replace h:=ZE)
          all_goals try exact cz
          all_goals exact⟨_,Q2 [6] rfl,_,rfl,congrArg AVal.bool (by simp[*]<;>exact hcc),rfl⟩
        · repeat' first|refine And.intro ?_ ?_|(intro h;try first|exact ZD|replace h:=ZE)
          all_goals try exact cz
          all_goals exact⟨_,Q2 [6] rfl,_,rfl,congrArg AVal.bool (by simp[*]<;>exact hcc),rfl⟩
      ·skip
       repeat' first|refine And.intro ?_ ?_|(intro h;try first|exact ZD|replace h:=ZE)
       all_goals try exact cz
       all_goals exact⟨_,Q2 [6] rfl,_,rfl,congrArg AVal.bool (by simp[*]<;>exact hcc),rfl⟩
     ·skip
      repeat' first|refine And.intro ?_ ?_|(intro h;try first|exact ZD|replace h:=ZE)
      all_goals try exact cz
      all_goals exact⟨_,Q2 [6] rfl,_,rfl,congrArg AVal.bool (by simp[*]<;>exact hcc),rfl⟩
    ·skip
     cases hk:c.known
     ·have hx3:=hk
      have hx4:=hk
      repeat' first|refine And.intro ?_ ?_|(intro h;try first|exact ZD|replace h:=ZE)
      all_goals try exact cz
      all_goals exact⟨_,Q2 [6] rfl,_,rfl,congrArg AVal.bool (by simp[*]<;>exact hcc),rfl⟩
     ·have hx3:=hk
      have hx4:=hk
      by_cases h6:c.st.nulls≤cs
      · repeat' first|refine And.intro ?_ ?_|(intro h;try first|exact ZD|replace h:=ZE)
        all_goals try exact cz
        all_goals refine⟨k,c.st.mx,c.st.mn,rfl,⟨hv2,hv1⟩,?_⟩
        repeat' first|refine And.intro ?_ ?_|(intro h;try first|exact ZD|replace h:=ZE)
        all_goals try exact cz
        all_goals exact⟨_,Q2 [6] rfl,_,rfl,congrArg AVal.bool (by simp[*]<;>exact hcc),rfl⟩
      · repeat' first|refine And.intro ?_ ?_|(intro h;try first|exact ZD|replace h:=ZE)
        all_goals try exact cz
        all_goals exact⟨_,Q2 [6] rfl,_,rfl,congrArg AVal.bool (by simp[*]<;>exact hcc),rfl⟩
   ·skip
    repeat' first|refine And.intro ?_ ?_|(intro h;try first|exact ZD|replace h:=ZE)
    all_goals try exact cz
    all_goals exact⟨_,Q2 [6] rfl,_,rfl,congrArg AVal.bool (by simp[*]<;>exact hcc),rfl⟩
  ·skip
   repeat' first|refine And.intro ?_ ?_|(intro h;try first|exact ZD|replace h:=ZE)
   all_goals try exact cz
   all_goals exact⟨_,Q2 [6] rfl,_,rfl,congrArg AVal.bool (by simp[*]<;>exact hcc),rfl⟩
def S_fine:SpecI:=fun args K=>∃k n c,args=[.agg (encC c),.int .i64 n,.int .i64 k]∧((∀p∈c.pages,Kt p)∧c.pages.length≤200∧c.st.mn.s.length≤1000000∧c.st.mx.s.length≤1000000)∧K (.bool (Zg k n c))
theorem Q0q[Syms]:Zx Try.prog 67 S_fine:=by
 rintro args K ⟨k,n,c,rfl,⟨h1,h2,h3,h4⟩,hk⟩
 exact⟨rfl,_,rfl,hk,fnI Qh Qi RP TD Qt (Td k n c h1 h2 h3 h4)⟩
end
section
set_option maxRecDepth 100000
set_option maxHeartbeats 4000000
structure RWhOk(m:Mt):Prop where
 ok:MtOk m
 len:∀g∈m.groups,g.chunks.length=(Qu m.s).length
 strs:∀g∈m.groups,∀c∈g.chunks,c.st.mn.s.length≤1000000∧c.st.mx.s.length≤1000000
noncomputable def plRw:Nat→Nat→Pl:=XG [(36,0),(36,5)] (Qz plt)
abbrev dRw:CallT:=Q6 67 (Xc S_fine) Q7
theorem Tk[Syms]:dRw.det Try.prog:=ZW Q0q Q3
def wq0(m:Mt)(ls:List Lf):St:=⟨[(2,.vp (QT m) 0),(1,vL ls)],[],1⟩
def wqS(m:Mt)(ls:List Lf)(i:Nat)(sm:Int):St:=⟨[(2,.vp (QT m) 0),(1,vL ls),(5,.int .i64 sm),(6,.int .i64 i)],[],0⟩
def wqB(m:Mt)(ls:List Lf)(i:Nat)(sm:Int)(g:Rw):St:=⟨[(2,.vp (QT m) 0),(1,vL ls),(5,.int .i64 sm),(6,.int .i64 i),(7,.vp (encR g) 0)],[],2⟩
def wqI(m:Mt)(ls:List Lf)(i:Nat)(sm:Int)(g:Rw)(j:Nat):St:=⟨[(2,.vp (QT m) 0),(1,vL ls),(5,.int .i64 sm),(6,.int .i64 i),(7,.vp (encR g) 0),(8,.int .i64 j)],[],0⟩
theorem Nk[Syms](m:Mt)(h:RWhOk m):
 fnT dRw dRw (Qv fns) (Qn tys) plRw 100 36 [.agg (QT m),vL (Qu m.s)] [] 0 (fun v H _=>v= .bool (Zz m)∧H=[]):=by
 obtain⟨⟨hfs,hgl,hgr⟩,hlen,hstr⟩:=h
 have hll:(Qu m.s).length≤1000:=by have h1:(Qu m.s).length≤m.s.length:=Zu _ _ _;have h2:=hfs.len;omega
 have hwh:Zz m=((m.groups.all fun g=>decide (g.n≠0)&&Zn g.n (Q5 (Qu m.s)) g.chunks)&&decide (Zd m.groups=m.n∧Zd m.groups≤200)):=rfl
 generalize Qu m.s=ls at *
 repeat' first|refine And.intro ?_ ?_|(intro h;try first|exact dzq|replace h:=cvq)
 all_goals try exact cz
 refine⟨wq0 m ls,QV (n:=0) (rows:=[QT m]) rfl (Xe (eM m) QK) ⟨.pt 0 0 (QT m) (QT m) rfl ⟨.same _,.same _,.same _,trivial⟩,.same _,trivial⟩ trivial,?_⟩
 repeat' first|refine And.intro ?_ ?_|(intro h;try first|exact dzq|replace h:=cvq)
 all_goals try exact cz
 refine⟨fun q s=>∃(i:Nat) (sm:Int),(i≤m.groups.length∧q=m.groups.length-i∧sm=Zd (m.groups.take i)∧(m.groups.take i).all (fun g=>decide (g.n≠0)&&Zn g.n (Q5 ls) g.chunks)=true)∧s=wqS m ls i sm,⟨_,wqS m ls 0 0,Q0 [] (by exact rfl) ⟨.refl _,.refl _,.refl _,.refl _,trivial⟩ trivial,0,0,⟨by omega,rfl,rfl,rfl⟩,rfl⟩,?_⟩
 rintro q s ⟨i,sm,⟨hi,rfl,hsm,hal⟩,rfl⟩
 have hb:=B1 (m.groups.take i) fun p hq=>(hgr p (List.mem_of_mem_take hq)).n
 have htl:(m.groups.take i).length≤200:=by rw[List.length_take];omega
 rw[←hsm]at hb
 by_cases h1:i<m.groups.length
 ·have hgi:RwOk ls.length (m.groups.getD i default)∧(m.groups.getD i default).chunks.length=ls.length∧ ∀c∈(m.groups.getD i default).chunks,c.st.mn.s.length≤1000000∧c.st.mx.s.length≤1000000:=by
   rw[List.getD_eq_getElem?_getD,List.getElem?_eq_getElem h1];exact⟨hgr _ (List.getElem_mem h1),hlen _ (List.getElem_mem h1),hstr _ (List.getElem_mem h1)⟩
  have e1:=D2 h1
  have e2:=DO (fun g=>decide (g.n≠0)&&Zn g.n (Q5 ls) g.chunks) h1
  have hbad:(decide ((m.groups.getD i default).n≠0)&&Zn (m.groups.getD i default).n (Q5 ls) (m.groups.getD i default).chunks)=false→Zz m=false:=by
   intro hb
   have:(m.groups.all fun g=>decide (g.n≠0)&&Zn g.n (Q5 ls) g.chunks)=false:=by
    rw[List.all_eq_false]
    refine⟨_,List.getElem_mem h1,?_⟩
    rw[List.getD_eq_getElem?_getD,List.getElem?_eq_getElem h1]at hb
    rw[show m.groups[i]=(some m.groups[i]).getD default from rfl,hb];decide
   rw[hwh,this];rfl
  rw[←hsm]at e1
  rw[hal]at e2
  obtain⟨⟨hn,hcl,hpg⟩,hce,hst⟩:=hgi
  have hra:(asR ((QT m).getD (0+2) .any)).getD ((i:Nat):Int).toNat []=encR (m.groups.getD i default):=by rw[Int.toNat_natCast];exact Wf encR default h1
  have hx1:=sqm
  have hx2:=hra
  have hx3:=hra
  have hx4:=hra
  repeat' first|refine And.intro ?_ ?_|(intro h;try first|exact ZD|replace h:=ZE)
  all_goals try exact czq
  all_goals(try first|(rw[hra];rfl)|(show((i:Nat):Int)<(((m.groups.map encR).length:Nat):Int);rw[List.length_map];omega))
  have hrr:∀(x y:AVal),GW (encR (m.groups.getD i default)) (encR (m.groups.getD i default)):=fun _ _=>⟨.same _,.same _,trivial⟩
  refine⟨wqB m ls i sm (m.groups.getD i default),?_,?_⟩
  ·refine QV (n:=0) (rows:=[encR (m.groups.getD i default)]) ?_ (Xe (eR _) QK) ?_ ?_
   ·first|rfl|(simp only[hra];rfl)|(rw[←hra];rfl)
   ·exact⟨.same _,.same _,.same _,.same _,.pt 0 0 (encR (m.groups.getD i default)) (encR (m.groups.getD i default)) rfl (hrr .any .any),trivial⟩
   ·exact trivial
  clear hra hx2 hx3 hx4
  generalize m.groups.getD i default=g at *
  have hx2:=hx1
  have hx3:=hx1
  have hx4:=hx1
  by_cases h2:g.n=0
  · repeat' first|refine And.intro ?_ ?_|(intro h;try first|exact ZD|replace h:=ZE)
    all_goals try exact czq
    exact⟨_,Q2 [4] rfl,_,rfl,by rw[hbad (by rw[h2];rfl)];rfl,rfl⟩
  ·rw[decide_eq_true h2,Bool.true_and]at hbad e2
   repeat' first|refine And.intro ?_ ?_|(intro h;try first|exact ZD|replace h:=ZE)
   all_goals try exact czq
   refine⟨fun q s=>∃(j:Nat),(j≤ls.length∧q=ls.length-j∧Zn g.n (Q5 ls) g.chunks=Zn g.n ((Q5 ls).drop j) (g.chunks.drop j))∧s=wqI m ls i (sm+g.n) g j,⟨_,wqI m ls i (sm+g.n) g 0,Q0 [] (by exact rfl) ⟨.refl _,.refl _,.refl _,.refl _,.refl _,.refl _,trivial⟩ trivial,0,⟨by omega,rfl,rfl⟩,rfl⟩,?_⟩
   rintro q s ⟨j,⟨hj,rfl,hso⟩,rfl⟩
   by_cases h3:j<ls.length
   ·have h3c:j<g.chunks.length:=by omega
    have hd:=Gr (n:=g.n) h3c hcl
    have hpj:((∀p∈(g.chunks.getD j default).pages,Kt p)∧(g.chunks.getD j default).pages.length≤200)∧(g.chunks.getD j default).st.mn.s.length≤1000000∧(g.chunks.getD j default).st.mx.s.length≤1000000:=by
     rw[List.getD_eq_getElem?_getD,List.getElem?_eq_getElem h3c];exact⟨hpg _ (List.getElem_mem h3c),hst _ (List.getElem_mem h3c)⟩
    have hrc:(asR ((encR g).getD (0+1) .any)).getD ((j:Nat):Int).toNat []=encC (g.chunks.getD j default):=by rw[Int.toNat_natCast];exact Wf encC default h3c
    repeat' first|refine And.intro ?_ ?_|(intro h;try first|exact ZD|replace h:=ZE)
    all_goals try exact czq
    all_goals(try first|(rw[hrc];rfl)|(show((j:Nat):Int)<(((g.chunks.map encC).length:Nat):Int);rw[List.length_map];omega))
    refine⟨(ls.getD j default).kind,g.n,g.chunks.getD j default,?_,⟨hpj.1.1,hpj.1.2,hpj.2.1,hpj.2.2⟩,?_⟩
    ·first|(rw[hrc];rfl)|(simp only[hrc];rfl)|rfl
    cases hs:Zg (ls.getD j default).kind g.n (g.chunks.getD j default)
    ·have hx2:=hs
     have hx3:=hs
     have hx4:=hs
     repeat' first|refine And.intro ?_ ?_|(intro h;try first|exact ZD|replace h:=ZE)
     all_goals try exact czq
     exact⟨_,Q2 [4] rfl,_,rfl,by rw[hbad (by rw[hso,hd,hs];rfl)];rfl,rfl⟩
    ·rw[hs,Bool.true_and]at hd
     have hx2:=hs
     have hx3:=hs
     have hx4:=hs
     repeat' first|refine And.intro ?_ ?_|(intro h;try first|exact ZD|replace h:=ZE)
     all_goals try exact czq
     exact⟨_,wqI m ls i (sm+g.n) g (j+1),Q0 [] (by exact rfl) ⟨.refl _,.refl _,.refl _,.refl _,.refl _,Qp (by omega),trivial⟩ trivial,⟨j+1,⟨by omega,rfl,by rw[hso,hd]⟩,rfl⟩,by omega⟩
   ·obtain rfl:j=ls.length:=by omega
    have hs1:Zn g.n (Q5 ls) g.chunks=true:=by
     rw[hso,show(Q5 ls).drop ls.length=[] from List.drop_eq_nil_of_le (by simp)];rfl
    rw[hs1]at e2
    repeat' first|refine And.intro ?_ ?_|(intro h;try first|exact ZD|replace h:=ZE)
    all_goals try exact czq
    exact⟨_,wqS m ls (i+1) (sm+g.n),Q0 [] (by exact rfl) ⟨.refl _,.refl _,.refl _,Qp (by omega),trivial⟩ trivial,⟨i+1,sm+g.n,⟨by omega,rfl,e1.symm,e2⟩,rfl⟩,by omega⟩
 ·obtain rfl:i=m.groups.length:=by omega
  rw[List.take_length]at hsm hal
  rw[hwh,hal,←hsm,Bool.true_and]
  have hx1:=sqm
  have hx2:(QT m).getD (0+1) .any= .int .i64 m.n:=rfl
  have hx3:=hx1
  have hx4:=hx2
  clear hsm hwh
  by_cases h2:sm=m.n
  ·by_cases h3:sm≤200
   · repeat' first|refine And.intro ?_ ?_|(intro h;try first|exact ZD|replace h:=ZE)
     all_goals try exact czq
     all_goals exact⟨_,Q2 [4] rfl,_,rfl,congrArg AVal.bool (by simp[*]),rfl⟩
   · repeat' first|refine And.intro ?_ ?_|(intro h;try first|exact ZD|replace h:=ZE)
     all_goals try exact czq
     all_goals exact⟨_,Q2 [4] rfl,_,rfl,congrArg AVal.bool (by simp[*]),rfl⟩
  · repeat' first|refine And.intro ?_ ?_|(intro h;try first|exact ZD|replace h:=ZE)
    all_goals try exact czq
    all_goals exact⟨_,Q2 [4] rfl,_,rfl,congrArg AVal.bool (by simp[*]),rfl⟩
def S_rwhole:SpecI:=fun args K=>∃m,args=[.agg (QT m),vL (Qu m.s)]∧RWhOk m∧K (.bool (Zz m))
theorem IR[Syms]:Zx Try.prog 36 S_rwhole:=by
 rintro args K ⟨m,rfl,h,hk⟩
 exact⟨rfl,_,rfl,hk,fnI Qh Qi Tk (Qk Q0q Q9) Qt (Nk m h)⟩
end
section
set_option maxRecDepth 100000
set_option maxHeartbeats 4000000
abbrev rrR(B:List UInt8)(a:Nat)(e:Int):List AVal:=[.vs 1 (B.map encB),.int .i64 (a:Nat),.int .i64 e]
abbrev rrB(B:List UInt8)(a:Nat)(e:Int):Option Blk:=some (.cells [rrR B a e] false)
theorem rrF(B:List UInt8)(a:Nat)(e:Int):∀x∈rrR B a e,x.flat=true:=fun x hx=>by simp at hx;rcases hx with rfl|rfl|rfl<;>rfl
def RO{α:Type}(R:BR→α×BR)(B:List UInt8)(a:Nat)(e:Int)(v:α)(a':Nat)(e':Int):Prop:=
 a'≤B.length∧(R ⟨B.drop a,e⟩).2.e=e'∧(e'=0→R ⟨B.drop a,e⟩=(v,⟨B.drop a',0⟩))
theorem RO.bad{α:Type}{R:BR→α×BR}(h:Rd R){B:List UInt8}{a a':Nat}{e:Int}{v:α}(he:e≠0)(ha:a'≤B.length):RO R B a e v a' e:=
 ⟨ha,h.stick _ he,fun h0=>absurd h0 he⟩
theorem RO.bind{α β:Type}{R:BR→α×BR}{S:α→BR→β×BR}(hS:∀v,Rd (S v)){B:List UInt8}{a a1 a2:Nat}{e e1 e2:Int}{v:α}{w:β}(h1:RO R B a e v a1 e1)(h2:RO (S v) B a1 e1 w a2 e2):RO (QI R S) B a e w a2 e2:=by
 obtain⟨p1,p2,p3⟩:=h1
 obtain⟨q1,q2,q3⟩:=h2
 by_cases h:e1=0
 ·have:=p3 h
  subst h
  have hb:QI R S ⟨B.drop a,e⟩=S v ⟨B.drop a1,0⟩:=by show S (R _).1 (R _).2=_;rw[this]
  exact⟨q1,by rw[hb];exact q2,fun h0=>by rw[hb];exact q3 h0⟩
 ·have he2:e2=e1:=by rw[←q2];exact(hS v).stick _ h
  subst he2
  refine⟨q1,?_,fun h0=>absurd h0 h⟩
  show(S (R ⟨B.drop a,e⟩).1 (R ⟨B.drop a,e⟩).2).2.e=e2
  rw[(hS _).stick _ (by rw[p2];exact h),p2]
theorem RO.ret{α:Type}{B:List UInt8}{a:Nat}{e:Int}(v:α)(ha:a≤B.length):RO (XJ v) B a e v a e:=⟨ha,rfl,fun h=>by subst h;rfl⟩
theorem Nq[Syms]{Post:AVal→Heap→Nat→Prop}(B:List UInt8)(a:Nat)(e k:Int)(hP:Post (.tup []) [(0,rrB B a (if e=0 then k else e))] 1):
 fnT Q7 Q7 (Qv fns) (Qn tys) (Qz plt) 100 61 [.ptr 0 0 0,.int .i64 k] [(0,rrB B a e)] 1 Post:=by
 by_cases h:e=0
 ·subst h
  rw[if_pos rfl]at hP
  repeat' first|refine And.intro ?_ ?_|(intro h;try first|exact dz|replace h:=cv)
  all_goals try exact cz
  exact⟨⟨[],[(0,rrB B a k)],1⟩,Q0 [0] (by exact rfl) trivial ⟨⟨by decide,_,rfl,.refl _⟩,trivial⟩,_,rfl,hP⟩
 ·rw[if_neg h]at hP
  repeat' first|refine And.intro ?_ ?_|(intro h;try first|exact dz|replace h:=cv)
  all_goals try exact cz
  exact⟨⟨[],[(0,rrB B a e)],1⟩,Q0 [0] (by exact rfl) trivial ⟨⟨by decide,_,rfl,.refl _⟩,trivial⟩,_,rfl,hP⟩
def VF:SpecT:=fun args H nx Post=>∃B a e k,args=[.ptr 0 0 0,.int .i64 k]∧H=[(0,rrB B a e)]∧nx=1∧Post (.tup []) [(0,rrB B a (if e=0 then k else e))] 1
theorem Vv[Syms]:VF.ok Try.prog 61:=by
 rintro args H nx Post ⟨B,a,e,k,rfl,rfl,rfl,h⟩
 exact Qg Qh Qi Q3 Q9 Qt (Nq B a e k h)
theorem SJ[Syms]{N nx K len:Nat}{e:Env}{H:Heap}{B T:List UInt8}{a:Nat}{x:Int}{cap:Option Nat}{rows:List (List AVal)}(h4:e.get 4= .slice K 0 len 1 cap)(H0:H.get 0=rrB B a x)(HK:H.get K=some (.cells rows false))(hr:rows=T.map encB)(hl:len=T.length)(hn:QG 1 nx [0,K]=true):Reb 1 N ⟨e,H,nx⟩ ⟨[(4,vB T)],[(0,rrB B a x)],1⟩:=by
 subst hr hl
 refine Reb.trans (s':=⟨[(4,.slice 1 0 T.length 1 none)],[(0,rrB B a x),(1,some (.cells (T.map encB) false))],2⟩) (Q0 [0,K] hn ⟨by rw[h4];exact Q8 rfl,trivial⟩ ⟨⟨Nat.succ_pos _,_,H0,.refl _⟩,⟨Nat.lt_succ_self _,_,HK,Q1 rfl (fB _)⟩,trivial⟩) ?_
 refine Reb.trans (s':=⟨[(4,vB T)],[(0,rrB B a x)],2⟩) (Y3 (enc:=encB) 0 (l:=T) [] [(0,rrB B a x)] rfl rfl (fB T) (List.take_of_length_le (by simp)) (by simp) (by simp) (fun n c h=>?_)) ?_
 ·rw[Heap.get_cons]at h
  by_cases hz:n=0
  ·subst hz;exact h
  ·rw[QS hz]at h;rw[show(bif false then rrB B a x else Heap.get [] n)=none from Heap.get_nil n]at h;cases h
 ·exact Q0 [0] (by exact rfl) ⟨.refl _,trivial⟩ ⟨⟨Nat.zero_lt_one,_,rfl,.refl _⟩,trivial⟩
def ZL(n:Nat)(B:List UInt8)(a:Nat)(e:Int):List UInt8×Nat×Int:=if e≠0 then([],a,e)else if B.length-a<n then([],a,8)else((B.drop a).take n,a+n,0)
abbrev ROP{α:Type}(R:BR→α×BR)(P:List UInt8→Nat→Int→α×Nat×Int)(B:List UInt8)(a:Nat)(e:Int):Prop:=RO R B a e (P B a e).1 (P B a e).2.1 (P B a e).2.2
theorem Mj(n:Nat){B:List UInt8}{a:Nat}(e:Int)(ha:a≤B.length):ROP (QC n) (ZL n) B a e:=by
 unfold ROP ZL
 by_cases h:e=0
 ·subst h
  rw[if_neg (fun k=>k rfl)]
  by_cases h1:B.length-a<n
  ·rw[if_pos h1]
   exact⟨ha,by
    unfold QC
    rw[if_pos (show(⟨B.drop a,0⟩:BR).b.length<n by show(B.drop a).length<n;rw[List.length_drop];omega)];rfl,fun h=>absurd (show(8:Int)=0 from h) (by decide)⟩
  ·rw[if_neg h1]
   exact⟨show a+n≤B.length by omega,by
    unfold QC
    rw[if_neg (show ¬(⟨B.drop a,0⟩:BR).b.length<n by show ¬(B.drop a).length<n;rw[List.length_drop];omega),if_neg (fun k=>k rfl)],fun _=>by
    unfold QC
    rw[if_neg (show ¬(⟨B.drop a,0⟩:BR).b.length<n by show ¬(B.drop a).length<n;rw[List.length_drop];omega),if_neg (fun k=>k rfl),List.drop_drop]⟩
 ·rw[if_pos h]
  exact .bad (YP n) h ha
theorem Uz(n:Nat)(B:List UInt8)(a:Nat)(e:Int):(ZL n B a e).1.length=n∨(ZL n B a e).1=[]:=by
 unfold ZL
 split
 ·exact .inr rfl
 ·split
  ·exact .inr rfl
  ·left;show((B.drop a).take n).length=n;rw[List.length_take,List.length_drop];omega
abbrev cRT:CallT:=Q6 61 (QD VF) Q7
theorem TF[Syms]:cRT.ok Try.prog:=Q4 Vv Q9
noncomputable def plRT:Nat→Nat→Pl:=XG [(30,6)] (Qz plt)
theorem Q0u[Syms]{Post:AVal→Heap→Nat→Prop}(B:List UInt8)(a:Nat)(e:Int)(n:Nat)(hB:B.length≤1000000)(ha:a≤B.length)(hn:n≤1000000)(hP:Post (vB (ZL n B a e).1) [(0,rrB B (ZL n B a e).2.1 (ZL n B a e).2.2)] 1):
 fnT Q7 cRT (Qv fns) (Qn tys) plRT 100 30 [.ptr 0 0 0,.int .i64 (n:Nat)] [(0,rrB B a e)] 1 Post:=by
 have hbm:(B.map encB).length=B.length:=List.length_map ..
 by_cases h:e=0
 ·subst h
  by_cases h0:n=0
  ·subst h0
   rw[show ZL 0 B a 0=([],a,0) from by unfold ZL;rw[if_neg (fun k=>k rfl),if_neg (Nat.not_lt_zero _)];rfl]at hP
   repeat' first|refine And.intro ?_ ?_|(intro h;try first|exact dz|replace h:=cv)
   all_goals try exact cz
   all_goals exact⟨⟨[(4,vB [])],[(0,rrB B a 0)],1⟩,Q0 [0] (by exact rfl) ⟨.zeroT _ _ _ rfl,trivial⟩ ⟨⟨by decide,_,rfl,.refl _⟩,trivial⟩,_,rfl,hP⟩
  by_cases h1:B.length-a<n
  ·have hd:¬(n:Int)≤(B.length:Int)-a:=by omega
   rw[show ZL n B a 0=([],a,8) from by unfold ZL;rw[if_neg (fun k=>k rfl),if_pos h1]]at hP
   have hx1:=hbm
   have hx2:=hbm
   have hx3:=hbm
   have hx4:=hbm
   repeat' first|refine And.intro ?_ ?_|(intro h;try first|exact dzi|replace h:=cvi)
   all_goals try exact cz
   refine⟨[0],[.ptr 0 0 0,.int .i64 8],[(0,rrB B a 0)],by kernel_rfl,⟨.refl _,.refl _,trivial⟩,⟨⟨by decide,_,rfl,.refl _⟩,trivial⟩,B,a,0,8,rfl,rfl,rfl,?_⟩
   rw[if_pos rfl]
   repeat' first|refine And.intro ?_ ?_|(intro h;try first|exact dzi|replace h:=cvi)
   all_goals try exact cz
   all_goals exact⟨⟨[(4,vB [])],[(0,rrB B a 8)],1⟩,Q0 [0] (by kernel_rfl) ⟨.zeroT _ _ _ rfl,trivial⟩ ⟨⟨by decide,_,rfl,.refl _⟩,trivial⟩,_,rfl,hP⟩
  ·have hd:(n:Int)≤(B.length:Int)-a:=by omega
   rw[show ZL n B a 0=((B.drop a).take n,a+n,0) from by unfold ZL;rw[if_neg (fun k=>k rfl),if_neg h1]]at hP
   dsimp only at hP
   have hx1:=hbm
   have hx2:=hbm
   have hx3:=hbm
   have hx4:=hbm
   repeat' first|refine And.intro ?_ ?_|(intro h;try first|exact dzi|replace h:=cvi)
   all_goals try exact cz
   refine⟨⟨[(0,.ptr 0 0 0),(1,.int .i64 (n:Nat))],[(0,rrB B (a+n) 0)],1⟩,Q0 [0] (by kernel_rfl) ⟨.refl _,.refl _,trivial⟩ ⟨⟨by decide,_,rfl,QM (row:=rrR B (a+n) 0) ?_ (rrF B (a+n) 0)⟩,trivial⟩,?_⟩
   ·exact⟨.refl _,Qp (show wr .i64 (((a:Nat):Int)+((n:Nat):Int))=((a+n:Nat):Int) by rw[wrI (by omega)];omega),.refl _,trivial⟩
   have htk:List.take ((asI (([rrR B (a+n) 0].getD 0 []).getD (0+1) .any)).toNat-(asI (([rrR B (a+n) 0].getD 0 []).getD (0+1) .any)-((n:Nat):Int)).toNat) (List.drop (asI (([rrR B (a+n) 0].getD 0 []).getD (0+1) .any)-((n:Nat):Int)).toNat (B.map encB))=((B.drop a).take n).map encB:=by
    show List.take (((a+n:Nat):Int).toNat-(((a+n:Nat):Int)-((n:Nat):Int)).toNat) (List.drop (((a+n:Nat):Int)-((n:Nat):Int)).toNat (B.map encB))=_
    rw[show(((a+n:Nat):Int)-((n:Nat):Int)).toNat=a by omega,Int.toNat_natCast,Nat.add_sub_cancel_left,List.map_take,List.map_drop]
   have htl:((B.drop a).take n).length=n:=by rw[List.length_take,List.length_drop];omega
   generalize hT:(B.drop a).take n=T at *
   repeat' first|refine And.intro ?_ ?_|(intro h;try first|exact dzi|replace h:=cvi)
   all_goals try exact cz
   ·rw[htk];exact Zv (enc:=encB) (z:=1) (fun _=>rfl) _
   ·rw[htk];show(0+(T.map encB).length)*1≤_;rw[List.length_map];omega
   ·rw[htk];show 0+(T.map encB).length≤_;rw[List.length_map];omega
   ·have h3:(T.map encB).length=0:=htk▸h
    rw[List.length_map]at h3;omega
   ·refine⟨⟨[(4,vB T)],[(0,rrB B (a+n) 0)],1⟩,?_,_,rfl,hP⟩
    exact SJ (K:=1+16*RR) (cap:=none) rfl rfl (by kernel_rfl) htk (by rw[htk,List.length_map,Nat.zero_add]) (by kernel_rfl)
 ·rw[show ZL n B a e=([],a,e) from by unfold ZL;exact if_pos h]at hP
  repeat' first|refine And.intro ?_ ?_|(intro h;try first|exact dz|replace h:=cv)
  all_goals try exact cz
  all_goals exact⟨⟨[(4,vB [])],[(0,rrB B a e)],1⟩,Q0 [0] (by exact rfl) ⟨.zeroT _ _ _ rfl,trivial⟩ ⟨⟨by decide,_,rfl,.refl _⟩,trivial⟩,_,rfl,hP⟩
def FH:SpecT:=fun args H nx Post=>∃B a e n,args=[.ptr 0 0 0,.int .i64 (n:Nat)]∧H=[(0,rrB B a e)]∧nx=1∧(B.length≤1000000∧a≤B.length∧n≤1000000)∧Post (vB (ZL n B a e).1) [(0,rrB B (ZL n B a e).2.1 (ZL n B a e).2.2)] 1
theorem JK[Syms]:FH.ok Try.prog 30:=by
 rintro args H nx Post ⟨B,a,e,n,rfl,rfl,rfl,⟨h1,h2,h3⟩,h⟩
 exact Qg Qh Qi Q3 TF Qt (Q0u B a e n h1 h2 h3 h)
abbrev cRG:CallT:=Q6 30 (QD FH) Q7
theorem TI[Syms]:cRG.ok Try.prog:=Q4 JK Q9
theorem LA(n:Nat):Z0 n=QI (QC n) fun v=>XJ (leV v):=rfl
def SP(B:List UInt8)(a:Nat)(e:Int)(v:List UInt8)(i:Nat):St:=⟨[(5,vB v),(6,.int .u64 (leV (v.take i):Nat)),(7,.int .i64 i)],[(0,rrB B a e)],1⟩
def Xw(n:Nat)(B:List UInt8)(a:Nat)(e:Int):Nat×Nat×Int:=(leV (ZL n B a e).1,(ZL n B a e).2)
theorem M7(n:Nat){B:List UInt8}{a:Nat}(e:Int)(ha:a≤B.length):ROP (Z0 n) (Xw n) B a e:=by
 have hro:=Mj n e ha
 exact LA n▸RO.bind (fun _=>Z4 _) hro (RO.ret _ hro.1)
theorem Wv(n:Nat)(B:List UInt8)(a:Nat)(e:Int):(Xw n B a e).1<256^n:=by
 show leV (ZL n B a e).1<_
 rcases Uz n B a e with h|h
 ·have:=JT (ZL n B a e).1;rwa [h]at this
 ·rw[h];exact Nat.pow_pos (by decide)
theorem PJ[Syms]{Post:AVal→Heap→Nat→Prop}(B:List UInt8)(a:Nat)(e:Int)(n:Nat)(hB:B.length≤1000000)(ha:a≤B.length)(hn:n≤8)(hP:Post (.int .u64 ((Xw n B a e).1:Nat)) [(0,rrB B (Xw n B a e).2.1 (Xw n B a e).2.2)] 1):
 fnT Q7 cRG (Qv fns) (Qn tys) (Qz plt) 100 63 [.ptr 0 0 0,.int .i64 (n:Nat)] [(0,rrB B a e)] 1 Post:=by
 repeat' first|refine And.intro ?_ ?_|(intro h;try first|exact dz|replace h:=cv)
 all_goals try exact cz
 refine⟨[0],[.ptr 0 0 0,.int .i64 (n:Nat)],[(0,rrB B a e)],by exact rfl,⟨.refl _,.refl _,trivial⟩,⟨⟨by decide,_,rfl,.refl _⟩,trivial⟩,B,a,e,n,rfl,rfl,rfl,⟨hB,ha,by omega⟩,?_⟩
 have hvl:=Uz n B a e
 unfold Xw at hP
 generalize ZL n B a e=g at *
 obtain⟨v,a',e'⟩:=g
 dsimp only at hP hvl ⊢
 have hv8:v.length≤8:=by
  rcases hvl with h|h
  ·omega
  ·subst h;simp
 clear hvl
 repeat' first|refine And.intro ?_ ?_|(intro h;try first|exact dz|replace h:=cv)
 all_goals try exact cz
 refine⟨fun m s=>∃i:Nat,(i≤v.length∧m=v.length-i)∧s=SP B a' e' v i,⟨_,SP B a' e' v 0,Q0 [0] (by exact rfl) ⟨.refl _,.refl _,.refl _,trivial⟩ ⟨⟨by decide,_,rfl,.refl _⟩,trivial⟩,0,⟨by omega,rfl⟩,rfl⟩,?_⟩
 rintro m s ⟨i,⟨hi,rfl⟩,rfl⟩
 by_cases h1:i<v.length
 ·have hw:wr .u64 (8*wr .u64 (i:Int))=8*(i:Int):=by
   rw[Kx (n:=i) (by omega),show 8*(i:Int)=((8*i:Nat):Int) by omega,Kx (by omega)]
  have hst:=Sf (leV (v.take i)) (v.getD i 0).toNat i (by have:=JT (v.take i);rwa [List.length_take,Nat.min_eq_left (by omega)]at this) (by omega) (v.getD i 0).toNat_lt
  rw[←Cv h1]at hst
  repeat' first|refine And.intro ?_ ?_|(intro h;try first|exact dz|replace h:=cv)
  all_goals try exact cz
  all_goals(try exact IL _)
  exact⟨_,SP B a' e' v (i+1),Q0 [0] (by exact rfl) ⟨.refl _,Qp (by rw[hw];exact hst),Qp (by omega),trivial⟩ ⟨⟨by decide,_,rfl,.refl _⟩,trivial⟩,⟨i+1,⟨by omega,rfl⟩,rfl⟩,by omega⟩
 ·obtain rfl:i=v.length:=by omega
  repeat' first|refine And.intro ?_ ?_|(intro h;try first|exact dz|replace h:=cv)
  all_goals try exact cz
  exact⟨⟨[(4,.int .u64 (leV v:Nat))],[(0,rrB B a' e')],1⟩,Q0 [0] (by exact rfl) ⟨Qp (by rw[List.take_length]),trivial⟩ ⟨⟨by decide,_,rfl,.refl _⟩,trivial⟩,_,rfl,hP⟩
def BF:SpecT:=fun args H nx Post=>∃B a e n,args=[.ptr 0 0 0,.int .i64 (n:Nat)]∧H=[(0,rrB B a e)]∧nx=1∧(B.length≤1000000∧a≤B.length∧n≤8)∧Post (.int .u64 ((Xw n B a e).1:Nat)) [(0,rrB B (Xw n B a e).2.1 (Xw n B a e).2.2)] 1
theorem Mz[Syms]:BF.ok Try.prog 63:=by
 rintro args H nx Post ⟨B,a,e,n,rfl,rfl,rfl,⟨h1,h2,h3⟩,h⟩
 exact Qg Qh Qi Q3 TI Qt (PJ B a e n h1 h2 h3 h)
theorem S8:∀y:Fin 256,(y.val &&& 127)=y.val%128:=by decide
theorem Q01(x:Nat)(h:x<256):wr .u64 (IntKind.u8.wrap (((BitVec.ofInt 8 (x:Int) &&& BitVec.ofInt 8 127).toNat:Nat):Int))=((x%128:Nat):Int):=by
 have h1:(BitVec.ofInt 8 ((x:Nat):Int) &&& BitVec.ofInt 8 127).toNat=x%128:=by
  rw[BitVec.toNat_and]
  have e1:(BitVec.ofInt 8 ((x:Nat):Int)).toNat=x:=by simp;omega
  have e2:(BitVec.ofInt 8 127).toNat=127:=by decide
  rw[e1,e2]
  exact S8 ⟨x,h⟩
 rw[h1]
 have hlt:x%128<128:=Nat.mod_lt _ (by decide)
 generalize x%128=y at *
 have:IntKind.u8.wrap ((y:Nat):Int)=(y:Int):=by
  simp[IntKind.wrap,IntKind.bits,IntKind.signed]
  omega
 rw[this,Kx (by omega)]
def SI(b:List UInt8)(i v:Nat):St:=⟨[(0,vB b),(5,.int .u64 v),(6,.int .i64 i)],[],0⟩
theorem PD[Syms](b:List UInt8)(hl:b.length≤1000000):
 fnT Q7 Q7 (Qv fns) (Qn tys) (Qz plt) 100 87 [vB b] [] 0 (fun v H _=>v=Fa (QN b 0 0)∧H=[]):=by
 refine⟨fun m s=>∃i v:Nat,(i≤b.length∧i≤9∧m=b.length-i∧v<2^(7*i)∧QN (b.drop i) i v=QN b 0 0)∧s=SI b i v,⟨_,SI b 0 0,Q2 [0,5,6] rfl,0,0,⟨by omega,by omega,rfl,by decide,rfl⟩,rfl⟩,?_⟩
 rintro m s ⟨i,v,⟨hi,hi10,rfl,hv,hg⟩,rfl⟩
 by_cases h1:i<b.length
 ·have hd:b.drop i=b.getD i 0::b.drop (i+1):=by
   rw[List.drop_eq_getElem_cons h1,List.getD_eq_getElem?_getD,List.getElem?_eq_getElem h1];rfl
  rw[hd,QN]at hg
  have hx8:(b.getD i 0).toNat<256:=(b.getD i 0).toNat_lt
  have hw:wr .u64 (7*wr .u64 (i:Int))=7*(i:Int):=by
   rw[Kx (n:=i) (by omega),show 7*(i:Int)=((7*i:Nat):Int) by omega,Kx (by omega)]
  generalize hx:(b.getD i 0).toNat=x at *
  have hx1:=OB
  have hx2:=hx
  have hx3:=hx
  have hx4:((i:Nat):Int).toNat=i:=Int.toNat_natCast i
  have hsv:¬(i=9∧1<x)→IntKind.u64.wrap (((BitVec.ofInt 64 (v:Int) ||| BitVec.ofInt 64 (wr .u64 (wr .u64 (IntKind.u8.wrap (((BitVec.ofInt 8 (((b.getD i 0).toNat:Nat):Int) &&& BitVec.ofInt 8 127).toNat:Nat):Int))*2^min ((wr .u64 (7*wr .u64 (i:Int))).toNat) 64))).toNat:Nat):Int)=((v+x%128*2^(7*i):Nat):Int):=fun hc=>by
   rw[hx,Q01 x hx8,hw,shlV x i hi10 (by omega),orV v x i hv hi10 (by omega)]
  by_cases h2:i=9∧1<x
  ·rw[if_pos h2]at hg
   obtain⟨h29,h2⟩:=h2
   repeat' first|refine And.intro ?_ ?_|(intro h;try first|exact dzi|replace h:=cvi)
   all_goals try exact cz
   exact⟨_,Q2 [2,3,4] rfl,_,rfl,congrArg Fa hg,rfl⟩
  ·rw[if_neg h2]at hg
   by_cases h3:x<128
   ·rw[if_pos h3]at hg
    by_cases h4:x=0∧0<i
    ·rw[if_pos h4]at hg
     obtain⟨h4,h5⟩:=h4
     repeat' first|refine And.intro ?_ ?_|(intro h;try first|exact dzi|replace h:=cvi)
     all_goals try exact cz
     all_goals(try exact IL _)
     all_goals exact⟨_,Q2 [2,3,4] rfl,_,rfl,congrArg Fa hg,rfl⟩
    ·rw[if_neg h4]at hg
     repeat' first|refine And.intro ?_ ?_|(intro h;try first|exact dzi|replace h:=cvi)
     all_goals try exact cz
     all_goals(try exact IL _)
     all_goals refine⟨⟨[(2,.int .u64 ((v+x%128*2^(7*i):Nat):Int)),(3,.int .i64 ((i+1:Nat):Int)),(4,.int .i64 0)],[],0⟩,Q0 [] rfl ⟨Qp ?_,Qp (by omega),.refl _,trivial⟩ trivial,_,rfl,congrArg Fa hg,rfl⟩
     all_goals exact hsv h2
   ·rw[if_neg h3]at hg
    repeat' first|refine And.intro ?_ ?_|(intro h;try first|exact dzi|replace h:=cvi)
    all_goals try exact cz
    all_goals(try exact IL _)
    refine⟨_,SI b (i+1) (v+x%128*2^(7*i)),Q0 [] rfl ⟨.refl _,Qp ?_,Qp (by omega),trivial⟩ trivial,⟨i+1,_,⟨by omega,by omega,rfl,P0 hv,hg⟩,rfl⟩,by omega⟩
    exact hsv h2
 ·obtain rfl:i=b.length:=by omega
  rw[List.drop_length,QN]at hg
  repeat' first|refine And.intro ?_ ?_|(intro h;try first|exact dz|replace h:=cv)
  all_goals try exact cz
  exact⟨_,Q2 [2,3,4] rfl,_,rfl,congrArg Fa hg,rfl⟩
theorem C1[Syms]:Zx Try.prog 87 S_get:=by
 rintro args K ⟨b,rfl,h,hk⟩
 exact⟨rfl,_,rfl,hk,fnI Qh Qi Q3 Q9 Qt (PD b h)⟩
end
section
set_option maxRecDepth 100000
set_option maxHeartbeats 4000000
def WJ(r:BR):Nat×BR:=if r.e≠0 then(0,r)else if(QN r.b 0 0).2.2≠0 then(0,Qs r (QN r.b 0 0).2.2)else((QN r.b 0 0).1,⟨r.b.drop (QN r.b 0 0).2.1,0⟩)
theorem Bh{b:List UInt8}(h:(QN b 0 0).2.2=0):(QN b 0 0).2.1≤b.length:=by
 have h0:(QN (b++[]) 0 0).2.2=0:=by rw[List.append_nil];exact h
 rcases Kh b [] 0 0 h0 with⟨_,h1⟩|h1
 ·omega
 ·rw[h1]at h;exact absurd h (by decide)
def KB(most:Nat)(w:Int)(v:Nat):BR→Nat×BR:=fun r=>if most<v then(0,Qs r w)else(v,r)
theorem N9(most:Nat)(w:Int)(v:Nat):Rd (KB most w v):=by
 unfold KB
 by_cases h:most<v
 ·simp only[if_pos h];exact Ig 0 w
 ·simp only[if_neg h];exact Z4 v
theorem Lg{most:Nat}{w:Int}(hw:w≠0)(r:BR):(Qx most w r).2.e=(QI WJ (KB most w) r).2.e∧((QI WJ (KB most w) r).2.e=0→Qx most w r=QI WJ (KB most w) r):=by
 obtain⟨b,e⟩:=r
 by_cases he:e=0
 ·subst he
  have hn:Qx most w ⟨b,0⟩=if(QC (QN b 0 0).2.1 (X2 most w ⟨b,0⟩)).2.e≠0 then(0,(QC (QN b 0 0).2.1 (X2 most w ⟨b,0⟩)).2)else((QN b 0 0).1,(QC (QN b 0 0).2.1 (X2 most w ⟨b,0⟩)).2):=if_neg (fun k=>k rfl)
  have hr:WJ ⟨b,0⟩=if(QN b 0 0).2.2≠0 then(0,Qs ⟨b,0⟩ (QN b 0 0).2.2)else((QN b 0 0).1,⟨b.drop (QN b 0 0).2.1,0⟩):=if_neg (fun k=>k rfl)
  have hb:QI WJ (KB most w) ⟨b,0⟩=KB most w (WJ ⟨b,0⟩).1 (WJ ⟨b,0⟩).2:=rfl
  by_cases hg:(QN b 0 0).2.2=0
  ·rw[if_neg (fun k=>k hg)]at hr
   rw[hb,hr]
   by_cases hm:most<(QN b 0 0).1
   ·have h1:X2 most w ⟨b,0⟩=⟨b,w⟩:=by
     unfold X2
     rw[if_pos ⟨hg,hm⟩]
     show Qs (Qs ⟨b,0⟩ (QN b 0 0).2.2) w=_
     rw[hg];rfl
    have h2:=(YP (QN b 0 0).2.1).stick ⟨b,w⟩ hw
    rw[hn,h1,if_pos (by rw[h2];exact hw)]
    unfold KB
    rw[if_pos hm]
    exact⟨h2,fun h=>absurd (show w=0 from h) hw⟩
   ·have h1:X2 most w ⟨b,0⟩=⟨b,0⟩:=by
     unfold X2
     rw[if_neg (fun hh=>hm hh.2)]
     show Qs ⟨b,0⟩ (QN b 0 0).2.2=_
     rw[hg];rfl
    have hle:=Bh hg
    have ht:QC (QN b 0 0).2.1 ⟨b,0⟩=(b.take (QN b 0 0).2.1,⟨b.drop (QN b 0 0).2.1,0⟩):=by
     unfold QC
     rw[if_neg (show ¬(⟨b,0⟩:BR).b.length<(QN b 0 0).2.1 from Nat.not_lt.2 hle),if_neg (fun k=>k rfl)]
    rw[hn,h1,ht,if_neg (fun k=>k rfl)]
    unfold KB
    rw[if_neg hm]
    exact⟨rfl,fun _=>rfl⟩
  ·rw[if_pos hg]at hr
   have hf:Qs ⟨b,0⟩ (QN b 0 0).2.2=⟨b,(QN b 0 0).2.2⟩:=rfl
   have h1:X2 most w ⟨b,0⟩=⟨b,(QN b 0 0).2.2⟩:=by
    unfold X2
    rw[if_neg (fun hh=>hg hh.1)];rfl
   have h2:=(YP (QN b 0 0).2.1).stick ⟨b,(QN b 0 0).2.2⟩ hg
   rw[hb,hr,hn,h1,if_pos (by rw[h2];exact hg),hf]
   unfold KB
   rw[if_neg (Nat.not_lt_zero most)]
   exact⟨h2,fun h=>absurd (show(QN b 0 0).2.2=0 from h) hg⟩
 ·have hn:Qx most w ⟨b,e⟩=(0,⟨b,e⟩):=if_pos he
  have hr:WJ ⟨b,e⟩=(0,⟨b,e⟩):=if_pos he
  have hb:QI WJ (KB most w) ⟨b,e⟩=(0,⟨b,e⟩):=by
   show KB most w (WJ ⟨b,e⟩).1 (WJ ⟨b,e⟩).2=_
   rw[hr]
   exact if_neg (Nat.not_lt_zero most)
  rw[hn,hb]
  exact⟨rfl,fun _=>rfl⟩
theorem RO.num{most:Nat}{w:Int}(hw:w≠0){B:List UInt8}{a a':Nat}{e e':Int}{v:Nat}(h:RO (QI WJ (KB most w)) B a e v a' e'):RO (Qx most w) B a e v a' e':=by
 obtain⟨h1,h2,h3⟩:=h
 obtain⟨k1,k2⟩:=Lg hw ⟨B.drop a,e⟩ (most:=most)
 exact⟨h1,k1.trans h2,fun h0=>(k2 (h2.trans h0)).trans (h3 h0)⟩
abbrev cRR:CallT:=Q6 87 (Xc (seeW S_get)) (Q6 61 (QD VF) Q7)
theorem TG[Syms]:cRR.ok Try.prog:=Qk C1.seeW (Q4 Vv Q9)
abbrev cRR0:CallT:=Q6 87 (Xc (seeW S_get)) Q7
theorem OU[Syms]:cRR0.det Try.prog:=ZW C1.seeW Q3
noncomputable def plRR:Nat→Nat→Pl:=XG [(62,7)] (Qz plt)
def W1(B:List UInt8)(a:Nat)(e:Int):Nat×Nat×Int:=if e≠0 then(0,a,e)else if(QN (B.drop a) 0 0).2.2≠0 then(0,a,(QN (B.drop a) 0 0).2.2)else((QN (B.drop a) 0 0).1,a+(QN (B.drop a) 0 0).2.1,0)
theorem Ny{B:List UInt8}{a:Nat}(e:Int)(ha:a≤B.length):ROP WJ W1 B a e:=by
 unfold ROP W1
 by_cases h:e=0
 ·subst h
  have hg0:WJ ⟨B.drop a,0⟩=if(QN (B.drop a) 0 0).2.2≠0 then(0,Qs ⟨B.drop a,0⟩ (QN (B.drop a) 0 0).2.2)else((QN (B.drop a) 0 0).1,⟨(B.drop a).drop (QN (B.drop a) 0 0).2.1,0⟩):=if_neg (fun k=>k rfl)
  rw[if_neg (fun k=>k rfl)]
  by_cases hx:(QN (B.drop a) 0 0).2.2=0
  ·have hle:=Bh hx
   rw[List.length_drop]at hle
   rw[if_neg (fun k=>k hx)]at hg0 ⊢
   rw[List.drop_drop]at hg0
   exact⟨show a+_≤B.length by omega,by rw[hg0],fun _=>hg0⟩
  ·rw[if_pos hx]at hg0 ⊢
   exact⟨ha,by rw[hg0];rfl,fun h=>absurd h hx⟩
 ·rw[if_pos h]
  have hr:WJ ⟨B.drop a,e⟩=(0,⟨B.drop a,e⟩):=if_pos h
  exact⟨ha,by rw[hr],fun h0=>absurd h0 h⟩
theorem PL[Syms]{Post:AVal→Heap→Nat→Prop}(B:List UInt8)(a:Nat)(e:Int)(hB:B.length≤1000000)(ha:a≤B.length)(hP:Post (.int .u64 ((W1 B a e).1:Nat)) [(0,rrB B (W1 B a e).2.1 (W1 B a e).2.2)] 1):
 fnT cRR0 cRR (Qv fns) (Qn tys) plRR 100 62 [.ptr 0 0 0] [(0,rrB B a e)] 1 Post:=by
 have hbm:(B.map encB).length=B.length:=List.length_map ..
 by_cases h:e=0
 ·subst h
  unfold W1 at hP
  rw[if_neg (fun k=>k rfl)]at hP
  have hx1:=hbm
  have hx2:=hbm
  have hx3:=hbm
  have hx4:=hbm
  have htk:List.take ((B.map encB).length-(asI (([rrR B a 0].getD 0 []).getD (0+1) .any)).toNat) (List.drop (asI (([rrR B a 0].getD 0 []).getD (0+1) .any)).toNat (B.map encB))=(B.drop a).map encB:=by
   show List.take ((B.map encB).length-((a:Nat):Int).toNat) (List.drop ((a:Nat):Int).toNat (B.map encB))=_
   rw[Int.toNat_natCast,List.take_of_length_le (by simp),List.map_drop]
  have hle:(QN (B.drop a) 0 0).2.2=0→(QN (B.drop a) 0 0).2.1≤B.length-a:=fun h=>by have:=Bh h;rwa [List.length_drop]at this
  repeat' first|refine And.intro ?_ ?_|(intro h;try first|exact dzi|replace h:=cvi)
  all_goals try exact cz
  refine⟨[vB (B.drop a)],⟨.tab htk,trivial⟩,B.drop a,rfl,by rw[List.length_drop];omega,?_⟩
  generalize hg:QN (B.drop a) 0 0=g at *
  obtain⟨v,n,x⟩:=g
  dsimp only at hP hle
  by_cases hx:x=0
  ·subst hx
   rw[if_neg (fun k=>k rfl)]at hP
   have hle:=hle rfl
   repeat' first|refine And.intro ?_ ?_|(intro h;try first|exact dzi|replace h:=cvi)
   all_goals try exact cz
   refine⟨⟨[(0,.ptr 0 0 0),(3,.int .u64 (v:Nat))],[(0,rrB B (a+n) 0)],1⟩,Q0 [0] (by kernel_rfl) ⟨.refl _,.refl _,trivial⟩ ⟨⟨by decide,_,rfl,QM (row:=rrR B (a+n) 0) ?_ (rrF B (a+n) 0)⟩,trivial⟩,?_⟩
   ·exact⟨.refl _,Qp (show wr .i64 (((a:Nat):Int)+((n:Nat):Int))=((a+n:Nat):Int) by rw[wrI (by omega)];omega),.refl _,trivial⟩
   repeat' first|refine And.intro ?_ ?_|(intro h;try first|exact dzi|replace h:=cvi)
   all_goals try exact cz
   exact⟨⟨[(2,.int .u64 (v:Nat))],[(0,rrB B (a+n) 0)],1⟩,Q0 [0] (by exact rfl) ⟨.refl _,trivial⟩ ⟨⟨by decide,_,rfl,.refl _⟩,trivial⟩,_,rfl,hP⟩
  ·rw[if_pos hx]at hP
   repeat' first|refine And.intro ?_ ?_|(intro h;try first|exact dzi|replace h:=cvi)
   all_goals try exact cz
   refine⟨[0],[.ptr 0 0 0,.int .i64 x],[(0,rrB B a 0)],by kernel_rfl,⟨.refl _,.refl _,trivial⟩,⟨⟨by decide,_,rfl,.refl _⟩,trivial⟩,B,a,0,x,rfl,rfl,rfl,?_⟩
   rw[if_pos rfl]
   repeat' first|refine And.intro ?_ ?_|(intro h;try first|exact dzi|replace h:=cvi)
   all_goals try exact cz
   exact⟨⟨[(2,.int .u64 (0:Nat))],[(0,rrB B a x)],1⟩,Q0 [0] (by kernel_rfl) ⟨.refl _,trivial⟩ ⟨⟨by decide,_,rfl,.refl _⟩,trivial⟩,_,rfl,hP⟩
 ·unfold W1 at hP
  rw[if_pos h]at hP
  repeat' first|refine And.intro ?_ ?_|(intro h;try first|exact dz|replace h:=cv)
  all_goals try exact cz
  all_goals exact⟨⟨[(2,.int .u64 (0:Nat))],[(0,rrB B a e)],1⟩,Q0 [0] (by exact rfl) ⟨.refl _,trivial⟩ ⟨⟨by decide,_,rfl,.refl _⟩,trivial⟩,_,rfl,hP⟩
def IB:SpecT:=fun args H nx Post=>∃B a e,args=[.ptr 0 0 0]∧H=[(0,rrB B a e)]∧nx=1∧(B.length≤1000000∧a≤B.length)∧Post (.int .u64 ((W1 B a e).1:Nat)) [(0,rrB B (W1 B a e).2.1 (W1 B a e).2.2)] 1
theorem Nr[Syms]:IB.ok Try.prog 62:=by
 rintro args H nx Post ⟨B,a,e,rfl,rfl,rfl,⟨h1,h2⟩,h⟩
 exact Qg Qh Qi OU TG Qt (PL B a e h1 h2 h)
abbrev cRN:CallT:=Q6 62 (QD IB) (Q6 61 (QD VF) Q7)
theorem TH[Syms]:cRN.ok Try.prog:=Q4 Nr (Q4 Vv Q9)
def X6(most:Nat)(w:Int)(B:List UInt8)(a:Nat)(e:Int):Nat×Nat×Int:=if most<(W1 B a e).1 then(0,(W1 B a e).2.1,if(W1 B a e).2.2=0 then w else(W1 B a e).2.2)else W1 B a e
theorem M2{most:Nat}{w:Int}(hw:w≠0){B:List UInt8}{a:Nat}(e:Int)(ha:a≤B.length):ROP (Qx most w) (X6 most w) B a e:=by
 have hro:=Ny e ha
 unfold ROP at hro ⊢
 unfold X6
 generalize W1 B a e=g at *
 obtain⟨v,a1,e1⟩:=g
 dsimp only at hro ⊢
 refine RO.num hw (RO.bind (N9 most w) hro ?_)
 unfold KB
 by_cases hv:most<v
 ·rw[if_pos hv]
  refine⟨hro.1,?_,fun h0=>?_⟩
  ·unfold Qs
   dsimp only
   rw[if_pos hv]
   dsimp only
   split<;>rfl
  ·dsimp only at h0
   split at h0
   ·exact absurd h0 hw
   ·rename_i h;exact absurd h0 h
 ·rw[if_neg hv]
  rw[show(fun r:BR=>if most<v then(0,Qs r w)else(v,r))=XJ v from by funext r;exact if_neg hv]
  exact RO.ret v hro.1
theorem Ws(most:Nat)(w:Int)(B:List UInt8)(a:Nat)(e:Int):(X6 most w B a e).1≤most:=by
 unfold X6
 split
 ·exact Nat.zero_le _
 ·omega
theorem PH[Syms]{Post:AVal→Heap→Nat→Prop}(B:List UInt8)(a:Nat)(e:Int)(most:Nat)(w:Int)(hB:B.length≤1000000)(ha:a≤B.length)(hm:most≤2000000)(hw:w≠0)(hP:Post (.int .i64 ((X6 most w B a e).1:Nat)) [(0,rrB B (X6 most w B a e).2.1 (X6 most w B a e).2.2)] 1):
 fnT Q7 cRN (Qv fns) (Qn tys) (Qz plt) 100 31 [.ptr 0 0 0,.int .i64 (most:Nat),.int .i64 w] [(0,rrB B a e)] 1 Post:=by
 have hwm:wr .u64 ((most:Nat):Int)=((most:Nat):Int):=Kx (by omega)
 repeat' first|refine And.intro ?_ ?_|(intro h;try first|exact dz|replace h:=cv)
 all_goals try exact cz
 refine⟨[0],[.ptr 0 0 0],[(0,rrB B a e)],by exact rfl,⟨.refl _,trivial⟩,⟨⟨by decide,_,rfl,.refl _⟩,trivial⟩,B,a,e,rfl,rfl,rfl,⟨hB,ha⟩,?_⟩
 unfold X6 at hP
 generalize W1 B a e=g at *
 obtain⟨v,a1,e1⟩:=g
 dsimp only at hP ⊢
 by_cases hv:most<v
 ·rw[if_pos hv]at hP
  dsimp only at hP
  have hx1:=hwm
  have hx2:=hwm
  have hx3:=hwm
  have hx4:=hwm
  repeat' first|refine And.intro ?_ ?_|(intro h;try first|exact dzi|replace h:=cvi)
  all_goals try exact cz
  refine⟨[0],[.ptr 0 0 0,.int .i64 w],[(0,rrB B a1 e1)],by exact rfl,⟨.refl _,.refl _,trivial⟩,⟨⟨by decide,_,rfl,.refl _⟩,trivial⟩,B,a1,e1,w,rfl,rfl,rfl,?_⟩
  repeat' first|refine And.intro ?_ ?_|(intro h;try first|exact dzi|replace h:=cvi)
  all_goals try exact cz
  exact⟨⟨[(6,.int .i64 (0:Nat))],[(0,rrB B a1 (if e1=0 then w else e1))],1⟩,Q0 [0] (by exact rfl) ⟨.refl _,trivial⟩ ⟨⟨by decide,_,rfl,.refl _⟩,trivial⟩,_,rfl,hP⟩
 ·rw[if_neg hv]at hP
  dsimp only at hP
  have hwv:wr .i64 ((v:Nat):Int)=(v:Nat):=wrI (by omega)
  have hx1:=hwm
  have hx2:=hwm
  have hx3:=hwm
  have hx4:=hwm
  repeat' first|refine And.intro ?_ ?_|(intro h;try first|exact dzi|replace h:=cvi)
  all_goals try exact cz
  exact⟨⟨[(6,.int .i64 (v:Nat))],[(0,rrB B a1 e1)],1⟩,Q0 [0] (by exact rfl) ⟨Qp hwv,trivial⟩ ⟨⟨by decide,_,rfl,.refl _⟩,trivial⟩,_,rfl,hP⟩
def BD:SpecT:=fun args H nx Post=>∃B a e most w,args=[.ptr 0 0 0,.int .i64 (most:Nat),.int .i64 w]∧H=[(0,rrB B a e)]∧nx=1∧(B.length≤1000000∧a≤B.length∧most≤2000000∧w≠0)∧Post (.int .i64 ((X6 most w B a e).1:Nat)) [(0,rrB B (X6 most w B a e).2.1 (X6 most w B a e).2.2)] 1
theorem My[Syms]:BD.ok Try.prog 31:=by
 rintro args H nx Post ⟨B,a,e,most,w,rfl,rfl,rfl,⟨h1,h2,h3,h4⟩,h⟩
 exact Qg Qh Qi Q3 TH Qt (PH B a e most w h1 h2 h3 h4 h)
end
section
set_option maxRecDepth 100000
set_option maxHeartbeats 4000000
theorem PP[Syms]{N:Nat}(b:List UInt8)(hb:0<b.length):Reb 0 N ⟨[(2,.ptr 0 0 0)],[(0,some (.cells [[.slice 1 0 b.length 1 none,.int .i64 0,.int .i64 0]] false)),(1,some (.cells (b.map encB) false))],2⟩ ⟨[(2,.ptr 0 0 0)],[(0,rrB b 0 0)],1⟩:=by
 have hs:FzV 1 (b.map encB) (.slice 1 0 b.length 1 none) (.vs 1 (b.map encB)):=by
  have:=FzV.sl (n:=1) (rows:=b.map encB) 0 b.length 1 none hb (by simp)
  rwa [List.drop_zero,List.take_of_length_le (by simp)]at this
 refine(QV (n:=1) (e3:=[(2,.ptr 0 0 0)]) (H3:=[(0,rrB b 0 0)]) rfl (fB b) ⟨.same _,trivial⟩ ⟨⟨by decide,_,rfl,.cells [[.slice 1 0 b.length 1 none,.int .i64 0,.int .i64 0]] [rrR b 0 0] false rfl (fun j r r' h h'=>?_)⟩,trivial⟩).trans (Q0 [0] rfl ⟨.refl _,trivial⟩ ⟨⟨by decide,_,rfl,.refl _⟩,trivial⟩)
 cases j with
 |zero=>
  cases h;cases h'
  exact⟨hs,.same _,.same _,trivial⟩
 |succ j=>simp at h
theorem PI[Syms]{Post:AVal→Heap→Nat→Prop}(b:List UInt8)(hl:b.length≤1000000)(hP:Post (.ptr 0 0 0) [(0,rrB b 0 0)] 1):
 fnT Q7 Q7 (Qv fns) (Qn tys) (Qz plt) 100 29 [vB b] [] 0 Post:=by
 have e:=XN encB 0 b
 have el:(ZZ b.length fun i=>encB (b.getD i 0)).length=b.length:=ZB _ _
 repeat' first|refine And.intro ?_ ?_|(intro h;try first|exact dz|replace h:=cv)
 all_goals try exact cz
 ·rw[e];exact Zv (enc:=encB) (z:=1) (fun _=>rfl) b
 ·have h0:b=[]:=List.eq_nil_of_length_eq_zero (by omega)
  subst h0
  exact⟨⟨[(2,.ptr 0 0 0)],[(0,rrB [] 0 0)],1⟩,Q0 [1] (by exact rfl) ⟨.refl _,trivial⟩ ⟨⟨by decide,_,rfl,QM (row:=rrR [] 0 0) ⟨.zero _ _ rfl,.refl _,.refl _,trivial⟩ (rrF [] 0 0)⟩,trivial⟩,_,rfl,hP⟩
 ·refine⟨⟨[(2,.ptr 0 0 0)],[(0,rrB b 0 0)],1⟩,?_,_,rfl,hP⟩
  have hw:ZZ b.length (fun i=>encB (b.getD i 0))=b.map encB:=e
  refine Reb.trans (s':=⟨[(2,.ptr 0 0 0)],[(0,some (.cells [[.slice 1 0 b.length 1 none,.int .i64 0,.int .i64 0]] false)),(1,some (.cells (b.map encB) false))],2⟩) (Q0 [2,1] (by exact rfl) ⟨.refl _,trivial⟩ ⟨⟨by decide,_,rfl,QB ⟨Q8 (by rw[el,Nat.zero_add]),.refl _,.refl _,trivial⟩⟩,⟨by decide,_,rfl,Q1 hw (fB _)⟩,trivial⟩) ?_
  exact PP b (by omega)
def BE:SpecT:=fun args H nx Post=>∃b:List UInt8,args=[vB b]∧H=[]∧nx=0∧b.length≤1000000∧Post (.ptr 0 0 0) [(0,rrB b 0 0)] 1
theorem C2[Syms]:BE.ok Try.prog 29:=by
 rintro args H nx Post ⟨b,rfl,rfl,rfl,h1,h⟩
 exact Qg Qh Qi Q3 Q9 Qt (PI b h1 h)
def WW(B:List UInt8)(a:Nat)(e:Int):Int:=if e=0∧a<B.length then 9 else e
theorem PK[Syms]{Post:AVal→Heap→Nat→Prop}(B:List UInt8)(a:Nat)(e:Int)(hB:B.length≤1000000)(ha:a≤B.length)(hP:Post (.int .i64 (WW B a e)) [(0,rrB B a e)] 1):
 fnT Q7 Q7 (Qv fns) (Qn tys) (Qz plt) 100 35 [.ptr 0 0 0] [(0,rrB B a e)] 1 Post:=by
 have hx1:(B.map encB).length=B.length:=List.length_map ..
 have hx2:=hx1
 have hx3:=hx1
 have hx4:=hx1
 unfold WW at hP
 by_cases h:e=0
 ·subst h
  by_cases h1:a<B.length
  ·rw[if_pos ⟨rfl,h1⟩]at hP
   have hd:(a:Int)<(B.length:Int):=by omega
   repeat' first|refine And.intro ?_ ?_|(intro h;try first|exact dzi|replace h:=cvi)
   all_goals try exact cz
   all_goals exact⟨⟨[(2,.int .i64 9)],[(0,rrB B a 0)],1⟩,Q0 [0] (by kernel_rfl) ⟨.refl _,trivial⟩ ⟨⟨by decide,_,rfl,.refl _⟩,trivial⟩,_,rfl,hP⟩
  ·rw[if_neg (fun k=>h1 k.2)]at hP
   have hd:¬(a:Int)<(B.length:Int):=by omega
   repeat' first|refine And.intro ?_ ?_|(intro h;try first|exact dzi|replace h:=cvi)
   all_goals try exact cz
   all_goals exact⟨⟨[(2,.int .i64 0)],[(0,rrB B a 0)],1⟩,Q0 [0] (by kernel_rfl) ⟨.refl _,trivial⟩ ⟨⟨by decide,_,rfl,.refl _⟩,trivial⟩,_,rfl,hP⟩
 ·rw[if_neg (fun k=>h k.1)]at hP
  repeat' first|refine And.intro ?_ ?_|(intro h;try first|exact dzi|replace h:=cvi)
  all_goals try exact cz
  all_goals exact⟨⟨[(2,.int .i64 e)],[(0,rrB B a e)],1⟩,Q0 [0] (by kernel_rfl) ⟨.refl _,trivial⟩ ⟨⟨by decide,_,rfl,.refl _⟩,trivial⟩,_,rfl,hP⟩
def BG:SpecT:=fun args H nx Post=>∃B a e,args=[.ptr 0 0 0]∧H=[(0,rrB B a e)]∧nx=1∧(B.length≤1000000∧a≤B.length)∧Post (.int .i64 (WW B a e)) [(0,rrB B a e)] 1
theorem C3[Syms]:BG.ok Try.prog 35:=by
 rintro args H nx Post ⟨B,a,e,rfl,rfl,rfl,⟨h1,h2⟩,h⟩
 exact Qg Qh Qi Q3 Q9 Qt (PK B a e h1 h2 h)
abbrev cRn:CallT:=Q6 31 (QD BD) Q7
theorem TB[Syms]:cRn.ok Try.prog:=Q4 My Q9
def plainP(B:List UInt8)(a:Nat)(e:Int):Nat×Nat×Int:=X6 1048576 14 B a e
theorem L8{B:List UInt8}{a:Nat}(e:Int)(ha:a≤B.length):ROP plainR plainP B a e:=M2 (by decide) e ha
theorem Q0t[Syms]{Post:AVal→Heap→Nat→Prop}(B:List UInt8)(a:Nat)(e:Int)(hB:B.length≤1000000)(ha:a≤B.length)(hP:Post (.int .i64 ((plainP B a e).1:Nat)) [(0,rrB B (plainP B a e).2.1 (plainP B a e).2.2)] 1):
 fnT Q7 cRn (Qv fns) (Qn tys) (Qz plt) 100 33 [.ptr 0 0 0] [(0,rrB B a e)] 1 Post:=by
 refine⟨[0],[.ptr 0 0 0,.int .i64 ((1048576:Nat):Int),.int .i64 14],[(0,rrB B a e)],by exact rfl,⟨.refl _,.refl _,.refl _,trivial⟩,⟨⟨by decide,_,rfl,.refl _⟩,trivial⟩,B,a,e,1048576,14,rfl,rfl,rfl,⟨hB,ha,by decide,by decide⟩,?_⟩
 replace hP:Post (.int .i64 ((X6 1048576 14 B a e).1:Nat)) [(0,rrB B (X6 1048576 14 B a e).2.1 (X6 1048576 14 B a e).2.2)] 1:=hP
 generalize X6 1048576 14 B a e=g at *
 obtain⟨v,a1,e1⟩:=g
 dsimp only at hP ⊢
 repeat' first|refine And.intro ?_ ?_|(intro h;try first|exact dz|replace h:=cv)
 all_goals try exact cz
 exact⟨⟨[(2,.int .i64 (v:Nat))],[(0,rrB B a1 e1)],1⟩,Q0 [0] (by exact rfl) ⟨.refl _,trivial⟩ ⟨⟨by decide,_,rfl,.refl _⟩,trivial⟩,_,rfl,hP⟩
def N0:SpecT:=fun args H nx Post=>∃B a e,args=[.ptr 0 0 0]∧H=[(0,rrB B a e)]∧nx=1∧(B.length≤1000000∧a≤B.length)∧Post (.int .i64 ((plainP B a e).1:Nat)) [(0,rrB B (plainP B a e).2.1 (plainP B a e).2.2)] 1
theorem Eu[Syms]:N0.ok Try.prog 33:=by
 rintro args H nx Post ⟨B,a,e,rfl,rfl,rfl,⟨h1,h2⟩,h⟩
 exact Qg Qh Qi Q3 TB Qt (Q0t B a e h1 h2 h)
theorem ZK{a b:Bool}(h:a=b):WkV (.bool a) (.bool b):=h▸ .refl _
theorem RO.truth{B:List UInt8}{a a1 v:Nat}{e e1:Int}(h:RO (Z0 1) B a e v a1 e1):RO truthR B a e v a1 (if 1<v then(if e1=0 then 10 else e1)else e1):=by
 have ht:truthR=QI (Z0 1) fun v r=>if 1<v then(0,Qs r 10)else(v,r):=by
  funext r;unfold truthR QI;rfl
 rw[ht]
 refine RO.bind (fun v=>?_) h ?_
 ·exact N9 1 10 v
 ·by_cases hv:1<v
  ·rw[if_pos hv]
   refine⟨h.1,?_,fun h0=>?_⟩
   ·unfold Qs
    dsimp only
    rw[if_pos hv]
    dsimp only
    split<;>rfl
   ·split at h0
    ·exact absurd h0 (by decide)
    ·rename_i hh;exact absurd h0 hh
  ·rw[if_neg hv]
   rw[show(fun r:BR=>if 1<v then(0,Qs r 10)else(v,r))=XJ v from by funext r;exact if_neg hv]
   exact RO.ret v h.1
theorem RO.map{α β:Type}{R:BR→α×BR}(f:α→β){B:List UInt8}{a a':Nat}{e e':Int}{v:α}(h:RO R B a e v a' e'):RO (fun r=>(f (R r).1,(R r).2)) B a e (f v) a' e':=
 ⟨h.1,h.2.1,fun h0=>by show(f (R ⟨B.drop a,e⟩).1,(R ⟨B.drop a,e⟩).2)=_;rw[h.2.2 h0]⟩
abbrev cRfl:CallT:=Q6 63 (QD BF) (Q6 61 (QD VF) Q7)
theorem RN[Syms]:cRfl.ok Try.prog:=Q4 Mz (Q4 Vv Q9)
def truthP(B:List UInt8)(a:Nat)(e:Int):Nat×Nat×Int:=((Xw 1 B a e).1,(Xw 1 B a e).2.1,if 1<(Xw 1 B a e).1 then(if(Xw 1 B a e).2.2=0 then 10 else(Xw 1 B a e).2.2)else(Xw 1 B a e).2.2)
theorem D0{B:List UInt8}{a:Nat}(e:Int)(ha:a≤B.length):ROP truthR truthP B a e:=RO.truth (M7 1 e ha)
theorem Np[Syms]{Post:AVal→Heap→Nat→Prop}(B:List UInt8)(a:Nat)(e:Int)(hB:B.length≤1000000)(ha:a≤B.length)(hP:Post (.bool (decide ((truthP B a e).1=1))) [(0,rrB B (truthP B a e).2.1 (truthP B a e).2.2)] 1):
 fnT Q7 cRfl (Qv fns) (Qn tys) (Qz plt) 100 65 [.ptr 0 0 0] [(0,rrB B a e)] 1 Post:=by
 refine⟨[0],[.ptr 0 0 0,.int .i64 ((1:Nat):Int)],[(0,rrB B a e)],by exact rfl,⟨.refl _,.refl _,trivial⟩,⟨⟨by decide,_,rfl,.refl _⟩,trivial⟩,B,a,e,1,rfl,rfl,rfl,⟨hB,ha,by decide⟩,?_⟩
 have hv:=Wv 1 B a e
 unfold truthP at hP
 generalize Xw 1 B a e=g at *
 obtain⟨v,a1,e1⟩:=g
 dsimp only at hP hv ⊢
 by_cases h1:1<v
 ·rw[if_pos h1,show decide (v=1)=false from decide_eq_false (by omega)]at hP
  repeat' first|refine And.intro ?_ ?_|(intro h;try first|exact dz|replace h:=cv)
  all_goals try exact cz
  refine⟨[0],[.ptr 0 0 0,.int .i64 10],[(0,rrB B a1 e1)],by exact rfl,⟨.refl _,.refl _,trivial⟩,⟨⟨by decide,_,rfl,.refl _⟩,trivial⟩,B,a1,e1,10,rfl,rfl,rfl,?_⟩
  repeat' first|refine And.intro ?_ ?_|(intro h;try first|exact dz|replace h:=cv)
  all_goals try exact cz
  exact⟨⟨[(2,.bool false)],[(0,rrB B a1 (if e1=0 then 10 else e1))],1⟩,Q0 [0] (by exact rfl) ⟨ZK (decide_eq_false (by omega)),trivial⟩ ⟨⟨by decide,_,rfl,.refl _⟩,trivial⟩,_,rfl,hP⟩
 ·rw[if_neg h1]at hP
  repeat' first|refine And.intro ?_ ?_|(intro h;try first|exact dz|replace h:=cv)
  all_goals try exact cz
  exact⟨⟨[(2,.bool (decide (v=1)))],[(0,rrB B a1 e1)],1⟩,Q0 [0] (by exact rfl) ⟨ZK (decide_eq_decide.2 (by omega)),trivial⟩ ⟨⟨by decide,_,rfl,.refl _⟩,trivial⟩,_,rfl,hP⟩
def P8:SpecT:=fun args H nx Post=>∃B a e,args=[.ptr 0 0 0]∧H=[(0,rrB B a e)]∧nx=1∧(B.length≤1000000∧a≤B.length)∧Post (.bool (decide ((truthP B a e).1=1))) [(0,rrB B (truthP B a e).2.1 (truthP B a e).2.2)] 1
theorem IU[Syms]:P8.ok Try.prog 65:=by
 rintro args H nx Post ⟨B,a,e,rfl,rfl,rfl,⟨h1,h2⟩,h⟩
 exact Qg Qh Qi Q3 RN Qt (Np B a e h1 h2 h)
end
section
set_option maxRecDepth 100000
set_option maxHeartbeats 4000000
theorem XW[Syms]{N k n nx:Nat}{en:Env}{H:Heap}{row' row:List AVal}{B:List UInt8}{a:Nat}{e:Int}{rs:List ResultVar}{Post:AVal→Heap→Nat→Prop}(hk:en.get k= .ptr n 0 0)(H0:H.get 0=rrB B a e)(Hn:H.get n=some (.cells [row'] false))(hrow:Ww row' row)(hf:∀x∈row,x.flat=true)
 (hn:QG 1 nx [0,n]=true) (hrs:Zc (Qn tys) ⟨[(k,.ptr 1 0 0)],[(0,rrB B a e),(1,some (.cells [row] false))],2⟩ rs=some (.agg row)) (hP:Post (.agg row) [(0,rrB B a e)] 2):
 ∃s3,Reb 1 N ⟨en,H,nx⟩ s3∧ ∃v,Zc (Qn tys) s3 rs=some v∧Vt Post v s3.heap s3.nx:=
 ⟨⟨[(k,.ptr 1 0 0)],[(0,rrB B a e),(1,some (.cells [row] false))],2⟩,Q0 [0,n] hn ⟨by rw[hk];exact .refl _,trivial⟩ ⟨⟨Nat.succ_pos _,_,H0,.refl _⟩,⟨Nat.lt_succ_self _,_,Hn,QM hrow hf⟩,trivial⟩,_,hrs,_,Hz,hP⟩
abbrev cRv:CallT:=Q6 63 (QD BF) (Q6 61 (QD VF) (Q6 31 (QD BD) (Q6 30 (QD FH) Q7)))
theorem Tz[Syms]:cRv.ok Try.prog:=Q4 Mz (Q4 Vv (Q4 My (Q4 JK Q9)))
def Wp(k:Int)(B:List UInt8)(a:Nat)(e:Int):Vl×Nat×Int:=
 if k=1 then(⟨((truthP B a e).1:Nat),[]⟩,(truthP B a e).2)else
 if k=2 then(⟨wr .i32 ((Xw 4 B a e).1:Nat),[]⟩,(Xw 4 B a e).2)else
 if k=3 then(⟨wr .i64 ((Xw 8 B a e).1:Nat),[]⟩,(Xw 8 B a e).2)else
 (⟨0,(ZL (X6 100 5 B a e).1 B (X6 100 5 B a e).2.1 (X6 100 5 B a e).2.2).1⟩,(ZL (X6 100 5 B a e).1 B (X6 100 5 B a e).2.1 (X6 100 5 B a e).2.2).2)
theorem N7(B:List UInt8)(a:Nat)(e:Int):Wp 1 B a e=(⟨((truthP B a e).1:Nat),[]⟩,(truthP B a e).2):=rfl
theorem N6(B:List UInt8)(a:Nat)(e:Int):Wp 2 B a e=(⟨wr .i32 ((Xw 4 B a e).1:Nat),[]⟩,(Xw 4 B a e).2):=rfl
theorem N5(B:List UInt8)(a:Nat)(e:Int):Wp 3 B a e=(⟨wr .i64 ((Xw 8 B a e).1:Nat),[]⟩,(Xw 8 B a e).2):=rfl
theorem N4{k:Int}(h:¬k=1∧ ¬k=2∧ ¬k=3)(B:List UInt8)(a:Nat)(e:Int):Wp k B a e=(⟨0,(ZL (X6 100 5 B a e).1 B (X6 100 5 B a e).2.1 (X6 100 5 B a e).2.2).1⟩,(ZL (X6 100 5 B a e).1 B (X6 100 5 B a e).2.1 (X6 100 5 B a e).2.2).2):=by
 unfold Wp
 rw[if_neg h.1,if_neg h.2.1,if_neg h.2.2]
theorem Pf(k:Int){B:List UInt8}{a:Nat}(e:Int)(ha:a≤B.length):ROP (Ym k) (Wp k) B a e:=by
 by_cases h1:k=1
 ·subst h1
  show RO _ B a e (Wp 1 B a e).1 _ _
  rw[N7]
  exact RO.map (fun n:Nat=>(⟨(n:Nat),[]⟩:Vl)) (D0 e ha)
 by_cases h2:k=2
 ·subst h2
  show RO _ B a e (Wp 2 B a e).1 _ _
  rw[N6]
  exact RO.map (fun n:Nat=>(⟨wr .i32 (n:Nat),[]⟩:Vl)) (M7 4 e ha)
 by_cases h3:k=3
 ·subst h3
  show RO _ B a e (Wp 3 B a e).1 _ _
  rw[N5]
  exact RO.map (fun n:Nat=>(⟨wr .i64 (n:Nat),[]⟩:Vl)) (M7 8 e ha)
 have h4:Ym k=QI (Qx 100 5) fun n=>QI (QC n) fun t=>XJ (⟨0,t⟩:Vl):=by
  funext r;exact DY ⟨h1,h2,h3⟩ r
 show RO _ B a e (Wp k B a e).1 _ _
 rw[h4,N4 ⟨h1,h2,h3⟩]
 have hr:=M2 (most:=100) (w:=5) (by decide) e ha
 have hr2:=Mj (X6 100 5 B a e).1 (X6 100 5 B a e).2.2 hr.1
 exact RO.bind (fun n=>Qj (S:=fun t=>XJ (⟨0,t⟩:Vl)) (YP n) fun t=>Z4 _) hr (RO.bind (fun t=>Z4 _) hr2 (RO.ret _ hr2.1))
theorem PF[Syms]{Post:AVal→Heap→Nat→Prop}(k:Int)(B:List UInt8)(a:Nat)(e:Int)(hB:B.length≤1000000)(ha:a≤B.length)(hP:Post (.agg (ZU (Wp k B a e).1)) [(0,rrB B (Wp k B a e).2.1 (Wp k B a e).2.2)] 2):
 fnT Q7 cRv (Qv fns) (Qn tys) (Qz plt) 100 66 [.ptr 0 0 0,.int .i64 k] [(0,rrB B a e)] 1 (Vt Post):=by
 by_cases h1:k=1
 ·subst h1
  repeat' first|refine And.intro ?_ ?_|(intro h;try first|exact dz|replace h:=cv)
  all_goals try exact cz
  refine⟨[0],[.ptr 0 0 0,.int .i64 ((1:Nat):Int)],[(0,rrB B a e)],by exact rfl,⟨.refl _,.refl _,trivial⟩,⟨⟨by decide,_,rfl,.refl _⟩,trivial⟩,B,a,e,1,rfl,rfl,rfl,⟨hB,ha,by decide⟩,?_⟩
  have hv:=Wv 1 B a e
  rw[N7]at hP
  unfold truthP at hP
  generalize Xw 1 B a e=g at *
  obtain⟨v,a1,e1⟩:=g
  dsimp only at hP hv ⊢
  have hw:wr .i64 ((v:Nat):Int)=(v:Nat):=wrI (by omega)
  have hx1:=hw
  have hx2:=hw
  have hx3:=hw
  have hx4:=hw
  by_cases h1:1<v
  ·rw[if_pos h1]at hP
   have hd:(1:Int)<(v:Int):=by omega
   repeat' first|refine And.intro ?_ ?_|(intro h;try first|exact dzi|replace h:=cvi)
   all_goals try exact cz
   refine⟨[0],[.ptr 0 0 0,.int .i64 10],[(0,rrB B a1 e1)],by exact rfl,⟨.refl _,.refl _,trivial⟩,⟨⟨by decide,_,rfl,.refl _⟩,trivial⟩,B,a1,e1,10,rfl,rfl,rfl,?_⟩
   repeat' first|refine And.intro ?_ ?_|(intro h;try first|exact dzi|replace h:=cvi)
   all_goals try exact cz
   exact XW (k:=4) (n:=1) (row:=ZU ⟨(v:Nat),[]⟩) rfl rfl rfl ⟨Qp hw,.refl _,trivial⟩ (fV _) (by first|rfl|kernel_rfl) rfl hP
  ·rw[if_neg h1]at hP
   have hd:¬(1:Int)<(v:Int):=by omega
   repeat' first|refine And.intro ?_ ?_|(intro h;try first|exact dzi|replace h:=cvi)
   all_goals try exact cz
   exact XW (k:=4) (n:=1) (row:=ZU ⟨(v:Nat),[]⟩) rfl rfl rfl ⟨Qp hw,.refl _,trivial⟩ (fV _) (by first|rfl|kernel_rfl) rfl hP
 by_cases h2:k=2
 ·subst h2
  repeat' first|refine And.intro ?_ ?_|(intro h;try first|exact dz|replace h:=cv)
  all_goals try exact cz
  refine⟨[0],[.ptr 0 0 0,.int .i64 ((4:Nat):Int)],[(0,rrB B a e)],by exact rfl,⟨.refl _,.refl _,trivial⟩,⟨⟨by decide,_,rfl,.refl _⟩,trivial⟩,B,a,e,4,rfl,rfl,rfl,⟨hB,ha,by decide⟩,?_⟩
  have hv:=Wv 4 B a e
  rw[N6]at hP
  generalize Xw 4 B a e=g at *
  obtain⟨v,a1,e1⟩:=g
  dsimp only at hP hv ⊢
  have hw:wr .u32 ((v:Nat):Int)=(v:Nat):=by
   have hv:v<4294967296:=hv
   unfold wr
   exact if_pos ⟨Int.natCast_nonneg v,show((v:Nat):Int)≤4294967295 by omega⟩
  repeat' first|refine And.intro ?_ ?_|(intro h;try first|exact dz|replace h:=cv)
  all_goals try exact cz
  exact XW (k:=4) (n:=1) (row:=ZU ⟨wr .i32 (v:Nat),[]⟩) rfl rfl rfl ⟨Qp (by rw[hw];exact Sw _),.refl _,trivial⟩ (fV _) (by first|rfl|kernel_rfl) rfl hP
 by_cases h3:k=3
 ·subst h3
  repeat' first|refine And.intro ?_ ?_|(intro h;try first|exact dz|replace h:=cv)
  all_goals try exact cz
  refine⟨[0],[.ptr 0 0 0,.int .i64 ((8:Nat):Int)],[(0,rrB B a e)],by exact rfl,⟨.refl _,.refl _,trivial⟩,⟨⟨by decide,_,rfl,.refl _⟩,trivial⟩,B,a,e,8,rfl,rfl,rfl,⟨hB,ha,by decide⟩,?_⟩
  rw[N5]at hP
  generalize Xw 8 B a e=g at *
  obtain⟨v,a1,e1⟩:=g
  dsimp only at hP ⊢
  repeat' first|refine And.intro ?_ ?_|(intro h;try first|exact dz|replace h:=cv)
  all_goals try exact cz
  exact XW (k:=4) (n:=1) (row:=ZU ⟨wr .i64 (v:Nat),[]⟩) rfl rfl rfl ⟨.refl _,.refl _,trivial⟩ (fV _) (by first|rfl|kernel_rfl) rfl hP
 rw[N4 ⟨h1,h2,h3⟩]at hP
 repeat' first|refine And.intro ?_ ?_|(intro h;try first|exact dz|replace h:=cv)
 all_goals try exact cz
 refine⟨[0],[.ptr 0 0 0,.int .i64 ((100:Nat):Int),.int .i64 5],[(0,rrB B a e)],by exact rfl,⟨.refl _,.refl _,.refl _,trivial⟩,⟨⟨by decide,_,rfl,.refl _⟩,trivial⟩,B,a,e,100,5,rfl,rfl,rfl,⟨hB,ha,by decide,by decide⟩,?_⟩
 have hr:=(M2 (most:=100) (w:=5) (by decide) e ha).1
 have hv:=Ws 100 5 B a e
 generalize X6 100 5 B a e=g at *
 obtain⟨v,a1,e1⟩:=g
 dsimp only at hP hv hr ⊢
 repeat' first|refine And.intro ?_ ?_|(intro h;try first|exact dz|replace h:=cv)
 all_goals try exact cz
 refine⟨[0],[.ptr 0 0 0,.int .i64 (v:Nat)],[(0,rrB B a1 e1)],by exact rfl,⟨.refl _,.refl _,trivial⟩,⟨⟨by decide,_,rfl,.refl _⟩,trivial⟩,B,a1,e1,v,rfl,rfl,rfl,⟨hB,hr,by omega⟩,?_⟩
 generalize ZL v B a1 e1=g at *
 obtain⟨t,a2,e2⟩:=g
 dsimp only at hP ⊢
 repeat' first|refine And.intro ?_ ?_|(intro h;try first|exact dz|replace h:=cv)
 all_goals try exact cz
 ·exact(Vq t).1
 exact XW (k:=4) (n:=1) (row:=ZU ⟨0,t⟩) rfl rfl rfl ⟨.refl _,Ei (Vq t).2,trivial⟩ (fV _) (by first|rfl|kernel_rfl) rfl hP
def Sb:SpecT:=fun args H nx Post=>∃k B a e,args=[.ptr 0 0 0,.int .i64 k]∧H=[(0,rrB B a e)]∧nx=1∧(B.length≤1000000∧a≤B.length)∧Post (.agg (ZU (Wp k B a e).1)) [(0,rrB B (Wp k B a e).2.1 (Wp k B a e).2.2)] 2
theorem Nn[Syms]:Sb.ok Try.prog 66:=by
 rintro args H nx Post ⟨k,B,a,e,rfl,rfl,rfl,⟨h1,h2⟩,h⟩
 exact XB.forget (Qg Qh Qi Q3 Tz Qt (PF k B a e h1 h2 h))
end
abbrev Rdr(α:Type):Type:=List UInt8→Nat→Int→α×Nat×Int
def Zi{α β:Type}(P:Rdr α)(Q:α→Rdr β):Rdr β:=fun B a e=>Q (P B a e).1 B (P B a e).2.1 (P B a e).2.2
def U2{α:Type}(v:α):Rdr α:=fun _ a e=>(v,a,e)
def ROA{α:Type}(R:BR→α×BR)(P:Rdr α):Prop:=∀(B:List UInt8) (a:Nat) (e:Int),a≤B.length→ROP R P B a e
theorem ROA.bind{α β:Type}{R:BR→α×BR}{S:α→BR→β×BR}{P:Rdr α}{Q:α→Rdr β}(hS:∀v,Rd (S v))(h1:ROA R P)(h2:∀v,ROA (S v) (Q v)):ROA (QI R S) (Zi P Q):=
 fun B a e ha=>RO.bind hS (h1 B a e ha) (h2 _ B _ _ (h1 B a e ha).1)
theorem ROA.ret{α:Type}(v:α):ROA (XJ v) (U2 v):=fun B a e ha=>RO.ret v ha
theorem Z1:ROA plainR plainP:=fun B a e ha=>L8 e ha
theorem V6(n:Nat):ROA (Z0 n) (Xw n):=fun B a e ha=>M7 n e ha
theorem Wx:ROA truthR truthP:=fun B a e ha=>D0 e ha
theorem GX(k:Int):ROA (Ym k) (Wp k):=fun B a e ha=>Pf k e ha
theorem Yj{most:Nat}{w:Int}(hw:w≠0):ROA (Qx most w) (X6 most w):=fun B a e ha=>M2 hw e ha
def pageP:Rdr Pg:=Zi plainP fun a=>Zi plainP fun b=>Zi plainP fun c=>Zi plainP fun d=>Zi plainP fun e=>Zi plainP fun f=>Zi (Xw 4) fun g=>U2 ⟨a,b,c,d,e,f,g⟩
theorem NI:ROA pageR pageP:=by
 have rg:=fun(a b c d e f:Nat)=>Qj (S:=fun g:Nat=>XJ (⟨a,b,c,d,e,f,g⟩:Pg)) (WO 4) fun g=>Z4 _
 have rf:=fun(a b c d e:Nat)=>Qj ZI fun f=>rg a b c d e f
 have re:=fun(a b c d:Nat)=>Qj ZI fun e=>rf a b c d e
 have rd:=fun(a b c:Nat)=>Qj ZI fun d=>re a b c d
 have rc:=fun(a b:Nat)=>Qj ZI fun c=>rd a b c
 have rb:=fun(a:Nat)=>Qj ZI fun b=>rc a b
 exact ROA.bind rb Z1 fun a=>ROA.bind (rc a) Z1 fun b=>ROA.bind (rd a b) Z1 fun c=>ROA.bind (re a b c) Z1 fun d=>ROA.bind (rf a b c d) Z1 fun e=>ROA.bind (rg a b c d e) Z1 fun f=>ROA.bind (fun g=>Z4 _) (V6 4) fun g=>ROA.ret _
def WK:Nat→List Pg→Rdr (List Pg)
 |0,s=>U2 s
 |k+1,s=>fun B a e=>if e≠0 then(s,a,e)else WK k (s++[(pageP B a e).1]) B (pageP B a e).2.1 (pageP B a e).2.2
def Kf{α:Type}(d:α)(P:Rdr α):Rdr α:=fun B a e=>if e≠0 then(d,a,e)else P B a e
theorem ROA.guard{α:Type}(d:α){R:BR→α×BR}{P:Rdr α}(h1:ROA R P)(hr:Rd R):ROA (F6 d R) (Kf d P):=fun B a e ha=>by
 by_cases h:e=0
 ·subst h
  have e1:Kf d P B a 0=P B a 0:=if_neg (fun k=>k rfl)
  have e2:F6 d R ⟨B.drop a,0⟩=R ⟨B.drop a,0⟩:=if_neg (fun k=>k rfl)
  have h2:=h1 B a 0 ha
  unfold ROP RO at h2 ⊢
  rw[e1,e2];exact h2
 ·have e1:Kf d P B a e=(d,a,e):=if_pos h
  unfold ROP
  rw[e1]
  exact RO.bad (Uh d hr) h ha
theorem Dh:∀(k:Nat) (s:List Pg),ROA (fun r=>ZC k r s) (WK k s)
 |0,s=>ROA.ret s
 |k+1,s=>ROA.guard s (ROA.bind (R:=pageR) (S:=fun p r=>ZC k r (s++[p])) (fun p=>Uc k _) NI fun p=>Dh k _) (Qj (R:=pageR) (S:=fun p r=>ZC k r (s++[p])) HV fun p=>Uc k _)
def Kc(k:Int)(n:Nat):Nat→Rdr (Bool×Sta):=fun h=>if h≠1 then U2 (true,⟨n,false,default,default⟩)else Zi (Wp k) fun a=>Zi (Wp k) fun b=>U2 (true,⟨n,true,a,b⟩)
def KW(k:Int):Rdr (Bool×Sta):=Zi truthP fun t=>if t≠1 then U2 (false,default)else Zi plainP fun n=>Zi truthP fun h=>Kc k n h
def JV(k:Int)(n:Nat):Nat→BR→(Bool×Sta)×BR:=fun h=>if h≠1 then XJ (true,(⟨n,false,default,default⟩:Sta))else QI (Ym k) fun a=>QI (Ym k) fun b=>XJ (true,(⟨n,true,a,b⟩:Sta))
def F0(k:Int):Nat→BR→(Bool×Sta)×BR:=fun t=>if t≠1 then XJ (false,default)else QI plainR fun n=>QI truthR fun h=>JV k n h
theorem ER(k:Int):YC k=QI truthR fun t=>F0 k t:=by
 funext r
 unfold F0 JV YC QI
 dsimp only
 split
 ·rfl
 ·dsimp only
  split<;>rfl
theorem MZ(k:Int)(n h:Nat):Rd (JV k n h):=by
 unfold JV
 split
 ·exact Z4 _
 ·exact Qj (Mi k) fun a=>Qj (Mi k) fun b=>Z4 _
theorem O8(k:Int)(t:Nat):Rd (F0 k t):=by
 unfold F0
 split
 ·exact Z4 _
 ·exact Qj ZI fun n=>Qj U7 fun h=>MZ k n h
theorem Lp(k:Int)(n h:Nat):ROA (JV k n h) (Kc k n h):=by
 unfold JV Kc
 split
 ·exact ROA.ret _
 ·exact ROA.bind (fun a=>Qj (Mi k) fun b=>Z4 _) (GX k) fun a=>ROA.bind (fun b=>Z4 _) (GX k) fun b=>ROA.ret _
theorem O7(k:Int):ROA (YC k) (KW k):=by
 rw[ER]
 refine ROA.bind (O8 k) Wx fun t=>?_
 unfold F0
 split
 ·exact ROA.ret _
 ·exact ROA.bind (fun n=>Qj U7 fun h=>MZ k n h) Z1 fun n=>ROA.bind (fun h=>MZ k n h) Wx fun h=>Lp k n h
def ck0P:Rdr (Nat×Nat×Nat):=Zi plainP fun a=>Zi plainP fun b=>Zi (Xw 4) fun c=>U2 (a,b,c)
theorem RF:ROA ckR0 ck0P:=
 ROA.bind (R:=plainR) (S:=fun a=>QI plainR fun b=>QI (Z0 4) fun c=>XJ (a,b,c)) (fun a=>Qj ZI fun b=>Qj (WO 4) fun c=>Z4 _) Z1 fun a=>ROA.bind (fun b=>Qj (WO 4) fun c=>Z4 _) Z1 fun b=>ROA.bind (fun c=>Z4 _) (V6 4) fun c=>ROA.ret _
def VU(k:Int):Rdr Ck:=Zi ck0P fun a=>Zi (X6 200 4) fun n=>Zi (WK n []) fun p=>Zi (KW k) fun q=>U2 ⟨a.1,a.2.1,a.2.2,p,q.1,q.2⟩
theorem Ga(k:Int):ROA (Zl k) (VU k):=by
 have e:Zl k=QI ckR0 (fun a=>QI (Qx 200 4) fun n=>QI (fun r=>ZC n r []) fun p=>QI (YC k) fun q=>XJ (⟨a.1,a.2.1,a.2.2,p,q.1,q.2⟩:Ck)):=by
  funext r;simp only[Zl,QI,XJ]
 rw[e]
 have r4:=fun(a:Nat×Nat×Nat) (p:List Pg) (q:Bool×Sta)=>Z4 (⟨a.1,a.2.1,a.2.2,p,q.1,q.2⟩:Ck)
 have r3:=fun(a:Nat×Nat×Nat) (p:List Pg)=>Qj (I8 k) fun q=>r4 a p q
 have r2:=fun(a:Nat×Nat×Nat) (n:Nat)=>Qj (Uc n []) fun p=>r3 a p
 have r1:=fun(a:Nat×Nat×Nat)=>Qj (Vg 200 4 (by decide)) fun n=>r2 a n
 exact ROA.bind r1 RF fun a=>ROA.bind (r2 a) (Yj (by decide)) fun n=>ROA.bind (r3 a) (Dh n []) fun p=>ROA.bind (r4 a p) (O7 k) fun q=>ROA.ret _
def Y4:List Int→List Ck→Rdr (List Ck)
 |[],s=>U2 s
 |k::ks,s=>Kf s (Zi (VU k) fun c=>Y4 ks (s++[c]))
theorem Fn:∀(ks:List Int) (s:List Ck),ROA (fun r=>Z6 ks r s) (Y4 ks s)
 |[],s=>ROA.ret s
 |k::ks,s=>ROA.guard s (ROA.bind (R:=Zl k) (S:=fun p r=>Z6 ks r (s++[p])) (fun p=>VE ks _) (Ga k) fun p=>Fn ks _) (Qj (R:=Zl k) (S:=fun p r=>Z6 ks r (s++[p])) (CX k) fun p=>VE ks _)
def JY(ks:List Int):Rdr Rw:=Zi plainP fun a=>Zi (Y4 ks []) fun c=>U2 ⟨a,c⟩
theorem Lt(ks:List Int):ROA (Ze ks) (JY ks):=
 ROA.bind (R:=plainR) (S:=fun a=>QI (fun r=>Z6 ks r []) fun c=>XJ (⟨a,c⟩:Rw)) (fun a=>Qj (VE ks []) fun c=>Z4 _) Z1 fun a=>ROA.bind (fun c=>Z4 _) (Fn ks []) fun c=>ROA.ret _
def Xv(ks:List Int):Nat→List Rw→Rdr (List Rw)
 |0,s=>U2 s
 |k+1,s=>Kf s (Zi (JY ks) fun c=>Xv ks k (s++[c]))
theorem F7(ks:List Int):∀(k:Nat) (s:List Rw),ROA (fun r=>Z3 ks k r s) (Xv ks k s)
 |0,s=>ROA.ret s
 |k+1,s=>ROA.guard s (ROA.bind (R:=Ze ks) (S:=fun p r=>Z3 ks k r (s++[p])) (fun p=>WC ks k _) (Lt ks) fun p=>F7 ks k _) (Qj (R:=Ze ks) (S:=fun p r=>Z3 ks k r (s++[p])) (CF ks) fun p=>WC ks k _)
theorem Je:∀(ks:List Int) (r:BR) (s:List Ck),(Z6 ks r s).2.e=0→(Z6 ks r s).1.length=s.length+ks.length
 |[],r,s,_=>rfl
 |k::ks,r,s,h=>by
  rw[Z6]at h ⊢
  by_cases hr:r.e=0
  ·rw[if_neg (fun x=>x hr)]at h ⊢
   rw[Je ks _ _ h,List.length_append,List.length_cons,List.length_cons,List.length_nil];omega
  ·rw[if_pos hr]at h
   exact absurd h hr
theorem CG(ks:List Int)(r:BR)(h:(Ze ks r).2.e=0):(Ze ks r).1.chunks.length=ks.length:=by
 have:=Je ks (plainR r).2 [] h
 simpa[Ze]using this
theorem KZ(ks:List Int):∀(n:Nat) (r:BR) (s:List Rw),(Z3 ks n r s).2.e=0→(∀g∈s,g.chunks.length=ks.length)→ ∀g∈(Z3 ks n r s).1,g.chunks.length=ks.length
 |0,r,s,_,hs=>hs
 |n+1,r,s,h,hs=>by
  rw[Z3]at h ⊢
  by_cases hr:r.e=0
  ·rw[if_neg (fun x=>x hr)]at h ⊢
   refine KZ ks n _ _ h fun g hg=>?_
   rcases List.mem_append.1 hg with hg|hg
   ·exact hs g hg
   ·rw[List.mem_singleton.1 hg]
    refine CG ks r ?_
    by_cases he:(Ze ks r).2.e=0
    ·exact he
    ·have:=(WC ks n (s++[(Ze ks r).1])).stick (Ze ks r).2 he
     exact absurd ((show(Z3 ks n (Ze ks r).2 (s++[(Ze ks r).1])).2.e=(Ze ks r).2.e by rw[this]).symm.trans h) he
  ·rw[if_pos hr]at h
   exact absurd h hr
theorem BO(k:Int)(r:BR):(Ym k r).1.s.length≤100:=by
 unfold Ym
 split
 ·exact Nat.zero_le _
 ·split
  ·exact Nat.zero_le _
  ·split
   ·exact Nat.zero_le _
   ·have h:=Zo (m:=100) (w:=5) (by decide) r
    show(QC (Qx 100 5 r).1 (Qx 100 5 r).2).1.length≤100
    rcases D1 (Qx 100 5 r).1 (Qx 100 5 r).2 with h2|h2
    ·omega
    ·rw[h2];exact Nat.zero_le _
def VY(c:Ck):Prop:=c.st.mn.s.length≤100∧c.st.mx.s.length≤100
theorem H9(k:Int)(r:BR):VY (Zl k r).1:=by
 have hk:∀r,(YC k r).1.2.mn.s.length≤100∧(YC k r).1.2.mx.s.length≤100:=by
  intro r
  unfold YC
  dsimp only
  split
  ·exact⟨Nat.zero_le _,Nat.zero_le _⟩
  ·split
   ·exact⟨Nat.zero_le _,Nat.zero_le _⟩
   ·exact⟨BO _ _,BO _ _⟩
 have h:=hk (ZC (Qx 200 4 (ckR0 r).2).1 (Qx 200 4 (ckR0 r).2).2 []).2
 unfold VY Zl
 dsimp only
 exact h
theorem GG:∀(ks:List Int) (r:BR) (s:List Ck),(∀c∈s,VY c)→ ∀c∈(Z6 ks r s).1,VY c
 |[],r,s,hs=>hs
 |k::ks,r,s,hs=>by
  rw[Z6]
  split
  ·exact hs
  ·refine GG ks _ _ fun c hc=>?_
   rcases List.mem_append.1 hc with hc|hc
   ·exact hs c hc
   ·rw[List.mem_singleton.1 hc];exact H9 k r
theorem Gx(ks:List Int):∀(n:Nat) (r:BR) (s:List Rw),(∀g∈s,∀c∈g.chunks,VY c)→ ∀g∈(Z3 ks n r s).1,∀c∈g.chunks,VY c
 |0,r,s,hs=>hs
 |n+1,r,s,hs=>by
  rw[Z3]
  split
  ·exact hs
  ·refine Gx ks n _ _ fun g hg=>?_
   rcases List.mem_append.1 hg with hg|hg
   ·exact hs g hg
   ·rw[List.mem_singleton.1 hg]
    exact GG ks _ [] (fun c hc=>nomatch hc)
def fldP:Rdr Fd:=Zi (Xw 1) fun a=>Zi (Xw 1) fun b=>Zi (X6 40 14) fun c=>Zi (X6 12 5) fun d=>Zi (ZL d) fun t=>U2 ⟨t,a,b,c⟩
theorem KC(n:Nat):ROA (QC n) (ZL n):=fun B a e ha=>Mj n e ha
theorem CM:Rd fieldR:=
 Qj (R:=Z0 1) (S:=fun a=>QI (Z0 1) fun b=>QI (Qx 40 14) fun c=>QI (Qx 12 5) fun d=>QI (QC d) fun t=>XJ (⟨t,a,b,c⟩:Fd)) (WO 1) fun a=>Qj (WO 1) fun b=>Qj (Vg _ _ (by decide)) fun c=>Qj (Vg _ _ (by decide)) fun d=>Qj (YP d) fun t=>Z4 _
theorem LB:ROA fieldR fldP:=by
 have re:=fun(a b c d:Nat)=>Qj (S:=fun t=>XJ (⟨t,a,b,c⟩:Fd)) (YP d) fun t=>Z4 _
 have rd:=fun(a b c:Nat)=>Qj (Vg 12 5 (by decide)) fun d=>re a b c d
 have rc:=fun(a b:Nat)=>Qj (Vg 40 14 (by decide)) fun c=>rd a b c
 have rb:=fun(a:Nat)=>Qj (WO 1) fun b=>rc a b
 exact ROA.bind rb (V6 1) fun a=>ROA.bind (rc a) (V6 1) fun b=>ROA.bind (rd a b) (Yj (by decide)) fun c=>ROA.bind (re a b c) (Yj (by decide)) fun d=>ROA.bind (fun t=>Z4 _) (KC d) fun t=>ROA.ret _
theorem UH:∀(k:Nat) (s:List Fd),Rd fun r=>Z8 k r s
 |0,s=>Z4 s
 |k+1,s=>Uh s (Qj (R:=fieldR) (S:=fun p r=>Z8 k r (s++[p])) CM fun p=>UH k _)
def Uk:Nat→List Fd→Rdr (List Fd)
 |0,s=>U2 s
 |k+1,s=>Kf s (Zi fldP fun c=>Uk k (s++[c]))
theorem Fh:∀(k:Nat) (s:List Fd),ROA (fun r=>Z8 k r s) (Uk k s)
 |0,s=>ROA.ret s
 |k+1,s=>ROA.guard s (ROA.bind (R:=fieldR) (S:=fun p r=>Z8 k r (s++[p])) (fun p=>UH k _) LB fun p=>Fh k _) (Qj (R:=fieldR) (S:=fun p r=>Z8 k r (s++[p])) CM fun p=>UH k _)
def allFP:Rdr (List Fd):=Zi (X6 40 4) fun n=>Uk n []
theorem P6:ROA (QI (Qx 40 4) fun n r=>Z8 n r []) allFP:=ROA.bind (fun n=>UH n []) (Yj (by decide)) fun n=>Fh n []
def KN(b:List UInt8):List Fd×Int:=
 let q:=allFP b 0 0
 let e:=if WW b q.2.1 q.2.2=0 then QZ q.1 else WW b q.2.1 q.2.2
 if e≠0 then([],e)else(q.1,0)
theorem J8{b:List UInt8}{a:Nat}(h:a≤b.length):(b.drop a=[]↔ ¬a<b.length):=by
 constructor
 ·intro h1 h2
  have:=congrArg List.length h1
  rw[List.length_drop]at this
  simp at this;omega
 ·intro h1
  exact List.drop_eq_nil_of_le (by omega)
theorem EG(b:List UInt8):KN b=Zt b:=by
 have h:=P6 b 0 0 (Nat.zero_le _)
 have e0:Zt b=V8 ((QI (Qx 40 4) fun n r=>Z8 n r []) ⟨b.drop 0,0⟩).1 ((QI (Qx 40 4) fun n r=>Z8 n r []) ⟨b.drop 0,0⟩).2:=rfl
 rw[e0]
 unfold KN
 obtain⟨h1,h2,h3⟩:=h
 generalize allFP b 0 0=q at *
 obtain⟨s,a,e⟩:=q
 dsimp only at h1 h2 h3 ⊢
 generalize(QI (Qx 40 4) fun n r=>Z8 n r []) ⟨b.drop 0,0⟩=p at *
 obtain⟨s',b',e'⟩:=p
 have h2:e'=e:=h2
 subst h2
 dsimp only
 by_cases he:e'=0
 ·have h4:=h3 he
  subst he
  injection h4 with h5 h6
  injection h6 with h6 h7
  subst h5 h6
  by_cases hl:a<b.length
  ·have hb:b.drop a≠[]:=fun k=>(J8 h1).1 k hl
   rw[Ki hb,show WW b a 0=9 from if_pos ⟨rfl,hl⟩];rfl
  ·rw[(J8 h1).2 hl,G3,show WW b a 0=0 from if_neg (fun k=>hl k.2),if_pos rfl]
 ·have:WW b a e'=e':=if_neg (fun k=>he k.1)
  rw[this,if_neg he,if_pos he,VB (r:=⟨b',e'⟩) he]
def Mk(s:List Fd):Rdr Mt:=Zi plainP fun n=>Zi (X6 200 4) fun k=>Zi (Xv (QR s) k []) fun g=>U2 ⟨s,n,g⟩
def Gq(s:List Fd):BR→Mt×BR:=QI plainR fun n=>QI (Qx 200 4) fun k=>QI (fun r=>Z3 (QR s) k r []) fun g=>XJ ⟨s,n,g⟩
theorem Pt(s:List Fd):Rd (Gq s):=Qj ZI fun n=>Qj (Vg _ _ (by decide)) fun k=>Qj (WC _ k []) fun g=>Z4 _
theorem BW(s:List Fd):ROA (Gq s) (Mk s):=by
 have rc:=fun(n k:Nat)=>Qj (S:=fun g=>XJ (⟨s,n,g⟩:Mt)) (WC (QR s) k []) fun g=>Z4 _
 have rb:=fun(n:Nat)=>Qj (Vg 200 4 (by decide)) fun k=>rc n k
 exact ROA.bind rb Z1 fun n=>ROA.bind (rc n) (Yj (by decide)) fun k=>ROA.bind (fun g=>Z4 _) (F7 (QR s) k []) fun g=>ROA.ret _
def hdP:Rdr (List UInt8):=Zi (X6 2000 5) fun n=>ZL n
theorem Od:ROA (QI (Qx 2000 5) fun n=>QC n) hdP:=ROA.bind (fun n=>YP n) (Yj (by decide)) fun n=>KC n
def Fm(b:List UInt8)(q:Mt×Nat×Int):Mt×Int:=
 let e:=if WW b q.2.1 q.2.2=0∧Zz q.1=false then 10 else WW b q.2.1 q.2.2
 if e≠0 then(mt0,e)else(q.1,0)
theorem G7{b:List UInt8}{m:Mt}{a:Nat}{e:Int}(h:e≠0):Fm b (m,a,e)=(mt0,e):=by
 have he:WW b a e=e:=if_neg (fun k=>h k.1)
 unfold Fm
 simp only[he,h,false_and,if_false,ne_eq,not_false_eq_true,if_true]
theorem Km{b:List UInt8}{m:Mt}{a:Nat}(h:a<b.length):Fm b (m,a,0)=(mt0,9):=by
 have he:WW b a 0=9:=if_pos ⟨rfl,h⟩
 unfold Fm
 simp[he]
theorem G6{b:List UInt8}{m:Mt}{a:Nat}(h:¬a<b.length):Fm b (m,a,0)=if Zz m=false then(mt0,10)else(m,0):=by
 have he:WW b a 0=0:=if_neg (fun k=>h k.2)
 unfold Fm
 cases hw:Zz m<;>simp[he,hw]
def M0(b:List UInt8):Mt×Int:=
 let t:=hdP b 0 0
 if t.2.2≠0 then(mt0,t.2.2)else
 let p:=Zt t.1
 if p.2≠0 then(mt0,p.2)else Fm b (Mk p.1 b t.2.1 0)
theorem NW(r:BR):WM r=QI (QI (Qx 2000 5) fun n=>QC n) (fun t r=>if r.e≠0 then(mt0,r)else Gq (Zt t).1 (Qs r (Zt t).2)) r:=rfl
theorem EH(b:List UInt8):M0 b=YQ b:=by
 have h:=Od b 0 0 (Nat.zero_le _)
 have e0:YQ b=GB (WM ⟨b.drop 0,0⟩):=rfl
 rw[e0,NW]
 unfold M0 QI
 obtain⟨h1,h2,h3⟩:=h
 unfold QI at h2 h3
 generalize hdP b 0 0=q at *
 obtain⟨t,a,e⟩:=q
 dsimp only at h1 h2 h3 ⊢
 generalize QC (Qx 2000 5 ⟨b.drop 0,0⟩).1 (Qx 2000 5 ⟨b.drop 0,0⟩).2=p at *
 obtain⟨t',b',e'⟩:=p
 have h2:e'=e:=h2
 subst h2
 dsimp only
 by_cases he:e'=0
 ·have h4:=h3 he
  subst he
  injection h4 with h5 h6
  injection h6 with h6 h7
  subst h5 h6
  have hz:¬((0:Int)≠0):=fun k=>k rfl
  simp only[if_neg hz]
  generalize Zt t'=p
  obtain⟨s,x⟩:=p
  dsimp only
  by_cases hx:x=0
  ·subst hx
   simp only[if_neg hz,show Qs ⟨b.drop a,0⟩ 0=⟨b.drop a,0⟩ from rfl]
   obtain⟨k1,k2,k3⟩:=BW s b a 0 h1
   generalize Mk s b a 0=q at *
   obtain⟨m,a1,e1⟩:=q
   dsimp only at k1 k2 k3
   generalize Gq s ⟨b.drop a,0⟩=p at *
   obtain⟨m',b1,e1'⟩:=p
   have k2:e1'=e1:=k2
   subst k2
   by_cases he:e1'=0
   ·have k4:=k3 he
    subst he
    injection k4 with k5 k6
    injection k6 with k6 k7
    subst k5 k6
    by_cases hl:a1<b.length
    ·rw[Fg (fun k=>(J8 k1).1 k hl),Km hl]
    ·rw[(J8 k1).2 hl,G4,G6 hl]
   ·rw[G7 he,VC he]
  ·rw[if_pos hx,show Qs ⟨b.drop a,0⟩ x=⟨b.drop a,x⟩ from rfl]
   have hs:=(Pt s).stick ⟨b.drop a,x⟩ hx
   generalize Gq s ⟨b.drop a,x⟩=p at *
   obtain⟨m',b1,e1⟩:=p
   have hs:e1=x:=hs
   subst hs
   exact(VC hx).symm
 ·rw[if_pos he,if_pos he]
  exact(VC he).symm
theorem Pu{s:List Fd}(hs:We s∧s.length≤40){b:List UInt8}{a:Nat}(ha:a≤b.length)(h:(Mk s b a 0).2.2=0):RWhOk (Mk s b a 0).1:=by
 obtain⟨k1,k2,k3⟩:=BW s b a 0 ha
 have k4:=k3 h
 have hm:(Gq s ⟨b.drop a,0⟩).1=(Mk s b a 0).1:=congrArg Prod.fst k4
 have he:(Gq s ⟨b.drop a,0⟩).2.e=0:=by rw[k2];exact h
 rw[←hm]
 have hg:Gq s ⟨b.drop a,0⟩=(⟨s,(plainR ⟨b.drop a,0⟩).1,(Z3 (QR s) (Qx 200 4 (plainR ⟨b.drop a,0⟩).2).1 (Qx 200 4 (plainR ⟨b.drop a,0⟩).2).2 []).1⟩,(Z3 (QR s) (Qx 200 4 (plainR ⟨b.drop a,0⟩).2).1 (Qx 200 4 (plainR ⟨b.drop a,0⟩).2).2 []).2):=rfl
 have h4:=Zo (m:=200) (w:=4) (by decide) (plainR ⟨b.drop a,0⟩).2
 rw[hg]at he ⊢
 dsimp only at he ⊢
 generalize Qx 200 4 (plainR ⟨b.drop a,0⟩).2=y at *
 obtain⟨h5,h6⟩:=Kg (QR s) y.1 y.2 [] (fun p hp=>nomatch hp)
 refine⟨⟨hs.1.fs hs.2,?_,fun g hg=>?_⟩,fun g hg=>?_,fun g hg c hc=>?_⟩
 ·simp at h6;show(Z3 _ _ _ _).1.length≤200;omega
 ·have:=h5 g hg
  rwa [show(QR s).length=(Qu s).length from List.length_map ..]at this
 ·have:=KZ (QR s) y.1 y.2 [] he (fun g hg=>nomatch hg) g hg
  rwa [show(QR s).length=(Qu s).length from List.length_map ..]at this
 ·have:=Gx (QR s) y.1 y.2 [] (fun g hg=>nomatch hg) g hg c hc
  unfold VY at this
  omega
end Go.Proofs.Ytajieadpaeggcaa
