/-
  What a file says of itself,written and read,is the same. Plain. Whether two files say the same. The program's. Whether two files say the same,whole. The program's. The document's 'Check'. Plain. The program's 'Check' and the document's answer the same. Plain. Shapes as text:words,and what they say. Plain. A shape's text. Plain. What 'Make' makes:trees,laid out. Plain. What 'Make' makes is printed. Plain.
-/
import Derived.Test.YtajieadpaeggcaaL10
import Derived.Test.YtajieadpaeggcaaL9
import Derived.Test.YtajieadpaeggcaaSxOne
import Derived.Test.YtajieadpaeggcaaL3
import Derived.Test.YtajieadpaeggcaaL1
set_option linter.unusedVariables false
set_option linter.unusedSimpArgs false
namespace Go.Proofs.Ytajieadpaeggcaa
open Go Go.Av
def Vd(x:Int):Prop:=0≤x∧x≤1048576
structure PgG(p:Pg):Prop where
 n1:Vd p.rows
 n2:Vd p.cells
 n3:Vd p.enc
 n4:Vd p.rlen
 n5:Vd p.dlen
 n6:Vd p.vlen
 crc:GV p.crc
def VlG(k:Int)(v:Vl):Prop:=(k=1∧(v.n=0∨v.n=1)∧v.s=[])∨(k=2∧(-2147483648≤v.n∧v.n≤2147483647)∧v.s=[])∨(k=3∧(-9223372036854775808≤v.n∧v.n≤9223372036854775807)∧v.s=[])∨((k≠1∧k≠2∧k≠3)∧v.n=0∧v.s.length≤100)
structure CkG(k:Int)(c:Ck):Prop where
 n1:Vd c.words
 n2:Vd c.size
 crc:GV c.crc
 len:c.pages.length≤200
 pages:∀p∈c.pages,PgG p
 st0:c.known=false→c.st=default
 nulls:c.known=true→Vd c.st.nulls
 has0:c.known=true→c.st.has=false→c.st.mn=default∧c.st.mx=default
 has1:c.known=true→c.st.has=true→VlG k c.st.mn∧VlG k c.st.mx
structure RwG(ks:List Int)(g:Rw):Prop where
 n:Vd g.n
 len:g.chunks.length=ks.length
 chunks:∀i,i<g.chunks.length→CkG (ks.getD i 0) (g.chunks.getD i default)
structure MtG(m:Mt):Prop where
 sb:∀f∈m.s,SbOk f
 s40:m.s.length≤40
 chk:Z8 m.s=0
 sl:(sbF m.s).length≤2000
 n:Vd m.n
 len:m.groups.length≤200
 groups:∀g∈m.groups,RwG (XZ m.s) g
section
set_option maxRecDepth 100000
set_option maxHeartbeats 4000000
def Xc{α:Type}(f:α→α→Bool):List α→List α→Bool
 |[],[]=>true
 |a::l,b::m=>f a b&&Xc f l m
 |_,_=>false
def KH(a b:Fd):Bool:=eqb a.name b.name&&(decide (a.rep=b.rep)&&(decide (a.kind=b.kind)&&(decide (a.kids=b.kids)&&true)))
def G6(a b:Pg):Bool:=decide (a.rows=b.rows)&&(decide (a.cells=b.cells)&&(decide (a.enc=b.enc)&&(decide (a.rlen=b.rlen)&&(decide (a.dlen=b.dlen)&&(decide (a.vlen=b.vlen)&&(decide (a.crc=b.crc)&&true))))))
def Q03(a b:Vl):Bool:=decide (a.n=b.n)&&(eqb a.s b.s&&true)
def CG(a b:Sta):Bool:=(decide (a.nulls=b.nulls)&&true)&&((decide (a.has=b.has)&&true)&&(Q03 a.mn b.mn&&(Q03 a.mx b.mx&&true)))
def KL(a b:Ck):Bool:=decide (a.words=b.words)&&decide (a.size=b.size)&&decide (a.crc=b.crc)&&Xc G6 a.pages b.pages&&decide (a.known=b.known)&&CG a.st b.st
def Ks(a b:Rw):Bool:=decide (a.n=b.n)&&Xc KL a.chunks b.chunks
def M2(a b:Mt):Bool:=Xc KH a.s b.s&&decide (a.n=b.n)&&Xc Ks a.groups b.groups
theorem VN{α:Type}[Inhabited α](f:α→α→Bool){l m:List α}{i:Nat}(h:i<l.length)(h2:i<m.length):Xc f (l.drop i) (m.drop i)=(f (l.getD i default) (m.getD i default)&&Xc f (l.drop (i+1)) (m.drop (i+1))):=by
 rw[List.drop_eq_getElem_cons h,List.drop_eq_getElem_cons h2,Xc]
 simp[h,h2]
theorem Vq{α:Type}(f:α→α→Bool):∀{l m:List α},l.length≠m.length→Xc f l m=false
 |[],[],h=>absurd rfl h
 |[],_::_,_=>rfl
 |_::_,[],_=>rfl
 |a::l,b::m,h=>by rw[Xc,Vq f (by simpa using h)];simp
theorem UJ{α:Type}(f:α→α→Bool){l m:List α}(h:l.length=m.length):Xc f (l.drop l.length) (m.drop l.length)=true:=by
 rw[List.drop_length,h,List.drop_length];rfl
theorem O1[Syms](a b:List Fd)(hl:a.length≤1000000):fnT Q9 Q9 (QN fns) (Qz tys) (QV plt) 100 68 [vF a,vF b] [] 0 (fun v H _=>v= .bool (Xc KH a b)∧H=[]):=by
 by_cases h0:a.length=b.length
 · repeat' first|refine And.intro ?_ ?_|(intro h;try first|exact dzq|replace h:=cvq)
   all_goals try exact czq
   refine⟨fun m s=>∃i:Nat,(i≤a.length∧m=a.length-i∧Xc KH a b=Xc KH (a.drop i) (b.drop i))∧s=⟨[(0,vF a),(1,vF b),(12,.int .i64 a.length),(13,.int .i64 i)],[],0⟩,⟨_,⟨[(0,vF a),(1,vF b),(12,.int .i64 a.length),(13,.int .i64 (0:Nat))],[],0⟩,Q0 [] rfl ⟨.refl _,.refl _,.refl _,.refl _,trivial⟩ trivial,0,⟨by omega,rfl,rfl⟩,rfl⟩,?_⟩
   rintro m s ⟨i,⟨hi,rfl,he⟩,rfl⟩
   by_cases h1:i<a.length
   ·have hd:=VN (l:=a) (m:=b) KH h1 (by omega)
    rw[←he]at hd
    cases hq:KH (a.getD i default) (b.getD i default)
    ·rw[hq,Bool.false_and]at hd
     have hx1:(eqb (a.getD i default).name (b.getD i default).name&&(decide ((a.getD i default).rep=(b.getD i default).rep)&&(decide ((a.getD i default).kind=(b.getD i default).kind)&&(decide ((a.getD i default).kids=(b.getD i default).kids)&&true))))=false:=hq
     have hx2:=hx1
     have hx3:=hx1
     have hx4:=hx1
     rw[hd]
     repeat' first|refine And.intro ?_ ?_|(intro h;try first|exact XF|replace h:=XG)
     all_goals try exact czq
     all_goals first|exact⟨_,Q4 [4] rfl,_,rfl,rfl,rfl⟩|skip
    ·rw[hq,Bool.true_and]at hd
     have hx1:(eqb (a.getD i default).name (b.getD i default).name&&(decide ((a.getD i default).rep=(b.getD i default).rep)&&(decide ((a.getD i default).kind=(b.getD i default).kind)&&(decide ((a.getD i default).kids=(b.getD i default).kids)&&true))))=true:=hq
     have hx2:=hx1
     have hx3:=hx1
     have hx4:=hx1
     repeat' first|refine And.intro ?_ ?_|(intro h;try first|exact XF|replace h:=XG)
     all_goals try exact czq
     all_goals first|exact⟨_,⟨[(0,vF a),(1,vF b),(12,.int .i64 a.length),(13,.int .i64 ((i+1:Nat):Int))],[],0⟩,Q0 [] rfl ⟨.refl _,.refl _,.refl _,Qg (by omega),trivial⟩ trivial,⟨i+1,⟨by omega,rfl,hd⟩,rfl⟩,by omega⟩|skip
   ·obtain rfl:i=a.length:=by omega
    rw[he,UJ _ h0]
    repeat' first|refine And.intro ?_ ?_|(intro h;try first|exact dzq|replace h:=cvq)
    all_goals try exact czq
    exact⟨_,Q4 [4] rfl,_,rfl,rfl,rfl⟩
 ·rw[Vq _ h0]
  repeat' first|refine And.intro ?_ ?_|(intro h;try first|exact dzq|replace h:=cvq)
  all_goals try exact czq
  exact⟨_,Q4 [4] rfl,_,rfl,rfl,rfl⟩
def S_eqFs:SpecI:=fun args K=>∃a b,args=[vF a,vF b]∧a.length≤1000000∧K (.bool (Xc KH a b))
theorem LE[Syms]:Zi Try.prog 68 S_eqFs:=by
 rintro args K ⟨a,b,rfl,h,hk⟩
 exact⟨rfl,_,rfl,hk,fnI Qp Qq Q5 Qb QJ (O1 a b h)⟩
theorem O0[Syms](a b:List Pg)(hl:a.length≤1000000):fnT Q9 Q9 (QN fns) (Qz tys) (QV plt) 100 92 [vP a,vP b] [] 0 (fun v H _=>v= .bool (Xc G6 a b)∧H=[]):=by
 by_cases h0:a.length=b.length
 · repeat' first|refine And.intro ?_ ?_|(intro h;try first|exact dzq|replace h:=cvq)
   all_goals try exact czq
   refine⟨fun m s=>∃i:Nat,(i≤a.length∧m=a.length-i∧Xc G6 a b=Xc G6 (a.drop i) (b.drop i))∧s=⟨[(0,vP a),(1,vP b),(12,.int .i64 a.length),(13,.int .i64 i)],[],0⟩,⟨_,⟨[(0,vP a),(1,vP b),(12,.int .i64 a.length),(13,.int .i64 (0:Nat))],[],0⟩,Q0 [] rfl ⟨.refl _,.refl _,.refl _,.refl _,trivial⟩ trivial,0,⟨by omega,rfl,rfl⟩,rfl⟩,?_⟩
   rintro m s ⟨i,⟨hi,rfl,he⟩,rfl⟩
   by_cases h1:i<a.length
   ·have hd:=VN (l:=a) (m:=b) G6 h1 (by omega)
    rw[←he]at hd
    cases hq:G6 (a.getD i default) (b.getD i default)
    ·rw[hq,Bool.false_and]at hd
     have hx1:(decide ((a.getD i default).rows=(b.getD i default).rows)&&(decide ((a.getD i default).cells=(b.getD i default).cells)&&(decide ((a.getD i default).enc=(b.getD i default).enc)&&(decide ((a.getD i default).rlen=(b.getD i default).rlen)&&(decide ((a.getD i default).dlen=(b.getD i default).dlen)&&(decide ((a.getD i default).vlen=(b.getD i default).vlen)&&(decide ((a.getD i default).crc=(b.getD i default).crc)&&true)))))))=false:=hq
     have hx2:=hx1
     have hx3:=hx1
     have hx4:=hx1
     rw[hd]
     repeat' first|refine And.intro ?_ ?_|(intro h;try first|exact XF|replace h:=XG)
     all_goals try exact czq
     all_goals first|exact⟨_,Q4 [4] rfl,_,rfl,rfl,rfl⟩|skip
    ·rw[hq,Bool.true_and]at hd
     have hx1:(decide ((a.getD i default).rows=(b.getD i default).rows)&&(decide ((a.getD i default).cells=(b.getD i default).cells)&&(decide ((a.getD i default).enc=(b.getD i default).enc)&&(decide ((a.getD i default).rlen=(b.getD i default).rlen)&&(decide ((a.getD i default).dlen=(b.getD i default).dlen)&&(decide ((a.getD i default).vlen=(b.getD i default).vlen)&&(decide ((a.getD i default).crc=(b.getD i default).crc)&&true)))))))=true:=hq
     have hx2:=hx1
     have hx3:=hx1
     have hx4:=hx1
     repeat' first|refine And.intro ?_ ?_|(intro h;try first|exact XF|replace h:=XG)
     all_goals try exact czq
     all_goals first|exact⟨_,⟨[(0,vP a),(1,vP b),(12,.int .i64 a.length),(13,.int .i64 ((i+1:Nat):Int))],[],0⟩,Q0 [] rfl ⟨.refl _,.refl _,.refl _,Qg (by omega),trivial⟩ trivial,⟨i+1,⟨by omega,rfl,hd⟩,rfl⟩,by omega⟩|skip
   ·obtain rfl:i=a.length:=by omega
    rw[he,UJ _ h0]
    repeat' first|refine And.intro ?_ ?_|(intro h;try first|exact dzq|replace h:=cvq)
    all_goals try exact czq
    exact⟨_,Q4 [4] rfl,_,rfl,rfl,rfl⟩
 ·rw[Vq _ h0]
  repeat' first|refine And.intro ?_ ?_|(intro h;try first|exact dzq|replace h:=cvq)
  all_goals try exact czq
  exact⟨_,Q4 [4] rfl,_,rfl,rfl,rfl⟩
def S_eqPs:SpecI:=fun args K=>∃a b,args=[vP a,vP b]∧a.length≤1000000∧K (.bool (Xc G6 a b))
theorem LD[Syms]:Zi Try.prog 92 S_eqPs:=by
 rintro args K ⟨a,b,rfl,h,hk⟩
 exact⟨rfl,_,rfl,hk,fnI Qp Qq Q5 Qb QJ (O0 a b h)⟩
end
section
set_option maxRecDepth 100000
set_option maxHeartbeats 4000000
def LF(s:Sta):List AVal:=[.int .i64 s.nulls,.bool s.has,.int .i64 s.mn.n,.str s.mn.s,.int .i64 s.mx.n,.str s.mx.s]
theorem ES[Syms](a b:Sta):fnT Q9 Q9 (QN fns) (Qz tys) (QV plt) 100 93 [.agg (LF a),.agg (LF b)] [] 0 (fun v H _=>v= .bool (CG a b)∧H=[]):=by
 repeat' first|refine And.intro ?_ ?_|(intro h;try first|exact dzq|replace h:=cvq)
 all_goals try exact cz
 exact⟨_,Q4 [4] rfl,_,rfl,rfl,rfl⟩
def S_stSame:SpecI:=fun args K=>∃a b,args=[.agg (LF a),.agg (LF b)]∧K (.bool (CG a b))
theorem CF[Syms]:Zi Try.prog 93 S_stSame:=by
 rintro args K ⟨a,b,rfl,hk⟩
 exact⟨rfl,_,rfl,hk,fnI Qp Qq Q5 Qb QJ (ES a b)⟩
abbrev cSc:CallT:=Qe 92 (Xw (seeW S_eqPs)) (Qe 93 (Xw S_stSame) Q9)
theorem Of[Syms]:cSc.ok Try.prog:=Qm LD.seeW (Qm CF Qb)
noncomputable def NH:Nat→Nat→Pl:=VZ [(70,0),(41,0),(18,0)] (QV plt)
def smS(ra rb:List AVal):St:=⟨[(2,.ptr 0 0 0),(3,.ptr 1 0 0)],[(0,some (.cells [ra] false)),(1,some (.cells [rb] false))],2⟩
theorem DU[Syms]{N nx:Nat}{e:Env}{H:Heap}{ra rb ra' rb':List AVal}(h2:e.get 2= .ptr 0 0 0)(h3:e.get 3= .ptr 1 0 0)(H0:H.get 0=some (.cells [ra'] false))(H1:H.get 1=some (.cells [rb'] false))(ha:ra'=ra)(hb:rb'=rb)(fa:∀x∈ra,x.flat=true)(fb:∀x∈rb,x.flat=true)(hn:Zm 0 nx [0,1]=true):Reb 0 N ⟨e,H,nx⟩ (smS ra rb):=by
 subst ha hb
 exact Q0 [0,1] hn ⟨by rw[h2];exact .refl _,by rw[h3];exact .refl _,trivial⟩ ⟨⟨Nat.succ_pos _,_,H0,Qd (Y7 fa QS)⟩,⟨Nat.lt_succ_self _,_,H1,Qd (Y7 fb QS)⟩,trivial⟩
theorem It[Syms](a b:Ck)(hl:a.pages.length≤1000000):fnT Q9 cSc (QN fns) (Qz tys) NH 100 70 [.agg (encC a),.agg (encC b)] [] 0 (fun v H _=>v= .bool (KL a b)∧H=[]):=by
 repeat' first|refine And.intro ?_ ?_|(intro h;try first|exact dzq|replace h:=cvq)
 all_goals try exact cz
 refine⟨smS (encC a) (encC b),DU rfl rfl rfl rfl rfl rfl (eC a) (eC b) rfl,?_⟩
 have hq:KL a b=(decide (a.words=b.words)&&decide (a.size=b.size)&&decide (a.crc=b.crc)&&Xc G6 a.pages b.pages&&decide (a.known=b.known)&&CG a.st b.st):=rfl
 rw[hq]
 clear hq
 by_cases h1:a.words=b.words
 ·by_cases h2:a.size=b.size
  ·by_cases h3:a.crc=b.crc
   · repeat' first|refine And.intro ?_ ?_|(intro h;try first|exact dzq|replace h:=cvq)
     all_goals try exact cz
     all_goals refine⟨[vP a.pages,vP b.pages],⟨.tab rfl,.tab rfl,trivial⟩,a.pages,b.pages,rfl,hl,?_⟩
     cases h4:Xc G6 a.pages b.pages
     · repeat' first|refine And.intro ?_ ?_|(intro h;try first|exact dzq|replace h:=cvq)
       all_goals try exact cz
       all_goals exact⟨_,Q4 [4] rfl,_,rfl,congrArg AVal.bool (by simp[*]),rfl⟩
     ·by_cases h5:a.known=b.known
      ·have hx1:(a.known=b.known)=True:=eq_true h5
       have hx2:=hx1
       have hx3:=hx1
       have hx4:=hx1
       repeat' first|refine And.intro ?_ ?_|(intro h;try first|exact XF|replace h:=XG)
       all_goals try exact cz
       all_goals refine⟨a.st,b.st,rfl,?_⟩
       repeat' first|refine And.intro ?_ ?_|(intro h;try first|exact XF|replace h:=XG)
       all_goals try exact cz
       all_goals exact⟨_,Q4 [4] rfl,_,rfl,congrArg AVal.bool (by simp[*]),rfl⟩
      ·have hx1:(a.known=b.known)=False:=eq_false h5
       have hx2:=hx1
       have hx3:=hx1
       have hx4:=hx1
       repeat' first|refine And.intro ?_ ?_|(intro h;try first|exact XF|replace h:=XG)
       all_goals try exact cz
       all_goals exact⟨_,Q4 [4] rfl,_,rfl,congrArg AVal.bool (by simp[*]),rfl⟩
   · repeat' first|refine And.intro ?_ ?_|(intro h;try first|exact dzq|replace h:=cvq)
     all_goals try exact cz
     all_goals exact⟨_,Q4 [4] rfl,_,rfl,congrArg AVal.bool (by simp[*]),rfl⟩
  · repeat' first|refine And.intro ?_ ?_|(intro h;try first|exact dzq|replace h:=cvq)
    all_goals try exact cz
    all_goals exact⟨_,Q4 [4] rfl,_,rfl,congrArg AVal.bool (by simp[*]),rfl⟩
 · repeat' first|refine And.intro ?_ ?_|(intro h;try first|exact dzq|replace h:=cvq)
   all_goals try exact cz
   all_goals exact⟨_,Q4 [4] rfl,_,rfl,congrArg AVal.bool (by simp[*]),rfl⟩
def S_ckSame:SpecI:=fun args K=>∃a b,args=[.agg (encC a),.agg (encC b)]∧a.pages.length≤1000000∧K (.bool (KL a b))
theorem Ep[Syms]:Zi Try.prog 70 S_ckSame:=by
 rintro args K ⟨a,b,rfl,h,hk⟩
 exact⟨rfl,_,rfl,hk,fnI Qp Qq Q5 Of QJ (It a b h)⟩
abbrev Dv:CallT:=Qe 70 (Xw S_ckSame) Q9
theorem Du[Syms]:Dv.ok Try.prog:=Qm Ep Qb
theorem Eo[Syms](a b:List Ck)(hl:a.length≤1000000)(hh:∀x∈a,x.pages.length≤1000000):fnT Q9 Dv (QN fns) (Qz tys) (QV plt) 100 69 [vC a,vC b,.func 70 []] [] 0 (fun v H _=>v= .bool (Xc KL a b)∧H=[]):=by
 by_cases h0:a.length=b.length
 · repeat' first|refine And.intro ?_ ?_|(intro h;try first|exact dzq|replace h:=cvq)
   all_goals try exact czq
   refine⟨fun m s=>∃i:Nat,(i≤a.length∧m=a.length-i∧Xc KL a b=Xc KL (a.drop i) (b.drop i))∧s=⟨[(1,vC b),(2,.func 70 []),(15,vC a),(16,.int .i64 a.length),(17,.int .i64 i)],[],0⟩,⟨_,⟨[(1,vC b),(2,.func 70 []),(15,vC a),(16,.int .i64 a.length),(17,.int .i64 (0:Nat))],[],0⟩,Q0 [] rfl ⟨.refl _,.refl _,.refl _,.refl _,.refl _,trivial⟩ trivial,0,⟨by omega,rfl,rfl⟩,rfl⟩,?_⟩
   rintro m s ⟨i,⟨hi,rfl,he⟩,rfl⟩
   by_cases h1:i<a.length
   ·have hd:=VN (l:=a) (m:=b) KL h1 (by omega)
    rw[←he]at hd
    have hai:(a.getD i default).pages.length≤1000000:=by
     rw[List.getD_eq_getElem?_getD,List.getElem?_eq_getElem h1];exact hh _ (List.getElem_mem h1)
    repeat' first|refine And.intro ?_ ?_|(intro h;try first|exact dzq|replace h:=cvq)
    all_goals try exact czq
    refine⟨a.getD i default,b.getD i default,rfl,hai,?_⟩
    cases hq:KL (a.getD i default) (b.getD i default)
    ·rw[hq,Bool.false_and]at hd
     rw[hd]
     repeat' first|refine And.intro ?_ ?_|(intro h;try first|exact dzq|replace h:=cvq)
     all_goals try exact czq
     all_goals exact⟨_,Q4 [6] rfl,_,rfl,rfl,rfl⟩
    ·rw[hq,Bool.true_and]at hd
     repeat' first|refine And.intro ?_ ?_|(intro h;try first|exact dzq|replace h:=cvq)
     all_goals try exact czq
     all_goals exact⟨_,⟨[(1,vC b),(2,.func 70 []),(15,vC a),(16,.int .i64 a.length),(17,.int .i64 ((i+1:Nat):Int))],[],0⟩,Q0 [] rfl ⟨.refl _,.refl _,.refl _,.refl _,Qg (by omega),trivial⟩ trivial,⟨i+1,⟨by omega,rfl,hd⟩,rfl⟩,by omega⟩
   ·obtain rfl:i=a.length:=by omega
    rw[he,UJ _ h0]
    repeat' first|refine And.intro ?_ ?_|(intro h;try first|exact dzq|replace h:=cvq)
    all_goals try exact czq
    exact⟨_,Q4 [6] rfl,_,rfl,rfl,rfl⟩
 ·rw[Vq _ h0]
  repeat' first|refine And.intro ?_ ?_|(intro h;try first|exact dzq|replace h:=cvq)
  all_goals try exact czq
  exact⟨_,Q4 [6] rfl,_,rfl,rfl,rfl⟩
def S_cksSame:SpecI:=fun args K=>∃a b,args=[vC a,vC b,.func 70 []]∧(a.length≤1000000∧ ∀x∈a,x.pages.length≤1000000)∧K (.bool (Xc KL a b))
theorem Bo[Syms]:Zi Try.prog 69 S_cksSame:=by
 rintro args K ⟨a,b,rfl,⟨h1,h2⟩,hk⟩
 exact⟨rfl,_,rfl,hk,fnI Qp Qq Q5 Du QJ (Eo a b h1 h2)⟩
abbrev cSr:CallT:=Qe 69 (Xw (seeW S_cksSame)) Q9
theorem Oc[Syms]:cSr.ok Try.prog:=Qm Bo.seeW Qb
def RwS(x:Rw):Prop:=x.chunks.length≤1000000∧ ∀c∈x.chunks,c.pages.length≤1000000
theorem H6[Syms](a b:Rw)(hl:RwS a):fnT Q9 cSr (QN fns) (Qz tys) NH 100 41 [.agg (encR a),.agg (encR b)] [] 0 (fun v H _=>v= .bool (Ks a b)∧H=[]):=by
 repeat' first|refine And.intro ?_ ?_|(intro h;try first|exact dzq|replace h:=cvq)
 all_goals try exact cz
 refine⟨smS (encR a) (encR b),DU rfl rfl rfl rfl rfl rfl (eR a) (eR b) rfl,?_⟩
 have hq:Ks a b=(decide (a.n=b.n)&&Xc KL a.chunks b.chunks):=rfl
 rw[hq]
 clear hq
 by_cases h1:a.n=b.n
 · repeat' first|refine And.intro ?_ ?_|(intro h;try first|exact dzq|replace h:=cvq)
   all_goals try exact cz
   all_goals refine⟨[vC a.chunks,vC b.chunks,.func 70 []],⟨.tab rfl,.tab rfl,.refl _,trivial⟩,a.chunks,b.chunks,rfl,hl,?_⟩
   repeat' first|refine And.intro ?_ ?_|(intro h;try first|exact dzq|replace h:=cvq)
   all_goals try exact cz
   all_goals exact⟨_,Q4 [4] rfl,_,rfl,congrArg AVal.bool (by simp[*]),rfl⟩
 · repeat' first|refine And.intro ?_ ?_|(intro h;try first|exact dzq|replace h:=cvq)
   all_goals try exact cz
   all_goals exact⟨_,Q4 [4] rfl,_,rfl,congrArg AVal.bool (by simp[*]),rfl⟩
def S_rwSame:SpecI:=fun args K=>∃a b,args=[.agg (encR a),.agg (encR b)]∧RwS a∧K (.bool (Ks a b))
theorem CI[Syms]:Zi Try.prog 41 S_rwSame:=by
 rintro args K ⟨a,b,rfl,h,hk⟩
 exact⟨rfl,_,rfl,hk,fnI Qp Qq Q5 Oc QJ (H6 a b h)⟩
abbrev Dq:CallT:=Qe 41 (Xw S_rwSame) Q9
theorem Dp[Syms]:Dq.ok Try.prog:=Qm CI Qb
theorem CH[Syms](a b:List Rw)(hl:a.length≤1000000)(hh:∀x∈a,RwS x):fnT Q9 Dq (QN fns) (Qz tys) (QV plt) 100 40 [vR a,vR b,.func 41 []] [] 0 (fun v H _=>v= .bool (Xc Ks a b)∧H=[]):=by
 by_cases h0:a.length=b.length
 · repeat' first|refine And.intro ?_ ?_|(intro h;try first|exact dzq|replace h:=cvq)
   all_goals try exact czq
   refine⟨fun m s=>∃i:Nat,(i≤a.length∧m=a.length-i∧Xc Ks a b=Xc Ks (a.drop i) (b.drop i))∧s=⟨[(1,vR b),(2,.func 41 []),(15,vR a),(16,.int .i64 a.length),(17,.int .i64 i)],[],0⟩,⟨_,⟨[(1,vR b),(2,.func 41 []),(15,vR a),(16,.int .i64 a.length),(17,.int .i64 (0:Nat))],[],0⟩,Q0 [] rfl ⟨.refl _,.refl _,.refl _,.refl _,.refl _,trivial⟩ trivial,0,⟨by omega,rfl,rfl⟩,rfl⟩,?_⟩
   rintro m s ⟨i,⟨hi,rfl,he⟩,rfl⟩
   by_cases h1:i<a.length
   ·have hd:=VN (l:=a) (m:=b) Ks h1 (by omega)
    rw[←he]at hd
    have hai:RwS (a.getD i default):=by
     rw[List.getD_eq_getElem?_getD,List.getElem?_eq_getElem h1];exact hh _ (List.getElem_mem h1)
    repeat' first|refine And.intro ?_ ?_|(intro h;try first|exact dzq|replace h:=cvq)
    all_goals try exact czq
    refine⟨a.getD i default,b.getD i default,rfl,hai,?_⟩
    cases hq:Ks (a.getD i default) (b.getD i default)
    ·rw[hq,Bool.false_and]at hd
     rw[hd]
     repeat' first|refine And.intro ?_ ?_|(intro h;try first|exact dzq|replace h:=cvq)
     all_goals try exact czq
     all_goals exact⟨_,Q4 [6] rfl,_,rfl,rfl,rfl⟩
    ·rw[hq,Bool.true_and]at hd
     repeat' first|refine And.intro ?_ ?_|(intro h;try first|exact dzq|replace h:=cvq)
     all_goals try exact czq
     all_goals exact⟨_,⟨[(1,vR b),(2,.func 41 []),(15,vR a),(16,.int .i64 a.length),(17,.int .i64 ((i+1:Nat):Int))],[],0⟩,Q0 [] rfl ⟨.refl _,.refl _,.refl _,.refl _,Qg (by omega),trivial⟩ trivial,⟨i+1,⟨by omega,rfl,hd⟩,rfl⟩,by omega⟩
   ·obtain rfl:i=a.length:=by omega
    rw[he,UJ _ h0]
    repeat' first|refine And.intro ?_ ?_|(intro h;try first|exact dzq|replace h:=cvq)
    all_goals try exact czq
    exact⟨_,Q4 [6] rfl,_,rfl,rfl,rfl⟩
 ·rw[Vq _ h0]
  repeat' first|refine And.intro ?_ ?_|(intro h;try first|exact dzq|replace h:=cvq)
  all_goals try exact czq
  exact⟨_,Q4 [6] rfl,_,rfl,rfl,rfl⟩
def S_rwsSame:SpecI:=fun args K=>∃a b,args=[vR a,vR b,.func 41 []]∧(a.length≤1000000∧ ∀x∈a,RwS x)∧K (.bool (Xc Ks a b))
theorem DX[Syms]:Zi Try.prog 40 S_rwsSame:=by
 rintro args K ⟨a,b,rfl,⟨h1,h2⟩,hk⟩
 exact⟨rfl,_,rfl,hk,fnI Qp Qq Q5 Dp QJ (CH a b h1 h2)⟩
theorem L1[Syms](a b:List Fd)(hl:a.length≤1000000):fnT Q9 (Qe 68 (Xw S_eqFs) Q9) (QN fns) (Qz tys) (QV plt) 100 39 [vF a,vF b] [] 0 (fun v H _=>v= .bool (Xc KH a b)∧H=[]):=by
 refine⟨a,b,rfl,hl,?_⟩
 repeat' first|refine And.intro ?_ ?_|(intro h;try first|exact dzq|replace h:=cvq)
 all_goals try exact cz
 exact⟨_,Q4 [4] rfl,_,rfl,rfl,rfl⟩
def S_sSame:SpecI:=fun args K=>∃a b,args=[vF a,vF b]∧a.length≤1000000∧K (.bool (Xc KH a b))
theorem H4[Syms]:Zi Try.prog 39 S_sSame:=by
 rintro args K ⟨a,b,rfl,h,hk⟩
 exact⟨rfl,_,rfl,hk,fnI Qp Qq Q5 (Qm LE Qb) QJ (L1 a b h)⟩
abbrev cSm:CallT:=Qe 39 (Xw (seeW S_sSame)) (Qe 40 (Xw (seeW S_rwsSame)) Q9)
theorem Od[Syms]:cSm.ok Try.prog:=Qm H4.seeW (Qm DX.seeW Qb)
structure MtS(m:Mt):Prop where
 s:m.s.length≤1000000
 len:m.groups.length≤1000000
 groups:∀g∈m.groups,RwS g
theorem Hy[Syms](a b:Mt)(hms:MtS a):fnT Q9 cSm (QN fns) (Qz tys) NH 100 18 [.agg (Qv a),.agg (Qv b)] [] 0 (fun v H _=>v= .bool (M2 a b)∧H=[]):=by
 repeat' first|refine And.intro ?_ ?_|(intro h;try first|exact dzq|replace h:=cvq)
 all_goals try exact cz
 refine⟨smS (Qv a) (Qv b),DU rfl rfl rfl rfl rfl rfl (eM a) (eM b) rfl,?_⟩
 have hq:M2 a b=(Xc KH a.s b.s&&decide (a.n=b.n)&&Xc Ks a.groups b.groups):=rfl
 rw[hq]
 clear hq
 have hx1:∀m:Mt,(Qv m).getD 1 .any= .int .i64 m.n:=fun _=>rfl
 have hx2:∀m:Mt,(Qv m).getD (0+1) .any= .int .i64 m.n:=fun _=>rfl
 have hx3:=hx1
 have hx4:=hx1
 repeat' first|refine And.intro ?_ ?_|(intro h;try first|exact XF|replace h:=XG)
 all_goals try exact cz
 refine⟨[vF a.s,vF b.s],⟨.tab rfl,.tab rfl,trivial⟩,a.s,b.s,rfl,hms.s,?_⟩
 cases h4:Xc KH a.s b.s
 · repeat' first|refine And.intro ?_ ?_|(intro h;try first|exact XF|replace h:=XG)
   all_goals try exact cz
   all_goals exact⟨_,Q4 [4] rfl,_,rfl,congrArg AVal.bool (by simp[*]),rfl⟩
 ·by_cases h1:a.n=b.n
  · repeat' first|refine And.intro ?_ ?_|(intro h;try first|exact XF|replace h:=XG)
    all_goals try exact cz
    all_goals refine⟨[vR a.groups,vR b.groups,.func 41 []],⟨.tab rfl,.tab rfl,.refl _,trivial⟩,a.groups,b.groups,rfl,⟨hms.len,hms.groups⟩,?_⟩
    repeat' first|refine And.intro ?_ ?_|(intro h;try first|exact XF|replace h:=XG)
    all_goals try exact cz
    all_goals exact⟨_,Q4 [4] rfl,_,rfl,congrArg AVal.bool (by simp[*]),rfl⟩
  · repeat' first|refine And.intro ?_ ?_|(intro h;try first|exact XF|replace h:=XG)
    all_goals try exact cz
    all_goals exact⟨_,Q4 [4] rfl,_,rfl,congrArg AVal.bool (by simp[*]),rfl⟩
def S_mtSame:SpecI:=fun args K=>∃a b,args=[.agg (Qv a),.agg (Qv b)]∧MtS a∧K (.bool (M2 a b))
theorem CZ[Syms]:Zi Try.prog 18 S_mtSame:=by
 rintro args K ⟨a,b,rfl,h,hk⟩
 exact⟨rfl,_,rfl,hk,fnI Qp Qq Q5 Od QJ (Hy a b h)⟩
end
abbrev Wd:=List UInt8
def Ni(c:UInt8):Bool:=decide (c.toNat=123)||decide (c.toNat=125)||decide (c.toNat=59)
def Nt(w:Wd):Prop:=w≠[]∧((∀c∈w,JM c=true)∨ ∃c,w=[c]∧Ni c=true)
def NP:List Wd:=[[114,101,113,117,105,114,101,100],[111,112,116,105,111,110,97,108],[114,101,112,101,97,116,101,100]]
def Lo:List Wd:=[[103,114,111,117,112],[98,111,111,108],[105,110,116,51,50],[105,110,116,54,52],[98,121,116,101,115]]
def OM:Wd:=[109,101,115,115,97,103,101]
def Hw(w:Wd):Bool:=match w with
 |[]=>false
 |c::_=>Yd c&&decide (w.length≤12)
theorem Hu{w:Wd}(h:Nt w):Hw w=WJ w:=by
 cases w with
 |nil=>exact absurd rfl h.1
 |cons c t=>
  show(Yd c&&decide ((c::t).length≤12))=(decide (1≤(c::t).length)&&decide ((c::t).length≤12)&&Yd c&&(c::t).all JM)
  rw[decide_eq_true (show 1≤(c::t).length by simp)]
  rcases h.2 with h|⟨d,hd,hm⟩
  ·rw[List.all_eq_true.2 h]
   cases Yd c<;>cases decide ((c::t).length≤12)<;>rfl
  ·cases hd
   have:Yd c=false:=by
    cases hl:Yd c with
    |false=>rfl
    |true=>
     simp only[Yd,Ni,Bool.and_eq_true,Bool.or_eq_true,decide_eq_true_eq]at hl hm
     omega
   rw[this];simp
structure PS where
 ws:List Wd
 fs:List Fd
 e:Int
 deriving Inhabited
def Ct(d:Nat):List UInt8:=List.replicate (2*d) 32
def I1(d:Nat)(f:Fd):List UInt8:=if d=0 then OM++[32]else Ct d++NP.getD f.rep.toNat []++[32]++Lo.getD f.kind.toNat []++[32]
def Nj(d:Nat)(f:Fd):List UInt8:=I1 d f++f.name++[59,10]
def Ng(d:Nat)(f:Fd):List UInt8:=I1 d f++f.name++[32,123,10]
def Ip(d:Nat):List UInt8:=Ct d++[125,10]
inductive PrT(s:List Fd):Nat→Nat→Nat→Nat→List UInt8→Nat→Prop
 |nil {n i d:Nat}:PrT s n 0 i d [] i
 |leaf {n k i d j:Nat} {t:List UInt8} (hi:i<s.length) (hk:(s.getD i default).kind≠0) (h:PrT s n k (i+1) d t j):PrT s n (k+1) i d (Nj d (s.getD i default)++t) j
 |group {n k m i i1 d j:Nat} {t1 t2:List UInt8} (hi:i<s.length) (hk:(s.getD i default).kind=0) (hm:(s.getD i default).kids=m) (h1:PrT s n m (i+1) (d+1) t1 i1) (h2:PrT s (n+1) k i1 d t2 j):
   PrT s (n+1) (k+1) i d (Ng d (s.getD i default)++t1++Ip d++t2) j
theorem PrT.split{s:List Fd}{n k i d j:Nat}{t:List UInt8}(h:PrT s n (k+1) i d t j):∃t1 i1 t2,PrT s n 1 i d t1 i1∧PrT s n k i1 d t2 j∧t=t1++t2:=by
 cases h with
 |leaf hi hk h=>exact⟨_,_,_,.leaf hi hk .nil,h,by simp⟩
 |group hi hk hm h1 h2=>exact⟨_,_,_,.group hi hk hm h1 .nil,h2,by simp⟩
theorem PrT.one{s:List Fd}{n i d j:Nat}{t:List UInt8}(h:PrT s n 1 i d t j):i<s.length∧
 (((s.getD i default).kind≠0∧t=Nj d (s.getD i default)∧j=i+1)∨
   (∃n' m t1,(s.getD i default).kind=0∧n=n'+1∧(s.getD i default).kids=(m:Nat)∧PrT s n' m (i+1) (d+1) t1 j∧t=Ng d (s.getD i default)++t1++Ip d)):=by
 cases h with
 |leaf hi hk h=>
  cases h with
  |nil=>exact⟨hi,.inl ⟨hk,by simp,rfl⟩⟩
 |group hi hk hm h1 h2=>
  cases h2 with
  |nil=>exact⟨hi,.inr ⟨_,_,_,hk,rfl,hm,h1,by simp⟩⟩
theorem PrT.pos{s:List Fd}{n k i d j:Nat}{t:List UInt8}(h:PrT s n k i d t j):i≤j:=by
 induction h with
 |nil=>exact Nat.le_refl _
 |leaf _ _ _ ih=>omega
 |group _ _ _ _ _ ih1 ih2=>omega
structure PrOk(s:List Fd):Prop where
 len:s.length<1000
 rep:∀i,i<s.length→0≤(s.getD i default).rep∧(s.getD i default).rep≤2
 kind:∀i,i<s.length→0≤(s.getD i default).kind∧(s.getD i default).kind≤4
structure FOk(f:Fd):Prop where
 rep:0≤f.rep∧f.rep≤2
 kind:0≤f.kind∧f.kind≤4
 name:Hw f.name=true
 sign:∀c∈f.name,JM c=true
inductive Fo:Nat→Nat→List Fd→Prop
 |nil {d:Nat}:Fo d 0 []
 |leaf {d k:Nat} {f:Fd} {l:List Fd} (hd:d≤8) (hf:FOk f) (hk:f.kind≠0) (h0:f.kids=0) (h:Fo d k l):Fo d (k+1) (f::l)
 |group {d k m:Nat} {f:Fd} {l1 l2:List Fd} (hd:d≤8) (hf:FOk f) (hk:f.kind=0) (hm:f.kids=(m:Nat)) (hp:0<m) (h1:Fo (d+1) m l1) (h2:Fo d k l2):Fo d (k+1) (f::(l1++l2))
theorem Fo.snoc{d k:Nat}{l x:List Fd}(h:Fo d k l)(hx:Fo d 1 x):Fo d (k+1) (l++x):=by
 induction h with
 |nil=>exact hx
 |leaf hd hf hk h0 _ ih=>exact .leaf hd hf hk h0 (ih hx)
 |group hd hf hk hm hp h1 _ _ ih=>
  rw[List.cons_append,List.append_assoc]
  exact .group hd hf hk hm hp h1 (ih hx)
inductive Sp:List Int→List Fd→Prop
 |root {f:Fd} {l:List Fd} {k:Nat} (hf:FOk f) (hk:f.kind=0) (hr:f.rep=0) (hm:f.kids=(k:Nat)) (h:Fo 1 k l):Sp [0] (f::l)
 |push {a:Int} {t:List Int} {fs:List Fd} {f:Fd} {l:List Fd} {k:Nat} (h:Sp (a::t) fs) (hd:t.length+1≤8) (hf:FOk f) (hk:f.kind=0) (hm:f.kids=(k:Nat)) (hl:Fo (t.length+2) k l):
   Sp ((fs.length:Int)::a::t) (Xq fs a.toNat++f::l)
theorem Sp.ne{op:List Int}{fs:List Fd}(h:Sp op fs):∃a t,op=a::t∧fs≠[]:=by
 cases h with
 |root=>exact⟨_,_,rfl,by simp⟩
 |push=>exact⟨_,_,rfl,by simp⟩
theorem Sp.top{a:Int}{t:List Int}{fs:List Fd}(h:Sp (a::t) fs):a.toNat<fs.length∧0≤a∧ ∃k:Nat,(fs.getD a.toNat default).kids=(k:Nat):=by
 cases h with
 |root hf hk hr hm h=>exact⟨by simp,by omega,_,hm⟩
 |push h hd hf hk hm hl=>
  rename_i k
  refine⟨by simp[Qa],by omega,k,?_⟩
  rw[Int.toNat_natCast,List.getD_eq_getElem?_getD,List.getElem?_append_right (by rw[Qa];exact Nat.le_refl _),Qa,Nat.sub_self]
  exact hm
theorem HS{fs:List Fd}{f:Fd}{l:List Fd}{n:Nat}(h:n=fs.length):Xq (fs++f::l) n=fs++{f with kids:=f.kids+1}::l:=by
 subst h
 unfold Xq
 have e:(fs++f::l).getD fs.length default=f:=by
  rw[List.getD_eq_getElem?_getD,List.getElem?_append_right (Nat.le_refl _),Nat.sub_self];rfl
 rw[e]
 simp only[List.set_append,Nat.lt_irrefl,if_false,Nat.sub_self,List.set_cons_zero]
theorem Sp.add{a:Int}{t:List Int}{fs x:List Fd}(h:Sp (a::t) fs)(hx:Fo (t.length+1) 1 x):Sp (a::t) (Xq fs a.toNat++x):=by
 generalize hop:a::t=op at h
 cases h with
 |root hf hk hr hm h=>
  cases hop
  rename_i f l k
  have e:Xq (f::l) (0:Int).toNat={f with kids:=f.kids+1}::l:=HS (fs:=[]) rfl
  rw[e]
  exact .root (f:={f with kids:=f.kids+1}) (k:=k+1) ⟨hf.rep,hf.kind,hf.name,hf.sign⟩ hk hr (by show f.kids+1=_;rw[hm];rfl) (h.snoc hx)
 |push h hd hf hk hm hl=>
  cases hop
  rename_i a' t' fs' f l k
  rw[HS (by rw[Qa,Int.toNat_natCast]),List.append_assoc]
  exact .push (f:={f with kids:=f.kids+1}) (k:=k+1) h hd ⟨hf.rep,hf.kind,hf.name,hf.sign⟩ hk (by show f.kids+1=_;rw[hm];rfl) (hl.snoc hx)
theorem Sp.pop{b a:Int}{t:List Int}{fs:List Fd}(h:Sp (b::a::t) fs)(hk:0<(fs.getD b.toNat default).kids):Sp (a::t) fs∧0<(fs.getD a.toNat default).kids:=by
 generalize hop:b::a::t=op at h
 cases h with
 |root=>cases hop
 |push h hd hf hk' hm hl=>
  cases hop
  rename_i fs' f l k
  rw[Int.toNat_natCast,List.getD_eq_getElem?_getD,List.getElem?_append_right (by rw[Qa];exact Nat.le_refl _),Qa,Nat.sub_self]at hk
  have hk:0<f.kids:=hk
  obtain⟨h1,h2,k',h3⟩:=h.top
  refine⟨h.add ?_,?_⟩
  ·have:=Fo.group (d:=t.length+1) (k:=0) (m:=k) hd hf hk' hm (by omega) hl .nil
   rwa [List.append_nil]at this
  ·have e:(Xq fs' a.toNat++f::l).getD a.toNat default={fs'.getD a.toNat default with kids:=(fs'.getD a.toNat default).kids+1}:=by
    rw[List.getD_eq_getElem?_getD,List.getElem?_append_left (by rw[Qa];exact h1),Xq,List.getElem?_set_self (by exact h1)];rfl
   rw[e]
   show 0<(fs'.getD a.toNat default).kids+1
   omega
theorem Sp.pops{fs:List Fd}:∀(k:Nat) (op:List Int),Sp op fs→Sp (Vk fs k op) fs∧(Vk fs k op).length≤op.length
 |0,op,h=>⟨h,Nat.le_refl _⟩
 |k+1,[],h=>⟨h,Nat.le_refl _⟩
 |k+1,[a],h=>⟨h,Nat.le_refl _⟩
 |k+1,a::b::t,h=>by
  rw[Vk]
  split
  ·rename_i hk
   obtain⟨h1,h2⟩:=Sp.pops k (b::t) (h.pop hk).1
   exact⟨h1,by simp at h2 ⊢;omega⟩
  ·exact⟨h,Nat.le_refl _⟩
theorem Sp.close:∀(op:List Int) (fs:List Fd),Sp op fs→0<(fs.getD (ZW op).toNat default).kids→ ∃(f:Fd) (l:List Fd) (k:Nat),fs=f::l∧FOk f∧f.kind=0∧f.rep=0∧f.kids=(k:Nat)∧0<k∧Fo 1 k l
 |[],fs,h,_=>by cases h
 |[a],fs,h,hk=>by
  generalize hop:[a]=op at h
  cases h with
  |root hf hkk hr hm h=>
   rename_i f l k
   have hk:0<f.kids:=by cases hop;exact hk
   exact⟨_,_,_,rfl,hf,hkk,hr,hm,by omega,h⟩
  |push=>cases hop
 |b::a::t,fs,h,hk=>by
  obtain⟨h1,h2⟩:=h.pop hk
  exact Sp.close (a::t) fs h1 h2
theorem OK:∀i,i<12→Hw (nmM i)=true∧ ∀c∈nmM i,JM c=true:=by decide
theorem NW(op:List Int){i:Nat}(hi:i<12)(x:Int):FOk (Bh op i x)∧(Bh op i x).kids=0:=by
 have h1:=WD (a:=wr .i64 (x.tdiv 8)) (n:=3) (by omega)
 have h2:=WD (a:=x) (n:=8) (by omega)
 obtain⟨h3,h4⟩:=OK i hi
 refine⟨⟨⟨h1.1,by show wi _ 3≤2;omega⟩,?_,h3,h4⟩,rfl⟩
 show 0≤XP op x∧XP op x≤4
 unfold XP
 have h5:=Int.tmod_lt_of_pos (wi x 8) (show(0:Int)<5 by decide)
 have h6:=Int.tmod_nonneg 5 h2.1
 split<;>omega
theorem E7{op:List Int}{x:Int}(h:XP op x=0):op.length≤4:=by
 unfold XP at h
 split at h
 ·omega
 ·rename_i hn
  exact Nat.le_of_not_lt fun hl=>hn ⟨hl,h⟩
theorem Sp.step{fs:List Fd}{op:List Int}{i:Nat}{x:Int}(h:Sp op fs)(hl:op.length≤5)(hi:i<12):Sp (XM fs op i x).2 (XM fs op i x).1∧(XM fs op i x).2.length≤5:=by
 obtain⟨h1,h2⟩:=Sp.pops (wi (wr .i64 (x.tdiv 64)) 3).toNat op h
 unfold XM
 simp only
 generalize Vk fs (wi (wr .i64 (x.tdiv 64)) 3).toNat op=o at *
 obtain⟨a,t,rfl,hne⟩:=h1.ne
 obtain⟨hf,hk0⟩:=NW (a::t) hi x
 have ht:ZW (a::t)=a:=rfl
 rw[ht]
 split
 ·rename_i hk
  have h4:=E7 (show XP (a::t) x=0 from hk)
  simp at h4 h2
  exact⟨.push (k:=0) h1 (by omega) hf hk (by rw[hk0];rfl) .nil,by simp;omega⟩
 ·rename_i hk
  simp at h2
  exact⟨h1.add (.leaf (by omega) hf hk hk0 .nil),by simp;omega⟩
theorem H8{ns:List Int}:∀(n i:Nat) (fs:List Fd) (op:List Int),Sp op fs→op.length≤5→Sp (XN ns n i fs op).2 (XN ns n i fs op).1∧(XN ns n i fs op).2.length≤5
 |0,i,fs,op,h,hl=>⟨h,hl⟩
 |n+1,i,fs,op,h,hl=>by
  rw[XN]
  split
  ·rename_i hi
   have hs:=Sp.step (x:=ns.getD i 0) h hl hi.2
   exact H8 n (i+1) _ _ hs.1 hs.2
  ·exact⟨h,hl⟩
theorem Ce(ns:List Int):∃(f:Fd) (l:List Fd) (k:Nat),QD ns=f::l∧FOk f∧f.kind=0∧f.rep=0∧f.kids=(k:Nat)∧0<k∧Fo 1 k l:=by
 have h0:Sp [0] fs0:=.root (k:=0) ⟨by decide,by decide,by decide,by decide⟩ rfl rfl rfl .nil
 have h:=H8 (ns:=ns) 12 0 fs0 [0] h0 (by decide)
 rw[QD]
 generalize(XN ns 12 0 [⟨[109],0,0,0⟩] [0])=r at *
 have hl5:(r.2).length≤5:=h.2
 have h:Sp r.2 r.1:=h.1
 rw[Ym]
 obtain⟨a,t,ho,hne⟩:=h.ne
 rw[ho]at h
 obtain⟨h1,h2,k,h3⟩:=h.top
 have ht:ZW r.2=a:=by rw[ho];rfl
 rw[ht]
 split
 ·rename_i hk
  have hz:FOk ⟨[122],0,4,0⟩:=⟨by decide,by decide,by decide,by decide⟩
  have hd:t.length+1≤8:=by rw[ho]at hl5;simp at hl5;omega
  have ha:=h.add (.leaf (f:=⟨[122],0,4,0⟩) hd hz (by decide) rfl .nil)
  refine Sp.close (a::t) _ ha ?_
  show 0<((Xq r.1 a.toNat++[_]).getD a.toNat default).kids
  rw[List.getD_eq_getElem?_getD,List.getElem?_append_left (by rw[Qa];exact h1),Xq,List.getElem?_set_self (by exact h1)]
  show 0<(r.1.getD a.toNat default).kids+1
  omega
 ·rename_i hk
  refine Sp.close (a::t) _ h ?_
  show 0<(r.1.getD a.toNat default).kids
  omega
theorem Fo.all{d k:Nat}{l:List Fd}(h:Fo d k l):∀f∈l,FOk f:=by
 induction h with
 |nil=>intro f hf;cases hf
 |leaf hd hf hk h0 h ih=>
  intro f h
  rcases List.mem_cons.1 h with rfl|h
  ·exact hf
  ·exact ih f h
 |group hd hf hk hm hp h1 h2 ih1 ih2=>
  intro f h
  rcases List.mem_cons.1 h with rfl|h
  ·exact hf
  ·rcases List.mem_append.1 h with h|h
   ·exact ih1 f h
   ·exact ih2 f h
structure PrS(s:List Fd)(t:List UInt8):Prop where
 pr:PrT s 9 1 0 0 t s.length
 ok:PrOk s
 len:t.length≤64*s.length
theorem ER(fs:List Fd)(op:List Int)(i:Nat)(x:Int):(XM fs op i x).1.length=fs.length+1:=by
 simp[XM,Qa]
theorem BP{ns:List Int}:∀(n i:Nat) (fs:List Fd) (op:List Int),(XN ns n i fs op).1.length≤fs.length+n
 |0,_,_,_=>Nat.le_refl _
 |n+1,i,fs,op=>by
  rw[XN]
  split
  ·have:=BP (ns:=ns) n (i+1) (XM fs op i (ns.getD i 0)).1 (XM fs op i (ns.getD i 0)).2
   rw[ER]at this
   show(XN ns n (i+1) (XM fs op i (ns.getD i 0)).1 (XM fs op i (ns.getD i 0)).2).1.length≤_
   omega
  ·show fs.length≤_;omega
theorem WK(ns:List Int):(QD ns).length≤14:=by
 have h:=BP (ns:=ns) 12 0 [⟨[109],0,0,0⟩] [0]
 rw[QD]
 generalize(XN ns 12 0 [⟨[109],0,0,0⟩] [0])=r at *
 have h:r.1.length≤13:=h
 show(Ym r.1 r.2).length≤14
 unfold Ym
 split
 ·simp[Qa];omega
 ·omega
end Go.Proofs.Ytajieadpaeggcaa
