/-
  What a file says of itself,read. The program's. A schema's bytes. The program's. A page,a truth,a value behind bytes. The program's. A chunk behind bytes. The program's. What a file says of itself,as bytes. The program's. What is asked of 'Make',and what it answers. Files' descriptions made of raw numbers,as plain data. Plain. A value of a kind,of a raw one;a number from 0 to n-1;the chapter's example.
-/
import Derived.Test.YtajieadpaeggcaaL9
import Derived.Test.YtajieadpaeggcaaL6
import Derived.Test.YtajieadpaeggcaaL3
import Derived.Test.YtajieadpaeggcaaL2
import Derived.Test.YtajieadpaeggcaaWithin
set_option linter.unusedVariables false
set_option linter.unusedSimpArgs false
namespace Go.Proofs.Ytajieadpaeggcaa
open Go Go.Av
section
set_option maxRecDepth 100000
set_option maxHeartbeats 4000000
theorem Kw(r:BR):(Ql r).1≤1048576:=Zf (by decide) r
theorem Ho(r:BR):GU (Y4 r).1:=by
 have h1:=Kw r
 have h2:=Kw (Ql r).2
 show(0≤(((Ql r).1:Nat):Int)∧(((Ql r).1:Nat):Int)≤1048576)∧(0≤(((Ql (Ql r).2).1:Nat):Int)∧(((Ql (Ql r).2).1:Nat):Int)≤1048576)
 omega
theorem Mi:∀(k:Nat) (r:BR) (s:List Pg),(∀p∈s,GU p)→(∀p∈(Xt k r s).1,GU p)∧(Xt k r s).1.length≤s.length+k
 |0,r,s,h=>⟨h,Nat.le_refl _⟩
 |k+1,r,s,h=>by
  rw[Xt]
  split
  ·exact⟨h,by dsimp only;omega⟩
  ·obtain⟨h1,h2⟩:=Mi k (Y4 r).2 (s++[(Y4 r).1]) fun p hp=>by
    rcases List.mem_append.1 hp with k|k
    ·exact h p k
    ·rw[List.mem_singleton.1 k];exact Ho r
   exact⟨h1,by rw[List.length_append]at h2;simp at h2;omega⟩
theorem Eq(k:Int)(r:BR):(∀p∈(ZX k r).1.pages,GU p)∧(ZX k r).1.pages.length≤200:=by
 obtain⟨h1,h2⟩:=Mi (QX 200 4 (Ds r).2).1 (QX 200 4 (Ds r).2).2 [] (fun p hp=>nomatch hp)
 have h3:=Zf (m:=200) (w:=4) (by decide) (Ds r).2
 refine⟨h1,?_⟩
 show(Xt (QX 200 4 (Ds r).2).1 (QX 200 4 (Ds r).2).2 []).1.length≤200
 simp at h2
 omega
theorem GA:∀(ks:List Int) (r:BR) (s:List Ck),(∀c∈s,(∀p∈c.pages,GU p)∧c.pages.length≤200)→(∀c∈(ZT ks r s).1,(∀p∈c.pages,GU p)∧c.pages.length≤200)∧(ZT ks r s).1.length≤s.length+ks.length
 |[],r,s,h=>⟨h,Nat.le_refl _⟩
 |k::ks,r,s,h=>by
  rw[ZT]
  split
  ·exact⟨h,by dsimp only;omega⟩
  ·obtain⟨h1,h2⟩:=GA ks (ZX k r).2 (s++[(ZX k r).1]) fun p hp=>by
    rcases List.mem_append.1 hp with j|j
    ·exact h p j
    ·rw[List.mem_singleton.1 j];exact Eq k r
   exact⟨h1,by rw[List.length_append]at h2;simp at h2 ⊢;omega⟩
theorem Eb(ks:List Int)(r:BR):RwOk ks.length (X3 ks r).1:=by
 obtain⟨h1,h2⟩:=GA ks (Ql r).2 [] (fun p hp=>nomatch hp)
 have h3:=Kw r
 refine⟨?_,?_,h1⟩
 ·show 0≤(((Ql r).1:Nat):Int)∧(((Ql r).1:Nat):Int)≤1048576;omega
 ·show(ZT ks (Ql r).2 []).1.length≤ks.length
  simpa using h2
theorem Gk(ks:List Int):∀(k:Nat) (r:BR) (s:List Rw),(∀g∈s,RwOk ks.length g)→(∀g∈(Xg ks k r s).1,RwOk ks.length g)∧(Xg ks k r s).1.length≤s.length+k
 |0,r,s,h=>⟨h,Nat.le_refl _⟩
 |k+1,r,s,h=>by
  rw[Xg]
  split
  ·exact⟨h,by dsimp only;omega⟩
  ·obtain⟨h1,h2⟩:=Gk ks k (X3 ks r).2 (s++[(X3 ks r).1]) fun p hp=>by
    rcases List.mem_append.1 hp with j|j
    ·exact h p j
    ·rw[List.mem_singleton.1 j];exact Eb ks r
   exact⟨h1,by rw[List.length_append]at h2;simp at h2;omega⟩
theorem HD(r:BR):MtOk (U4 r).1:=by
 unfold U4
 dsimp only
 split
 ·exact⟨Ve.fs (fs:=[]) (fun f hf=>nomatch hf) (Nat.zero_le _),Nat.zero_le _,fun g hg=>nomatch hg⟩
 ·generalize(Z4 (QX 2000 5 r).1 (QX 2000 5 r).2)=y
  obtain⟨h1,h2⟩:=G7 y.1
  have h4:=Zf (m:=200) (w:=4) (by decide) (Ql (QT y.2 (Xn y.1).2)).2
  obtain⟨h5,h6⟩:=Gk (XZ (Xn y.1).1) (QX 200 4 (Ql (QT y.2 (Xn y.1).2)).2).1 (QX 200 4 (Ql (QT y.2 (Xn y.1).2)).2).2 [] (fun p hp=>nomatch hp)
  refine⟨h1.fs h2,?_,fun g hg=>?_⟩
  ·simp at h6;show(Xg _ _ _ _).1.length≤200;omega
  ·have:=h5 g hg
   rwa [show(XZ (Xn y.1).1).length=(QP (Xn y.1).1).length from List.length_map ..]at this
abbrev OV:CallT:=Qe 26 (Z6 Cw) (Qe 27 (Z6 VV) (Qe 28 (Xw S_whole) Q9))
theorem LW[Syms]:OV.ok Try.prog:=Qc I9 (Qc Vv (Qm EJ Qb))
noncomputable def Ph:Nat→Nat→Pl:=VZ [(15,1),(15,2),(15,8)] (QV plt)
def fpS(r:BR)(m:Mt):St:=⟨[(2,.ptr 1 0 0),(3,.int .i64 0),(4,.ptr 0 0 0),(5,.ptr 2 0 0)],[(0,rdB r),(1,some (.cells [QK .nils 0 .nils] false)),(2,some (.cells [Qv m] false))],3⟩
theorem Gs[Syms]{Post:AVal→Heap→Nat→Prop}{N nx:Nat}{x:Int}{e:Env}{H:Heap}{row:List AVal}{m:Mt}{p:Mt×Int}{rs:List ResultVar}(h2:e.get 2= .ptr 1 0 0)(h3:e.get 3= .int .i64 x)(H1:H.get 1=some (.cells [row] false))(hrow:VE row (Qv m))(hn:Zm 0 nx [0,1]=true)(hp:p=(m,x))
 (hrs:ZR (Qz tys) ⟨[(2,.ptr 1 0 0),(3,.int .i64 x)],[(1,some (.cells [Qv m] false))],2⟩ rs=some (.tup [.agg (Qv m),.int .i64 x])) (hP:Post (.tup [.agg (Qv p.1),.int .i64 p.2]) [] 2):
 ∃s3,Reb 0 N ⟨e,H,nx⟩ s3∧ ∃v,ZR (Qz tys) s3 rs=some v∧UA Post v s3.heap s3.nx:=by
 subst hp
 exact⟨⟨[(2,.ptr 1 0 0),(3,.int .i64 x)],[(1,some (.cells [Qv m] false))],2⟩,Q0 [0,1] hn ⟨by rw[h2];exact .refl _,by rw[h3];exact .refl _,trivial⟩ ⟨⟨Nat.lt_succ_self _,_,H1,Zd hrow (eM m)⟩,trivial⟩,_,hrs,[],fun n b h=>(by rw[Heap.get_nil]at h;cases h),hP⟩
def fpZ(x:Int):St:=⟨[(2,.ptr 1 0 0),(3,.int .i64 x)],[(1,some (.cells [Qv mt0] false))],2⟩
theorem Jt[Syms]{N nx:Nat}{e:Env}{H:Heap}{x x':Int}(h2:e.get 2= .ptr 1 0 0)(h3:e.get 3= .int .i64 x')(hx:x'=x)(H1:H.get 1=some (.cells [[.nils,.int .i64 0,.nils]] false))(hn:Zm 0 nx [0,1]=true):Reb 0 N ⟨e,H,nx⟩ (fpZ x):=by
 subst hx
 exact Q0 [0,1] hn ⟨by rw[h2];exact .refl _,by rw[h3];exact .refl _,trivial⟩ ⟨⟨Nat.lt_succ_self _,_,H1,Zd (row:=Qv mt0) ⟨.zero _ _ rfl,.refl _,.zero _ _ rfl,trivial⟩ (eM mt0)⟩,trivial⟩
def MA(q:Mt×BR):Mt×Int:=
 let r1:=if q.2.b≠[]then QT q.2 9 else q.2
 let r2:=if r1.e=0∧W0 q.1=false then QT r1 10 else r1
 if r2.e≠0 then(mt0,r2.e)else(q.1,0)
theorem Dj{m:Mt}{r r1 r2:BR}(h1:(if r.b≠[]then QT r 9 else r)=r1)(h2:(if r1.e=0∧W0 m=false then QT r1 10 else r1)=r2):MA (m,r)=if r2.e≠0 then(mt0,r2.e)else(m,0):=by subst h1 h2;rfl
theorem Mz{m:Mt}{b:List UInt8}{e:Int}(h:e≠0):MA (m,⟨b,e⟩)=(mt0,e):=by
 have hf:QT ⟨b,e⟩ 9=⟨b,e⟩:=if_neg h
 have he:(if b≠[]then QT ⟨b,e⟩ 9 else⟨b,e⟩)=⟨b,e⟩:=by rw[hf];split<;>rfl
 exact(Dj he (if_neg (fun hh=>h hh.1))).trans (if_pos h)
theorem Bj{m:Mt}{b:List UInt8}(h:b≠[]):MA (m,⟨b,0⟩)=(mt0,9):=
 (Dj (r1:=⟨b,9⟩) (r2:=⟨b,9⟩) (if_pos h) (if_neg (fun hh=>absurd (show(9:Int)=0 from hh.1) (by decide)))).trans (if_pos (show(9:Int)≠0 by decide))
theorem Eh{m:Mt}:MA (m,⟨[],0⟩)=if W0 m=false then(mt0,10)else(m,0):=by
 unfold MA
 cases h:W0 m<;>simp[h,QT]
theorem I4[Syms]{Post:AVal→Heap→Nat→Prop}(b:List UInt8)(hl:b.length≤1000000)(p:Mt×Int)(hp:p=Jq b)(hP:Post (.tup [.agg (Qv p.1),.int .i64 p.2]) [] 2):
 fnT Q9 OV (QN fns) (Qz tys) Ph 100 15 [vB b] [] 0 (UA Post):=by
 repeat' first|refine And.intro ?_ ?_|(intro h;try first|exact dz|replace h:=cv)
 all_goals try exact cz
 refine⟨⟨[(2,.ptr 1 0 0),(3,.int .i64 0),(4,.ptr 0 0 0)],[(0,rdB ⟨b,0⟩),(1,some (.cells [QK .nils 0 .nils] false))],2⟩,Q0 [1,0] (by exact rfl) ⟨.refl _,.refl _,.refl _,trivial⟩ ⟨⟨by decide,_,rfl,.refl _⟩,⟨by decide,_,rfl,.refl _⟩,trivial⟩,?_⟩
 refine⟨[0],[.ptr 0 0 0],[(0,rdB ⟨b,0⟩)],rfl,⟨.refl _,trivial⟩,⟨⟨by decide,_,rfl,.refl _⟩,trivial⟩,⟨b,0⟩,rfl,rfl,rfl,hl,?_⟩
 have hok:=HD ⟨b,0⟩
 have hp:p=MA (U4 ⟨b,0⟩):=hp
 generalize U4 ⟨b,0⟩=q at *
 obtain⟨m,b',e'⟩:=q
 dsimp only at hok
 repeat' first|refine And.intro ?_ ?_|(intro h;try first|exact dz|replace h:=cv)
 all_goals try exact cz
 refine⟨fpS ⟨b',e'⟩ m,Q0 [0,1,4] (by exact rfl) ⟨.refl _,.refl _,.refl _,.refl _,trivial⟩ ⟨⟨by decide,_,rfl,.refl _⟩,⟨by decide,_,rfl,.refl _⟩,⟨by decide,_,rfl,Zd (row:=Qv m) ⟨.refl _,.refl _,.refl _,trivial⟩ (eM _)⟩,trivial⟩,?_⟩
 by_cases hb:b'=[]
 ·subst hb
  by_cases he:e'=0
  ·subst he
   rw[Eh]at hp
   cases hw:W0 m
   ·rw[if_pos hw]at hp
    repeat' first|refine And.intro ?_ ?_|(intro h;try first|exact dzq|replace h:=cvq)
    all_goals try exact cz
    refine⟨m,rfl,hok,?_⟩
    have hx1:=hw
    have hx2:=hw
    have hx3:=hw
    have hx4:=hw
    repeat' first|refine And.intro ?_ ?_|(intro h;try first|exact XF|replace h:=XG)
    all_goals try exact cz
    refine⟨[0],[.ptr 0 0 0,.int .i64 10],[(0,rdB ⟨[],0⟩)],rfl,⟨.refl _,.refl _,trivial⟩,⟨⟨by decide,_,rfl,.refl _⟩,trivial⟩,⟨[],0⟩,10,rfl,rfl,rfl,?_⟩
    rw[show QT ⟨[],0⟩ 10=⟨[],10⟩ from rfl,show rdB ⟨[],10⟩=some (.cells [[vB [],.int .i64 10]] false) from rfl]
    have hx1:=fun ρ=>Yb ρ ([]) (10)
    have hx2:=hx1
    have hx3:=hx1
    have hx4:=hx1
    repeat' first|refine And.intro ?_ ?_|(intro h;try first|exact XF|replace h:=XG)
    all_goals try exact cz
    refine⟨fpZ (10),?_,?_⟩
    · repeat' first|refine And.intro ?_ ?_|(intro h;try first|exact XF|replace h:=XG)
      all_goals try exact cz
      all_goals exact Exists.intro () (Jt rfl rfl rfl rfl (by exact rfl))
    ·exact Gs (row:=Qv mt0) (m:=mt0) rfl rfl rfl ⟨.refl _,.refl _,.refl _,trivial⟩ (by exact rfl) hp (by exact rfl) hP
   ·rw[if_neg (by rw[hw];decide)]at hp
    repeat' first|refine And.intro ?_ ?_|(intro h;try first|exact dzq|replace h:=cvq)
    all_goals try exact cz
    refine⟨m,rfl,hok,?_⟩
    have hx1:=hw
    have hx2:=hw
    have hx3:=hw
    have hx4:=hw
    repeat' first|refine And.intro ?_ ?_|(intro h;try first|exact XF|replace h:=XG)
    all_goals try exact cz
    exact Gs (row:=Qv m) (m:=m) rfl rfl rfl ⟨.refl _,.refl _,.refl _,trivial⟩ (by exact rfl) hp (by exact rfl) hP
  ·rw[Mz he]at hp
   repeat' first|refine And.intro ?_ ?_|(intro h;try first|exact dzq|replace h:=cvq)
   all_goals try exact cz
   have hx1:=he
   have hx2:=he
   have hx3:=he
   have hx4:=he
   refine⟨fpZ (e'),?_,?_⟩
   · repeat' first|refine And.intro ?_ ?_|(intro h;try first|exact XF|replace h:=XG)
     all_goals try exact cz
     all_goals exact Exists.intro () (Jt rfl rfl rfl rfl (by exact rfl))
   ·exact Gs (row:=Qv mt0) (m:=mt0) rfl rfl rfl ⟨.refl _,.refl _,.refl _,trivial⟩ (by exact rfl) hp (by exact rfl) hP
 ·have hbl:=List.length_pos_iff.2 hb
  repeat' first|refine And.intro ?_ ?_|(intro h;try first|exact dzq|replace h:=cvq)
  all_goals try exact cz
  refine⟨[0],[.ptr 0 0 0,.int .i64 9],[(0,rdB ⟨b',e'⟩)],rfl,⟨.refl _,.refl _,trivial⟩,⟨⟨by decide,_,rfl,.refl _⟩,trivial⟩,⟨b',e'⟩,9,rfl,rfl,rfl,?_⟩
  by_cases he:e'=0
  ·subst he
   rw[Bj hb]at hp
   rw[show QT ⟨b',0⟩ 9=⟨b',9⟩ from rfl,show rdB ⟨b',9⟩=some (.cells [[vB b',.int .i64 9]] false) from rfl]
   have hx1:=fun ρ=>Yb ρ (b') (9)
   have hx2:=hx1
   have hx3:=hx1
   have hx4:=hx1
   repeat' first|refine And.intro ?_ ?_|(intro h;try first|exact XF|replace h:=XG)
   all_goals try exact cz
   refine⟨fpZ (9),?_,?_⟩
   · repeat' first|refine And.intro ?_ ?_|(intro h;try first|exact XF|replace h:=XG)
     all_goals try exact cz
     all_goals exact Exists.intro () (Jt rfl rfl rfl rfl (by exact rfl))
   ·exact Gs (row:=Qv mt0) (m:=mt0) rfl rfl rfl ⟨.refl _,.refl _,.refl _,trivial⟩ (by exact rfl) hp (by exact rfl) hP
  ·rw[Mz he]at hp
   rw[show QT ⟨b',e'⟩ 9=⟨b',e'⟩ from if_neg he,show rdB ⟨b',e'⟩=some (.cells [[vB b',.int .i64 e']] false) from rfl]
   have hx1:=fun ρ=>Yb ρ (b') (e')
   have hx2:=hx1
   have hx3:=hx1
   have hx4:=hx1
   repeat' first|refine And.intro ?_ ?_|(intro h;try first|exact XF|replace h:=XG)
   all_goals try exact cz
   refine⟨fpZ (e'),?_,?_⟩
   · repeat' first|refine And.intro ?_ ?_|(intro h;try first|exact XF|replace h:=XG)
     all_goals try exact cz
     all_goals exact Exists.intro () (Jt rfl rfl rfl rfl (by exact rfl))
   ·exact Gs (row:=Qv mt0) (m:=mt0) rfl rfl rfl ⟨.refl _,.refl _,.refl _,trivial⟩ (by exact rfl) hp (by exact rfl) hP
def DK:SpecT:=fun args H nx Post=>∃b,args=[vB b]∧H=[]∧nx=0∧b.length≤1000000∧Post (.tup [.agg (Qv (Jq b).1),.int .i64 (Jq b).2]) [] 2
theorem Ee[Syms]:DK.ok Try.prog 15:=by
 rintro args H nx Post ⟨b,rfl,rfl,rfl,h1,h⟩
 exact XI.forget (QC Qp Qq Q5 LW QJ (I4 b h1 _ rfl h))
end
section
set_option maxRecDepth 100000
set_option maxHeartbeats 4000000
end
section
set_option maxRecDepth 100000
set_option maxHeartbeats 4000000
def Vc(x:Int):Prop:=0≤x∧x<128^9
def GV(x:Int):Prop:=0≤x∧x<4294967296
structure PgB(p:Pg):Prop where
 n1:Vc p.rows
 n2:Vc p.cells
 n3:Vc p.enc
 n4:Vc p.rlen
 n5:Vc p.dlen
 n6:Vc p.vlen
 crc:GV p.crc
end
section
set_option maxRecDepth 100000
set_option maxHeartbeats 4000000
structure CkB(c:Ck):Prop where
 n1:Vc c.words
 n2:Vc c.size
 crc:GV c.crc
 nulls:Vc c.st.nulls
 pages:∀p∈c.pages,PgB p
 len:c.pages.length≤100000
end
section
set_option maxRecDepth 100000
set_option maxHeartbeats 4000000
structure RwB(L:Nat)(g:Rw):Prop where
 n:Vc g.n
 len:g.chunks.length≤L
 chunks:∀c∈g.chunks,CkB c
structure MtB(m:Mt):Prop where
 fs:FsOk m.s
 sb:∀f∈m.s,(0≤f.rep∧f.rep<256)∧(0≤f.kind∧f.kind<256)∧0≤f.kids∧f.kids<1000000
 n:Vc m.n
 len:m.groups.length≤100000
 groups:∀g∈m.groups,RwB (QP m.s).length g
end
def S_make:SpecI:=fun args K=>∃ns,args=[vI ns]∧(ns.length≤9223372036854775807∧K (vF (QD ns)))
theorem HG[Syms]:Zi Try.prog 20 S_make:=by
 rintro args K ⟨ns,rfl,h,hk⟩
 exact⟨rfl,_,rfl,hk,fnI Qp Qq LT O9 QJ (NN ns h)⟩
def dv(g n:Int):Int:=wr .i64 (g.tdiv n)
def pgM(g r:Int):Pg:=⟨r,r+wi g 9,wi g 2,wi (dv g 2) 300,wi (dv g 5) 300,wi (dv g 9) 3000,wr .u32 (wr .u32 g*77)⟩
def Xp(g left:Int):Int:=if 1+wi (dv g 7) 20<left then 1+wi (dv g 7) 20 else left
def Zk(g:Int):Nat→Int→List Pg
 |0,_=>[]
 |f+1,left=>if 0<left then pgM g (Xp g left)::Zk g f (left-Xp g left)else[]
def d2(p:Pg):Pg:={p with enc:=2}
def nM(g:Int):Int:=1+wi g 40
def XK(g:Int)(k:Nat):Ck:=
 if wi (dv g 11) 3=0 then⟨wi g 257,wi (dv g 13) 9000,wr .u32 g,(Zk g 40 (nM g)).map d2,decide (0<wi (dv g 3+k) 3),default⟩
 else⟨0,0,0,Zk g 40 (nM g),decide (0<wi (dv g 3+k) 3),default⟩
def Qo(kind:Int)(v:Vl):Vl:=if kind=1 then⟨wi v.n 2,[]⟩else if kind=2 then⟨wr .i32 v.n,[]⟩else if kind=3 then⟨v.n,[]⟩else⟨0,v.s.take 100⟩
def QA(g:Int)(k:Nat)(kind:Int)(l:List Vl)(a:Nat):Ck×Nat:=
 if(XK g k).known=true∧0<l.length then
  ({XK g k with st:=⟨wi g (nM g+1),true,Qo kind (l.getD (a%l.length) default),Qo kind (l.getD (a%l.length) default)⟩},a+1)
 else(XK g k,a)
def QZ(g:Int)(l:List Vl):List Int→Nat→Nat→List Ck×Nat
 |[],_,a=>([],a)
 |kd::ks,k,a=>((QA g k kd l a).1::(QZ g l ks (k+1) (QA g k kd l a).2).1,(QZ g l ks (k+1) (QA g k kd l a).2).2)
def Ze(ks:List Int)(l:List Vl):List Int→Nat→List Rw×Nat
 |[],a=>([],a)
 |g::gs,a=>(⟨nM g,(QZ g l ks 0 a).1⟩::(Ze ks l gs (QZ g l ks 0 a).2).1,(Ze ks l gs (QZ g l ks 0 a).2).2)
def W6(ns gs:List Int)(l:List Vl):Mt:=⟨QD ns,Z5 (Ze (XZ (QD ns)) l (gs.take 4) 0).1,(Ze (XZ (QD ns)) l (gs.take 4) 0).1⟩
abbrev vV(l:List Vl):AVal:=vT 2 Yi default l
def I64(x:Int):Prop:=-9223372036854775808≤x∧x≤9223372036854775807
theorem XL{a n:Int}(hn:0<n):0≤wi a n∧wi a n<n:=WD hn
theorem U3(g:Int):1≤nM g∧nM g≤40:=by
 have:=XL (a:=g) (n:=40) (by decide)
 unfold nM;omega
theorem UB{g left:Int}(h:0<left):1≤Xp g left∧Xp g left≤left∧Xp g left≤20:=by
 have:=XL (a:=dv g 7) (n:=20) (by decide)
 unfold Xp
 split<;>omega
theorem Y3{g left:Int}{f:Nat}(h:0<left):Zk g (f+1) left=pgM g (Xp g left)::Zk g f (left-Xp g left):=by rw[Zk,if_pos h]
theorem Ug{g left:Int}{f:Nat}(h:¬0<left):Zk g f left=[]:=by
 cases f with
 |zero=>rfl
 |succ f=>rw[Zk,if_neg h]
theorem XY(g:Int):∀(f:Nat) (left:Int),(Zk g f left).length≤f
 |0,_=>Nat.le_refl _
 |f+1,left=>by
  rw[Zk]
  split
  ·rw[List.length_cons];have:=XY g f (left-Xp g left);omega
  ·exact Nat.zero_le _
theorem Wp(g:Int)(l:List Vl):∀(ks:List Int) (k a:Nat),(QZ g l ks k a).1.length=ks.length
 |[],_,_=>rfl
 |kd::ks,k,a=>by rw[QZ,List.length_cons,Wp g l ks,List.length_cons]
theorem MK(g:Int)(k:Nat)(kd:Int)(l:List Vl)(a:Nat):(QA g k kd l a).2≤a+1:=by
 unfold QA
 split
 ·exact Nat.le_refl _
 ·exact Nat.le_succ _
theorem GB(g:Int)(l:List Vl):∀(ks:List Int) (k a:Nat),(QZ g l ks k a).2≤a+ks.length
 |[],_,_=>Nat.le_refl _
 |kd::ks,k,a=>by
  have h1:=MK g k kd l a
  have h2:=GB g l ks (k+1) (QA g k kd l a).2
  rw[QZ,List.length_cons]
  show(QZ g l ks (k+1) (QA g k kd l a).2).2≤_
  omega
def Xf(ks:List Int)(l:List Vl)(gs:List Int):Nat→List Rw×Nat
 |0=>([],0)
 |i+1=>((Xf ks l gs i).1++[⟨nM (gs.getD i 0),(QZ (gs.getD i 0) l ks 0 (Xf ks l gs i).2).1⟩],(QZ (gs.getD i 0) l ks 0 (Xf ks l gs i).2).2)
theorem J6(ks:List Int)(l:List Vl):∀(x y:List Int) (a:Nat),Ze ks l (x++y) a=((Ze ks l x a).1++(Ze ks l y (Ze ks l x a).2).1,(Ze ks l y (Ze ks l x a).2).2)
 |[],y,a=>rfl
 |g::x,y,a=>by
  rw[List.cons_append,Ze,Ze,J6 ks l x y]
  rfl
theorem Fb(ks:List Int)(l:List Vl)(gs:List Int):∀i,i≤gs.length→Xf ks l gs i=Ze ks l (gs.take i) 0
 |0,_=>by rw[List.take_zero];rfl
 |i+1,h=>by
  have ih:=Fb ks l gs i (by omega)
  have e:gs.take (i+1)=gs.take i++[gs.getD i 0]:=by
   rw[List.take_add_one,List.getD_eq_getElem?_getD,List.getElem?_eq_getElem (by omega)];rfl
  rw[Xf,ih,e,J6]
  rfl
def ZG(g:Int)(l:List Vl)(ks:List Int)(a:Nat):Nat→List Ck×Nat
 |0=>([],a)
 |k+1=>((ZG g l ks a k).1++[(QA g k (ks.getD k 0) l (ZG g l ks a k).2).1],(QA g k (ks.getD k 0) l (ZG g l ks a k).2).2)
theorem Jc(g:Int)(l:List Vl):∀(x y:List Int) (k a:Nat),QZ g l (x++y) k a=((QZ g l x k a).1++(QZ g l y (k+x.length) (QZ g l x k a).2).1,(QZ g l y (k+x.length) (QZ g l x k a).2).2)
 |[],y,k,a=>rfl
 |q::x,y,k,a=>by
  rw[List.cons_append,QZ,QZ,Jc g l x y,List.length_cons]
  rw[show k+1+x.length=k+(x.length+1) by omega]
  rfl
theorem Fq(g:Int)(l:List Vl)(ks:List Int)(a:Nat):∀k,k≤ks.length→ZG g l ks a k=QZ g l (ks.take k) 0 a
 |0,_=>by rw[List.take_zero];rfl
 |k+1,h=>by
  have ih:=Fq g l ks a k (by omega)
  have e:ks.take (k+1)=ks.take k++[ks.getD k 0]:=by
   rw[List.take_add_one,List.getD_eq_getElem?_getD,List.getElem?_eq_getElem (by omega)];rfl
  rw[ZG,ih,e,Jc,List.length_take,Nat.min_eq_left (by omega),Nat.zero_add]
  rfl
theorem Fr(g:Int)(l:List Vl)(ks:List Int)(a:Nat):∀k,(ZG g l ks a k).2≤a+k
 |0=>Nat.le_refl _
 |k+1=>by
  have h1:=Fr g l ks a k
  have h2:=MK g k (ks.getD k 0) l (ZG g l ks a k).2
  show(QA g k (ks.getD k 0) l (ZG g l ks a k).2).2≤_
  omega
theorem Fc(ks:List Int)(l:List Vl)(gs:List Int):∀i,(Xf ks l gs i).2≤i*ks.length
 |0=>by simp[Xf]
 |i+1=>by
  have h1:=Fc ks l gs i
  have h2:=GB (gs.getD i 0) l ks 0 (Xf ks l gs i).2
  show(QZ (gs.getD i 0) l ks 0 (Xf ks l gs i).2).2≤_
  rw[Nat.add_mul,Nat.one_mul];omega
section
set_option maxRecDepth 100000
set_option maxHeartbeats 4000000
def G_wi:List AVal→(AVal→Prop)→Prop:=fun args K=>∃a n,args=[.int .i64 a,.int .i64 n]∧(0<n∧n≤4611686018427387904)∧K (.int .i64 (wi a n))
theorem IQ[Syms]:DI Try.prog 49 G_wi:=by
 rintro args K ⟨a,n,rfl,⟨h1,h2⟩,hk⟩
 refine⟨Jk,_,hk,fun ι w vs hv=>?_⟩
 obtain⟨v0,vs0,rfl,hv0,hv⟩:=hv.uncons
 obtain⟨v1,vs1,rfl,hv1,hv⟩:=hv.uncons
 obtain rfl:=hv.unnil
 obtain rfl:=hv0.of_int
 obtain rfl:=hv1.of_int
 refine(Ub a n h1 h2 w).mono ?_
 rintro e w' ⟨rfl,rfl⟩
 exact⟨_,rfl,.int _ _,rfl⟩
theorem BG[Syms]:DI Try.prog 13 G_wi:=by
 rintro args K ⟨a,n,rfl,⟨h1,h2⟩,hk⟩
 refine⟨Jj,_,hk,fun ι w vs hv=>?_⟩
 obtain⟨v0,vs0,rfl,hv0,hv⟩:=hv.uncons
 obtain⟨v1,vs1,rfl,hv1,hv⟩:=hv.uncons
 obtain rfl:=hv.unnil
 obtain rfl:=hv0.of_int
 obtain rfl:=hv1.of_int
 refine(Ua a n h1 h2 w).mono ?_
 rintro e w' ⟨rfl,rfl⟩
 exact⟨_,rfl,.int _ _,rfl⟩
abbrev cGd:CallT:=Qe 49 (DO G_wi) Q9
theorem Ol[Syms]:cGd.ok Try.prog:=UF IQ Qb
theorem Fg[Syms]{N nx:Nat}{e:Env}{H:Heap}{row:List AVal}{v:Vl}{rs:List ResultVar}(hk:e.get 4= .ptr 1 0 0)(H1:H.get 1=some (.cells [row] false))(hrow:VE row (Yi v))(hn:Zm 0 nx [0,1]=true)
 (hrs:ZR (Qz tys) ⟨[(4,.ptr 1 0 0)],[(1,some (.cells [Yi v] false))],2⟩ rs=some (.agg (Yi v))):
 ∃s3,Reb 0 N ⟨e,H,nx⟩ s3∧ ∃u,ZR (Qz tys) s3 rs=some u∧UA (fun u H _=>u= .agg (Yi v)∧H=[]) u s3.heap s3.nx:=
 ⟨⟨[(4,.ptr 1 0 0)],[(1,some (.cells [Yi v] false))],2⟩,Q0 [0,1] hn ⟨by rw[hk];exact .refl _,trivial⟩ ⟨⟨Nat.lt_succ_self _,_,H1,Zd hrow (fV v)⟩,trivial⟩,_,hrs,[],fun n b h=>(by rw[Heap.get_nil]at h;cases h),rfl,rfl⟩
theorem IW(s:List UInt8):((s.drop 0).take ((if(100:Int)<(s.length:Int)then 100 else(s.length:Int)).toNat-0))=s.take 100:=by
 rw[List.drop_zero]
 split
 ·rfl
 ·rw[List.take_of_length_le (by omega),List.take_of_length_le (by omega)]
theorem NT[Syms](k:Int)(v:Vl):fnT Q9 cGd (QN fns) (Qz tys) (QV plt) 100 22 [.int .i64 k,.agg (Yi v)] [] 0 (UA (fun u H _=>u= .agg (Yi (Qo k v))∧H=[])):=by
 unfold Qo
 by_cases h1:k=1
 ·rw[if_pos h1]
  repeat' first|refine And.intro ?_ ?_|(intro h;try first|exact dzq|replace h:=cvq)
  all_goals try exact cz
  refine⟨v.n,2,rfl,by decide,?_⟩
  repeat' first|refine And.intro ?_ ?_|(intro h;try first|exact dzq|replace h:=cvq)
  all_goals try exact cz
  exact Fg (v:=⟨wi v.n 2,[]⟩) rfl rfl ⟨.refl _,.refl _,trivial⟩ (by exact rfl) (by exact rfl)
 rw[if_neg h1]
 by_cases h2:k=2
 ·rw[if_pos h2]
  have hw:=OE v.n
  repeat' first|refine And.intro ?_ ?_|(intro h;try first|exact dzq|replace h:=cvq)
  all_goals try exact cz
  exact Fg (v:=⟨wr .i32 v.n,[]⟩) rfl rfl ⟨Qg hw,.refl _,trivial⟩ (by exact rfl) (by exact rfl)
 rw[if_neg h2]
 by_cases h3:k=3
 ·rw[if_pos h3]
  repeat' first|refine And.intro ?_ ?_|(intro h;try first|exact dzq|replace h:=cvq)
  all_goals try exact cz
  exact Fg (v:=⟨v.n,[]⟩) rfl rfl ⟨.refl _,.refl _,trivial⟩ (by exact rfl) (by exact rfl)
 rw[if_neg h3]
 repeat' first|refine And.intro ?_ ?_|(intro h;try first|exact dzq|replace h:=cvq)
 all_goals try exact cz
 exact Fg (v:=⟨0,v.s.take 100⟩) rfl rfl ⟨.refl _,EH (IW v.s),trivial⟩ (by exact rfl) (by exact rfl)
def S_good:SpecI:=fun args K=>∃k v,args=[.int .i64 k,.agg (Yi v)]∧K (.agg (Yi (Qo k v)))
theorem Lr[Syms]:Zi Try.prog 22 S_good:=by
 rintro args K ⟨k,v,rfl,hk⟩
 exact⟨rfl,_,rfl,hk,XI.forget (QC Qp Qq Q5 Ol QJ (NT k v))⟩
abbrev cKn:CallT:=Qe 15 (Z6 DK) Q9
theorem Ok[Syms]:cKn.ok Try.prog:=Qc Ee Qb
theorem E6[Syms]:fnT Q9 cKn (QN fns) (Qz tys) (QV plt) 100 10 [] [] 0 (fun v H _=>v= .bool true∧H=[]):=by
 refine⟨[],[vB []],[],rfl,⟨.zeroT 1 _ _ rfl,trivial⟩,trivial,[],rfl,rfl,rfl,Nat.zero_le _,?_⟩
 have hp:Jq []=(mt0,8):=rfl
 rw[hp]
 repeat' first|refine And.intro ?_ ?_|(intro h;try first|exact dzq|replace h:=cvq)
 all_goals try exact cz
 exact⟨_,Q4 [0] rfl,_,rfl,rfl,rfl⟩
def S_known19:SpecI:=fun args K=>args=[]∧K (.bool true)
theorem Bd[Syms]:Zi Try.prog 10 S_known19:=by
 rintro args K ⟨rfl,hk⟩
 exact⟨rfl,_,rfl,hk,QC Qp Qq Q5 Ok QJ E6⟩
end
end Go.Proofs.Ytajieadpaeggcaa
