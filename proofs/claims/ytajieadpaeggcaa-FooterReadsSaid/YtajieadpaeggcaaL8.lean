/-
  A file's description,read:a chunk. The document's. The document's 'Sign','Name','twice'. The document's 'lacks','Check'. A schema's bytes,read. The document's.
-/
import Derived.Test.YtajieadpaeggcaaL7
import Derived.Test.YtajieadpaeggcaaL3
import Derived.Test.YtajieadpaeggcaaL2
import Derived.Test.YtajieadpaeggcaaL4
import Derived.Test.YtajieadpaeggcaaL5
set_option linter.unusedVariables false
set_option linter.unusedSimpArgs false
namespace Go.Proofs.Ytajieadpaeggcaa
open Go Go.Av
section
set_option maxRecDepth 100000
set_option maxHeartbeats 4000000
theorem Qb{α β:Type}{P:Rdr α}{Q:α→Rdr β}{B:List UInt8}{a a':Nat}{e e':Int}{v:α}(h:P B a e=(v,a',e')):Zl P Q B a e=Q v B a' e':=by unfold Zl;rw[h]
theorem VE{α:Type}(d:α)(P:Rdr α)(B:List UInt8)(a:Nat):Kl d P B a 0=P B a 0:=if_neg (fun k=>k rfl)
def D0:SpecT:=fun args H nx Post=>∃B a e v a' e',args=[.ptr 0 0 0]∧H=[(0,rrB B a e)]∧nx=1∧(B.length≤1000000∧a≤B.length)∧plainP B a e=(v,a',e')∧Post (.int .i64 (v:Nat)) [(0,rrB B a' e')] 1
theorem DJ[Syms]:D0.ok Try.prog 33:=by
 rintro args H nx Post ⟨B,a,e,v,a',e',h1,h2,h3,h4,h5,h⟩
 exact EF args H nx Post ⟨B,a,e,h1,h2,h3,h4,by rw[h5];exact h⟩
def Ht:SpecT:=fun args H nx Post=>∃B a e n v a' e',args=[.ptr 0 0 0,.int .i64 (n:Nat)]∧H=[(0,rrB B a e)]∧nx=1∧(B.length≤1000000∧a≤B.length∧n≤8)∧XB n B a e=(v,a',e')∧Post (.int .u64 (v:Nat)) [(0,rrB B a' e')] 1
theorem In[Syms]:Ht.ok Try.prog 63:=by
 rintro args H nx Post ⟨B,a,e,n,v,a',e',h1,h2,h3,h4,h5,h⟩
 exact MF args H nx Post ⟨B,a,e,n,h1,h2,h3,h4,by rw[h5];exact h⟩
def BX:SpecT:=fun args H nx Post=>∃B a e most w v a' e',args=[.ptr 0 0 0,.int .i64 (most:Nat),.int .i64 w]∧H=[(0,rrB B a e)]∧nx=1∧(B.length≤1000000∧a≤B.length∧most≤2000000∧w≠0)∧X5 most w B a e=(v,a',e')∧Post (.int .i64 (v:Nat)) [(0,rrB B a' e')] 1
theorem BB[Syms]:BX.ok Try.prog 31:=by
 rintro args H nx Post ⟨B,a,e,most,w,v,a',e',h1,h2,h3,h4,h5,h⟩
 exact ME args H nx Post ⟨B,a,e,most,w,h1,h2,h3,h4,by rw[h5];exact h⟩
def IL:SpecT:=fun args H nx Post=>∃B a e v a' e' b,args=[.ptr 0 0 0]∧H=[(0,rrB B a e)]∧nx=1∧(B.length≤1000000∧a≤B.length)∧truthP B a e=(v,a',e')∧decide (v=1)=b∧Post (.bool b) [(0,rrB B a' e')] 1
theorem OI[Syms]:IL.ok Try.prog 65:=by
 rintro args H nx Post ⟨B,a,e,v,a',e',b,h1,h2,h3,h4,h5,rfl,h⟩
 exact IZ args H nx Post ⟨B,a,e,h1,h2,h3,h4,by rw[h5];exact h⟩
def Ph:SpecT:=fun args H nx Post=>∃k B a e v a' e',args=[.ptr 0 0 0,.int .i64 k]∧H=[(0,rrB B a e)]∧nx=1∧(B.length≤1000000∧a≤B.length)∧Wr k B a e=(v,a',e')∧Post (.agg (ZX v)) [(0,rrB B a' e')] 2
theorem RD[Syms]:Ph.ok Try.prog 66:=by
 rintro args H nx Post ⟨k,B,a,e,v,a',e',h1,h2,h3,h4,h5,h⟩
 exact Ns args H nx Post ⟨k,B,a,e,h1,h2,h3,h4,by rw[h5];exact h⟩
abbrev cOne:CallT:=Q6 33 (QG D0) (Q6 63 (QG Ht) (Q6 31 (QG BX) (Q6 65 (QG IL) (Q6 66 (QG Ph) Q7))))
theorem S6[Syms]:cOne.ok Try.prog:=Q4 DJ (Q4 In (Q4 BB (Q4 OI (Q4 RD Q9))))
noncomputable def Q0p:Nat→Nat→Pl:=XD [(34,9),(34,10),(34,11),(34,12),(34,13),(34,14),(34,15),(34,16),(34,20)] (Qz plt)
def onS(k:Int)(n i:Nat)(B:List UInt8)(a:Nat)(e:Int)(v1 v2 v3:Int)(sl:AVal)(tl:Heap):St:=⟨[(0,.ptr 0 0 0),(1,.int .i64 k),(4,.ptr 1 0 0),(5,.ptr 2 0 0),(6,.int .i64 n),(7,.int .i64 i)],(0,rrB B a e)::(1,some (.cells [Y2 0 0 0 .nils] false))::(2,some (.cells [Y2 v1 v2 v3 sl] false))::tl,4⟩
def onP(k:Int)(n i:Nat)(B:List UInt8)(a:Nat)(e:Int)(v1 v2 v3:Int)(sl:AVal)(tl:Heap)(row:List AVal):St:=⟨[(0,.ptr 0 0 0),(1,.int .i64 k),(4,.ptr 1 0 0),(5,.ptr 2 0 0),(6,.int .i64 n),(7,.int .i64 i),(8,.ptr 4 0 0)],(0,rrB B a e)::(1,some (.cells [Y2 0 0 0 .nils] false))::(2,some (.cells [Y2 v1 v2 v3 sl] false))::(4,some (.cells [row] false))::tl,5⟩
theorem Bo[Syms]{N K nx:Nat}{en:Env}{H:Heap}{k v1 v2 v3 i1:Int}{n i:Nat}{B:List UInt8}{a:Nat}{e:Int}{ps:List Pg}{rows:List (List AVal)}{len:Nat}(hn:QJ 1 nx [0,1,2,K]=true)(h0:en.get 0= .ptr 0 0 0)(h1:en.get 1= .int .i64 k)(h4:en.get 4= .ptr 1 0 0)(h5:en.get 5= .ptr 2 0 0)(h6:en.get 6= .int .i64 n)(h7:en.get 7= .int .i64 i1)(hi:i1=i)
 (H0:H.get 0=rrB B a e) (H1:H.get 1=some (.cells [Y2 0 0 0 .nils] false)) (H2:H.get 2=some (.cells [Y2 v1 v2 v3 (.slice K 0 len 7 none)] false)) (HK:H.get K=some (.cells rows false)) (hr:rows=ps.map encP) (hl:len=ps.length):Reb 1 N ⟨en,H,nx⟩ (onS k n i B a e v1 v2 v3 (.slice 3 0 ps.length 7 none) [(3,some (.cells (ps.map encP) false))]):=by
 subst hr hl hi
 exact Q0 [0,1,2,K] hn ⟨by rw[h0];exact .refl _,by rw[h1];exact .refl _,by rw[h4];exact .refl _,by rw[h5];exact .refl _,by rw[h6];exact .refl _,by rw[h7];exact .refl _,trivial⟩
  ⟨⟨show 0<4 by decide,_,H0,.refl _⟩,⟨show 1<4 by decide,_,H1,.refl _⟩,⟨show 2<4 by decide,_,H2,.refl _⟩,⟨show 3<4 by decide,_,HK,Qa (fP _)⟩,trivial⟩
def onG(k:Int)(B:List UInt8)(a:Nat)(e:Int)(v1 v2 v3:Int)(ps:List Pg)(kn:Bool)(nu:Int)(ha:Bool):St:=⟨[(0,.ptr 0 0 0),(1,.int .i64 k),(4,.ptr 1 0 0),(5,.ptr 2 0 0)],[(0,rrB B a e),(1,some (.cells [Y2 0 0 0 .nils] false)),(2,some (.cells [XP v1 v2 v3 (.vs 7 (ps.map encP)) kn nu ha] false))],3⟩
theorem M2[Syms]{N K nx:Nat}{en:Env}{H:Heap}{k v1 v2 v3:Int}{B:List UInt8}{a:Nat}{e:Int}{ps:List Pg}{kn:Bool}{row:List AVal}(hp:0<ps.length)(hn:QJ 1 nx [0,1,2,K]=true)(h0:en.get 0= .ptr 0 0 0)(h1:en.get 1= .int .i64 k)(h4:en.get 4= .ptr 1 0 0)(h5:en.get 5= .ptr 2 0 0)
 (H0:H.get 0=rrB B a e) (H1:H.get 1=some (.cells [Y2 0 0 0 .nils] false)) (H2:H.get 2=some (.cells [row] false)) (HK:H.get K=some (.cells (ps.map encP) false)) (hr:Wf row (XP v1 v2 v3 (.slice K 0 ps.length 7 none) kn 0 false)):Reb 1 N ⟨en,H,nx⟩ (onG k B a e v1 v2 v3 ps kn 0 false):=by
 have hcut:((ps.map encP).drop 0).take ps.length=ps.map encP:=by rw[List.drop_zero,List.take_of_length_le (by simp)]
 have hs:FzV 3 (ps.map encP) (.slice 3 0 ps.length 7 none) (.vs 7 (ps.map encP)):=by
  have:=FzV.sl (n:=3) (rows:=ps.map encP) 0 ps.length 7 none hp (by simp)
  rwa [hcut]at this
 refine(Q0 (e3:=[(0,.ptr 0 0 0),(1,.int .i64 k),(4,.ptr 1 0 0),(5,.ptr 2 0 0)]) (H3:=[(0,rrB B a e),(1,some (.cells [Y2 0 0 0 .nils] false)),(2,some (.cells [XP v1 v2 v3 (.slice 3 0 ps.length 7 none) kn 0 false] false)),(3,some (.cells (ps.map encP) false))]) [0,1,2,K] hn ⟨by rw[h0];exact .refl _,by rw[h1];exact .refl _,by rw[h4];exact .refl _,by rw[h5];exact .refl _,trivial⟩
  ⟨⟨show 0<4 by decide,_,H0,.refl _⟩,⟨show 1<4 by decide,_,H1,.refl _⟩,⟨show 2<4 by decide,_,H2,QE hr⟩,⟨show 3<4 by decide,_,HK,Qa (fP _)⟩,trivial⟩).trans ?_
 refine(QH (n:=3) (e3:=[(0,.ptr 0 0 0),(1,.int .i64 k),(4,.ptr 1 0 0),(5,.ptr 2 0 0)]) (H3:=[(0,rrB B a e),(1,some (.cells [Y2 0 0 0 .nils] false)),(2,some (.cells [XP v1 v2 v3 (.vs 7 (ps.map encP)) kn 0 false] false))]) rfl (fP ps) ⟨.same _,.same _,.same _,.same _,trivial⟩
  ⟨⟨by decide,_,rfl,.same _⟩,⟨by decide,_,rfl,.same _⟩,⟨by decide,_,rfl,.cells [XP v1 v2 v3 (.slice 3 0 ps.length 7 none) kn 0 false] [XP v1 v2 v3 (.vs 7 (ps.map encP)) kn 0 false] false rfl (fun j r r' h h'=>?_)⟩,trivial⟩).trans (Q0 [0,1,2] rfl ⟨.refl _,.refl _,.refl _,.refl _,trivial⟩ ⟨⟨by decide,_,rfl,.refl _⟩,⟨by decide,_,rfl,.refl _⟩,⟨by decide,_,rfl,.refl _⟩,trivial⟩)
 cases j with
 |zero=>
  cases h;cases h'
  exact⟨.same _,.same _,.same _,hs,.same _,.same _,.same _,.same _,.same _,.same _,.same _,trivial⟩
 |succ j=>simp at h
theorem Gu[Syms]{N nx:Nat}{en:Env}{H:Heap}{k v1 v2 v3 nu:Int}{B:List UInt8}{a:Nat}{e:Int}{ps:List Pg}{kn ha:Bool}{row:List AVal}(hn:QJ 1 nx [0,1,2]=true)(h0:en.get 0= .ptr 0 0 0)(h1:en.get 1= .int .i64 k)(h4:en.get 4= .ptr 1 0 0)(h5:en.get 5= .ptr 2 0 0)
 (H0:H.get 0=rrB B a e) (H1:H.get 1=some (.cells [Y2 0 0 0 .nils] false)) (H2:H.get 2=some (.cells [row] false)) (hr:Wf row (XP v1 v2 v3 (.vs 7 (ps.map encP)) kn nu ha)):Reb 1 N ⟨en,H,nx⟩ (onG k B a e v1 v2 v3 ps kn nu ha):=
 Q0 [0,1,2] hn ⟨by rw[h0];exact .refl _,by rw[h1];exact .refl _,by rw[h4];exact .refl _,by rw[h5];exact .refl _,trivial⟩
  ⟨⟨show 0<3 by decide,_,H0,.refl _⟩,⟨show 1<3 by decide,_,H1,.refl _⟩,⟨show 2<3 by decide,_,H2,QE hr⟩,trivial⟩
abbrev YA(a b c d e f g:Int):List AVal:=[.int .i64 a,.int .i64 b,.int .i64 c,.int .i64 d,.int .i64 e,.int .i64 f,.int .u32 g]
theorem fQ(a b c d e f g:Int):∀x∈YA a b c d e f g,x.flat=true:=fun x hx=>by simp at hx;rcases hx with rfl|rfl|rfl|rfl|rfl|rfl|rfl<;>rfl
theorem Q0s[Syms]{Post:AVal→Heap→Nat→Prop}(k:Int)(B:List UInt8)(a:Nat)(e:Int)(hB:B.length≤1000000)(ha:a≤B.length)(hP:∀v a' e',VZ k B a e=(v,a',e')→Post (.agg (encC v)) [(0,rrB B a' e')] 2):
 fnT Q7 cOne (Qx fns) (Qo tys) Q0p 100 34 [.ptr 0 0 0,.int .i64 k] [(0,rrB B a e)] 1 (Vv Post):=by
 obtain⟨⟨v1,a1,e1⟩,g1⟩:∃g,plainP B a e=g:=⟨_,rfl⟩
 have l1:a1≤B.length:=by have:=(Z3 B a e ha).1;rwa [g1]at this
 obtain⟨⟨v2,a2,e2⟩,g2⟩:∃g,plainP B a1 e1=g:=⟨_,rfl⟩
 have l2:a2≤B.length:=by have:=(Z3 B a1 e1 l1).1;rwa [g2]at this
 obtain⟨⟨v3,a3,e3⟩,g3⟩:∃g,XB 4 B a2 e2=g:=⟨_,rfl⟩
 have l3:a3≤B.length:=by have:=(V6 4 B a2 e2 l2).1;rwa [g3]at this
 have n3:v3<256^4:=by have:=Wx 4 B a2 e2;rwa [g3]at this
 have hw:=Hz n3
 obtain⟨⟨n,a4,e4⟩,g4⟩:∃g,X5 200 4 B a3 e3=g:=⟨_,rfl⟩
 have l4:a4≤B.length:=by have:=(Yk (most:=200) (w:=4) (by decide) B a3 e3 l3).1;rwa [g4]at this
 have n4:n≤200:=by have:=Wv 200 4 B a3 e3;rwa [g4]at this
 have k4:ck0P B a e=((v1,v2,v3),a3,e3):=(Qb g1).trans ((Qb g2).trans ((Qb g3).trans rfl))
 have hc:VZ k B a e=Zl (WK n []) (fun p=>Zl (J0 k) fun q=>U7 ⟨v1,v2,v3,p,q.1,q.2⟩) B a4 e4:=(Qb k4).trans ((Qb g4).trans rfl)
 rw[hc]at hP
 repeat' first|refine And.intro ?_ ?_|(intro h;try first|exact dz|replace h:=cv)
 all_goals try exact cz
 refine⟨[0],[.ptr 0 0 0],[(0,rrB B a e)],by exact rfl,⟨.refl _,trivial⟩,⟨⟨by decide,_,rfl,.refl _⟩,trivial⟩,B,a,e,v1,a1,e1,rfl,rfl,rfl,⟨hB,ha⟩,g1,?_⟩
 repeat' first|refine And.intro ?_ ?_|(intro h;try first|exact dz|replace h:=cv)
 all_goals try exact cz
 refine⟨[0],[.ptr 0 0 0],[(0,rrB B a1 e1)],by exact rfl,⟨.refl _,trivial⟩,⟨⟨by decide,_,rfl,.refl _⟩,trivial⟩,B,a1,e1,v2,a2,e2,rfl,rfl,rfl,⟨hB,l1⟩,g2,?_⟩
 repeat' first|refine And.intro ?_ ?_|(intro h;try first|exact dz|replace h:=cv)
 all_goals try exact cz
 refine⟨[0],[.ptr 0 0 0,.int .i64 ((4:Nat):Int)],[(0,rrB B a2 e2)],by exact rfl,⟨.refl _,.refl _,trivial⟩,⟨⟨by decide,_,rfl,.refl _⟩,trivial⟩,B,a2,e2,4,v3,a3,e3,rfl,rfl,rfl,⟨hB,l2,by decide⟩,g3,?_⟩
 repeat' first|refine And.intro ?_ ?_|(intro h;try first|exact dz|replace h:=cv)
 all_goals try exact cz
 refine⟨[0],[.ptr 0 0 0,.int .i64 ((200:Nat):Int),.int .i64 4],[(0,rrB B a3 e3)],by exact rfl,⟨.refl _,.refl _,.refl _,trivial⟩,⟨⟨by decide,_,rfl,.refl _⟩,trivial⟩,B,a3,e3,200,4,n,a4,e4,rfl,rfl,rfl,⟨hB,l3,by decide,by decide⟩,g4,?_⟩
 repeat' first|refine And.intro ?_ ?_|(intro h;try first|exact dz|replace h:=cv)
 all_goals try exact cz
 --LOOP
 refine⟨fun m s=>∃(i aq:Nat) (eq:Int) (ps:List Pg),(i≤n∧m=n-i∧ps.length≤i∧aq≤B.length∧WK (n-i) ps B aq eq=WK n [] B a4 e4)∧(s=onS k n i B aq eq v1 v2 v3 (.slice 3 0 ps.length 7 none) [(3,some (.cells (ps.map encP) false))]∧0<ps.length∨s=onS k n i B aq eq v1 v2 v3 .nils []∧ps=[]),⟨_,onS k n 0 B a4 e4 v1 v2 v3 .nils [],Q0 [0,1,3,2] (by first|rfl|kernel_rfl) ⟨.refl _,.refl _,.refl _,.refl _,.refl _,.refl _,trivial⟩ ⟨⟨by decide,_,rfl,.refl _⟩,⟨by decide,_,rfl,.refl _⟩,⟨by decide,_,rfl,QE (row:=Y2 v1 v2 v3 .nils) ⟨.refl _,.refl _,Qm hw,.refl _,.refl _,.refl _,.refl _,.refl _,.refl _,.refl _,.refl _,trivial⟩⟩,trivial⟩,0,a4,e4,[],⟨by omega,rfl,by simp,l4,rfl⟩,.inr ⟨rfl,rfl⟩⟩,?_⟩
 rintro m s ⟨i,aq,eq,ps,⟨hi,rfl,hpl,hql,hfr⟩,hs⟩
 by_cases h1:i<n
 ·by_cases h2:eq=0
  ·subst h2
   have hst:n-i=n-(i+1)+1:=by omega
   obtain⟨⟨p1,b1,f1⟩,q1⟩:∃g,plainP B aq (0)=g:=⟨_,rfl⟩
   have m1:b1≤B.length:=by have:=(Z3 B aq (0) (by assumption)).1;rwa [q1]at this
   obtain⟨⟨p2,b2,f2⟩,q2⟩:∃g,plainP B b1 (f1)=g:=⟨_,rfl⟩
   have m2:b2≤B.length:=by have:=(Z3 B b1 (f1) (by assumption)).1;rwa [q2]at this
   obtain⟨⟨p3,b3,f3⟩,q3⟩:∃g,plainP B b2 (f2)=g:=⟨_,rfl⟩
   have m3:b3≤B.length:=by have:=(Z3 B b2 (f2) (by assumption)).1;rwa [q3]at this
   obtain⟨⟨p4,b4,f4⟩,q4⟩:∃g,plainP B b3 (f3)=g:=⟨_,rfl⟩
   have m4:b4≤B.length:=by have:=(Z3 B b3 (f3) (by assumption)).1;rwa [q4]at this
   obtain⟨⟨p5,b5,f5⟩,q5⟩:∃g,plainP B b4 (f4)=g:=⟨_,rfl⟩
   have m5:b5≤B.length:=by have:=(Z3 B b4 (f4) (by assumption)).1;rwa [q5]at this
   obtain⟨⟨p6,b6,f6⟩,q6⟩:∃g,plainP B b5 (f5)=g:=⟨_,rfl⟩
   have m6:b6≤B.length:=by have:=(Z3 B b5 (f5) (by assumption)).1;rwa [q6]at this
   obtain⟨⟨p7,b7,f7⟩,q7⟩:∃g,XB 4 B b6 f6=g:=⟨_,rfl⟩
   have m7:b7≤B.length:=by have:=(V6 4 B b6 f6 m6).1;rwa [q7]at this
   have n7:p7<256^4:=by have:=Wx 4 B b6 f6;rwa [q7]at this
   have hw7:=Hz n7
   have hpg:pageP B aq 0=(⟨p1,p2,p3,p4,p5,p6,p7⟩,b7,f7):=(Qb q1).trans ((Qb q2).trans ((Qb q3).trans ((Qb q4).trans ((Qb q5).trans ((Qb q6).trans ((Qb q7).trans rfl))))))
   have hfs:WK (n-i) ps B aq 0=WK (n-(i+1)) (ps++[⟨p1,p2,p3,p4,p5,p6,p7⟩]) B b7 f7:=by
    rw[hst]
    exact(VE ps (Zl pageP fun p=>WK (n-(i+1)) (ps++[p])) B aq).trans (Qb hpg)
   rcases hs with⟨rfl,hp0⟩|⟨rfl,rfl⟩
   · repeat' first|refine And.intro ?_ ?_|(intro h;try first|exact dz|replace h:=cv)
     all_goals try exact cz
     refine⟨[0],[.ptr 0 0 0],[(0,rrB B aq 0)],by exact rfl,⟨.refl _,trivial⟩,⟨⟨by decide,_,rfl,.refl _⟩,trivial⟩,B,aq,0,p1,b1,f1,rfl,rfl,rfl,⟨hB,hql⟩,q1,?_⟩
     repeat' first|refine And.intro ?_ ?_|(intro h;try first|exact dz|replace h:=cv)
     all_goals try exact cz
     refine⟨[0],[.ptr 0 0 0],[(0,rrB B b1 f1)],by exact rfl,⟨.refl _,trivial⟩,⟨⟨by decide,_,rfl,.refl _⟩,trivial⟩,B,b1,f1,p2,b2,f2,rfl,rfl,rfl,⟨hB,m1⟩,q2,?_⟩
     repeat' first|refine And.intro ?_ ?_|(intro h;try first|exact dz|replace h:=cv)
     all_goals try exact cz
     refine⟨onP k n i B b2 f2 v1 v2 v3 (.slice 3 0 ps.length 7 none) [(3,some (.cells (ps.map encP) false))] (YA p1 p2 0 0 0 0 0),by first|exact Q0 [0,1,2,3,5] (by first|rfl|kernel_rfl) ⟨.refl _,.refl _,.refl _,.refl _,.refl _,.refl _,.refl _,trivial⟩ ⟨⟨by decide,_,rfl,.refl _⟩,⟨by decide,_,rfl,.refl _⟩,⟨by decide,_,rfl,.refl _⟩,⟨by decide,_,rfl,Qs (row:=YA p1 p2 0 0 0 0 0) ⟨.refl _,.refl _,.refl _,.refl _,.refl _,.refl _,.refl _,trivial⟩ (fQ _ _ _ _ _ _ _)⟩,⟨by decide,_,rfl,Qa (fP ps)⟩,trivial⟩|exact Q0 [0,1,2,3,4] (by first|rfl|kernel_rfl) ⟨.refl _,.refl _,.refl _,.refl _,.refl _,.refl _,.refl _,trivial⟩ ⟨⟨by decide,_,rfl,.refl _⟩,⟨by decide,_,rfl,.refl _⟩,⟨by decide,_,rfl,.refl _⟩,⟨by decide,_,rfl,Qs (row:=YA p1 p2 0 0 0 0 0) ⟨.refl _,.refl _,.refl _,.refl _,.refl _,.refl _,.refl _,trivial⟩ (fQ _ _ _ _ _ _ _)⟩,⟨by decide,_,rfl,Qa (fP ps)⟩,trivial⟩|exact Q0 [0,1,2,3,6] (by first|rfl|kernel_rfl) ⟨.refl _,.refl _,.refl _,.refl _,.refl _,.refl _,.refl _,trivial⟩ ⟨⟨by decide,_,rfl,.refl _⟩,⟨by decide,_,rfl,.refl _⟩,⟨by decide,_,rfl,.refl _⟩,⟨by decide,_,rfl,Qs (row:=YA p1 p2 0 0 0 0 0) ⟨.refl _,.refl _,.refl _,.refl _,.refl _,.refl _,.refl _,trivial⟩ (fQ _ _ _ _ _ _ _)⟩,⟨by decide,_,rfl,Qa (fP ps)⟩,trivial⟩,?_⟩
     repeat' first|refine And.intro ?_ ?_|(intro h;try first|exact dz|replace h:=cv)
     all_goals try exact cz
     refine⟨[0],[.ptr 0 0 0],[(0,rrB B b2 f2)],by exact rfl,⟨.refl _,trivial⟩,⟨⟨by decide,_,rfl,.refl _⟩,trivial⟩,B,b2,f2,p3,b3,f3,rfl,rfl,rfl,⟨hB,m2⟩,q3,?_⟩
     repeat' first|refine And.intro ?_ ?_|(intro h;try first|exact dz|replace h:=cv)
     all_goals try exact cz
     refine⟨onP k n i B b3 f3 v1 v2 v3 (.slice 3 0 ps.length 7 none) [(3,some (.cells (ps.map encP) false))] (YA p1 p2 p3 0 0 0 0),by first|exact Q0 [0,1,2,3,4] (by first|rfl|kernel_rfl) ⟨.refl _,.refl _,.refl _,.refl _,.refl _,.refl _,.refl _,trivial⟩ ⟨⟨by decide,_,rfl,.refl _⟩,⟨by decide,_,rfl,.refl _⟩,⟨by decide,_,rfl,.refl _⟩,⟨by decide,_,rfl,Qs (row:=YA p1 p2 p3 0 0 0 0) ⟨.refl _,.refl _,.refl _,.refl _,.refl _,.refl _,.refl _,trivial⟩ (fQ _ _ _ _ _ _ _)⟩,⟨by decide,_,rfl,Qa (fP ps)⟩,trivial⟩,?_⟩
     repeat' first|refine And.intro ?_ ?_|(intro h;try first|exact dz|replace h:=cv)
     all_goals try exact cz
     refine⟨[0],[.ptr 0 0 0],[(0,rrB B b3 f3)],by exact rfl,⟨.refl _,trivial⟩,⟨⟨by decide,_,rfl,.refl _⟩,trivial⟩,B,b3,f3,p4,b4,f4,rfl,rfl,rfl,⟨hB,m3⟩,q4,?_⟩
     repeat' first|refine And.intro ?_ ?_|(intro h;try first|exact dz|replace h:=cv)
     all_goals try exact cz
     refine⟨onP k n i B b4 f4 v1 v2 v3 (.slice 3 0 ps.length 7 none) [(3,some (.cells (ps.map encP) false))] (YA p1 p2 p3 p4 0 0 0),by first|exact Q0 [0,1,2,3,4] (by first|rfl|kernel_rfl) ⟨.refl _,.refl _,.refl _,.refl _,.refl _,.refl _,.refl _,trivial⟩ ⟨⟨by decide,_,rfl,.refl _⟩,⟨by decide,_,rfl,.refl _⟩,⟨by decide,_,rfl,.refl _⟩,⟨by decide,_,rfl,Qs (row:=YA p1 p2 p3 p4 0 0 0) ⟨.refl _,.refl _,.refl _,.refl _,.refl _,.refl _,.refl _,trivial⟩ (fQ _ _ _ _ _ _ _)⟩,⟨by decide,_,rfl,Qa (fP ps)⟩,trivial⟩,?_⟩
     repeat' first|refine And.intro ?_ ?_|(intro h;try first|exact dz|replace h:=cv)
     all_goals try exact cz
     refine⟨[0],[.ptr 0 0 0],[(0,rrB B b4 f4)],by exact rfl,⟨.refl _,trivial⟩,⟨⟨by decide,_,rfl,.refl _⟩,trivial⟩,B,b4,f4,p5,b5,f5,rfl,rfl,rfl,⟨hB,m4⟩,q5,?_⟩
     repeat' first|refine And.intro ?_ ?_|(intro h;try first|exact dz|replace h:=cv)
     all_goals try exact cz
     refine⟨onP k n i B b5 f5 v1 v2 v3 (.slice 3 0 ps.length 7 none) [(3,some (.cells (ps.map encP) false))] (YA p1 p2 p3 p4 p5 0 0),by first|exact Q0 [0,1,2,3,4] (by first|rfl|kernel_rfl) ⟨.refl _,.refl _,.refl _,.refl _,.refl _,.refl _,.refl _,trivial⟩ ⟨⟨by decide,_,rfl,.refl _⟩,⟨by decide,_,rfl,.refl _⟩,⟨by decide,_,rfl,.refl _⟩,⟨by decide,_,rfl,Qs (row:=YA p1 p2 p3 p4 p5 0 0) ⟨.refl _,.refl _,.refl _,.refl _,.refl _,.refl _,.refl _,trivial⟩ (fQ _ _ _ _ _ _ _)⟩,⟨by decide,_,rfl,Qa (fP ps)⟩,trivial⟩,?_⟩
     repeat' first|refine And.intro ?_ ?_|(intro h;try first|exact dz|replace h:=cv)
     all_goals try exact cz
     refine⟨[0],[.ptr 0 0 0],[(0,rrB B b5 f5)],by exact rfl,⟨.refl _,trivial⟩,⟨⟨by decide,_,rfl,.refl _⟩,trivial⟩,B,b5,f5,p6,b6,f6,rfl,rfl,rfl,⟨hB,m5⟩,q6,?_⟩
     repeat' first|refine And.intro ?_ ?_|(intro h;try first|exact dz|replace h:=cv)
     all_goals try exact cz
     refine⟨onP k n i B b6 f6 v1 v2 v3 (.slice 3 0 ps.length 7 none) [(3,some (.cells (ps.map encP) false))] (YA p1 p2 p3 p4 p5 p6 0),by first|exact Q0 [0,1,2,3,4] (by first|rfl|kernel_rfl) ⟨.refl _,.refl _,.refl _,.refl _,.refl _,.refl _,.refl _,trivial⟩ ⟨⟨by decide,_,rfl,.refl _⟩,⟨by decide,_,rfl,.refl _⟩,⟨by decide,_,rfl,.refl _⟩,⟨by decide,_,rfl,Qs (row:=YA p1 p2 p3 p4 p5 p6 0) ⟨.refl _,.refl _,.refl _,.refl _,.refl _,.refl _,.refl _,trivial⟩ (fQ _ _ _ _ _ _ _)⟩,⟨by decide,_,rfl,Qa (fP ps)⟩,trivial⟩,?_⟩
     repeat' first|refine And.intro ?_ ?_|(intro h;try first|exact dz|replace h:=cv)
     all_goals try exact cz
     refine⟨[0],[.ptr 0 0 0,.int .i64 ((4:Nat):Int)],[(0,rrB B b6 f6)],by exact rfl,⟨.refl _,.refl _,trivial⟩,⟨⟨by decide,_,rfl,.refl _⟩,trivial⟩,B,b6,f6,4,p7,b7,f7,rfl,rfl,rfl,⟨hB,m6,by decide⟩,q7,?_⟩
     repeat' first|refine And.intro ?_ ?_|(intro h;try first|exact dz|replace h:=cv)
     all_goals try exact cz
     refine⟨onP k n i B b7 f7 v1 v2 v3 (.slice 3 0 ps.length 7 none) [(3,some (.cells (ps.map encP) false))] (YA p1 p2 p3 p4 p5 p6 p7),by first|exact Q0 [0,1,2,3,4] (by first|rfl|kernel_rfl) ⟨.refl _,.refl _,.refl _,.refl _,.refl _,.refl _,.refl _,trivial⟩ ⟨⟨by decide,_,rfl,.refl _⟩,⟨by decide,_,rfl,.refl _⟩,⟨by decide,_,rfl,.refl _⟩,⟨by decide,_,rfl,Qs (row:=YA p1 p2 p3 p4 p5 p6 p7) ⟨.refl _,.refl _,.refl _,.refl _,.refl _,.refl _,Qm hw7,trivial⟩ (fQ _ _ _ _ _ _ _)⟩,⟨by decide,_,rfl,Qa (fP ps)⟩,trivial⟩,?_⟩
     repeat' first|refine And.intro ?_ ?_|(intro h;try first|exact dz|replace h:=cv)
     all_goals try exact cz
     refine⟨onS k n i B b7 f7 v1 v2 v3 (.slice 3 0 (ps++[⟨p1,p2,p3,p4,p5,p6,p7⟩]:List Pg).length 7 none) [(3,some (.cells ((ps++[⟨p1,p2,p3,p4,p5,p6,p7⟩]:List Pg).map encP) false))],Bo (K:=6) (by first|rfl|kernel_rfl) rfl rfl rfl rfl rfl rfl rfl rfl rfl rfl rfl (OT _ _) (by simp),?_⟩
     repeat' first|refine And.intro ?_ ?_|(intro h;try first|exact dz|replace h:=cv)
     all_goals try exact cz
     exact⟨_,onS k n (i+1) B b7 f7 v1 v2 v3 (.slice 3 0 (ps++[⟨p1,p2,p3,p4,p5,p6,p7⟩]:List Pg).length 7 none) [(3,some (.cells ((ps++[⟨p1,p2,p3,p4,p5,p6,p7⟩]:List Pg).map encP) false))],Bo (K:=3) (by first|rfl|kernel_rfl) rfl rfl rfl rfl rfl rfl (by omega) rfl rfl rfl rfl rfl rfl,⟨i+1,b7,f7,ps++[⟨p1,p2,p3,p4,p5,p6,p7⟩],⟨by omega,rfl,by simp<;>omega,m7,by rw[←hfr,hfs]⟩,.inl ⟨rfl,by simp⟩⟩,by omega⟩
   · repeat' first|refine And.intro ?_ ?_|(intro h;try first|exact dz|replace h:=cv)
     all_goals try exact cz
     refine⟨[0],[.ptr 0 0 0],[(0,rrB B aq 0)],by exact rfl,⟨.refl _,trivial⟩,⟨⟨by decide,_,rfl,.refl _⟩,trivial⟩,B,aq,0,p1,b1,f1,rfl,rfl,rfl,⟨hB,hql⟩,q1,?_⟩
     repeat' first|refine And.intro ?_ ?_|(intro h;try first|exact dz|replace h:=cv)
     all_goals try exact cz
     refine⟨[0],[.ptr 0 0 0],[(0,rrB B b1 f1)],by exact rfl,⟨.refl _,trivial⟩,⟨⟨by decide,_,rfl,.refl _⟩,trivial⟩,B,b1,f1,p2,b2,f2,rfl,rfl,rfl,⟨hB,m1⟩,q2,?_⟩
     repeat' first|refine And.intro ?_ ?_|(intro h;try first|exact dz|replace h:=cv)
     all_goals try exact cz
     refine⟨onP k n i B b2 f2 v1 v2 v3 .nils [] (YA p1 p2 0 0 0 0 0),by first|exact Q0 [0,1,2,3,5] (by first|rfl|kernel_rfl) ⟨.refl _,.refl _,.refl _,.refl _,.refl _,.refl _,.refl _,trivial⟩ ⟨⟨by decide,_,rfl,.refl _⟩,⟨by decide,_,rfl,.refl _⟩,⟨by decide,_,rfl,.refl _⟩,⟨by decide,_,rfl,Qs (row:=YA p1 p2 0 0 0 0 0) ⟨.refl _,.refl _,.refl _,.refl _,.refl _,.refl _,.refl _,trivial⟩ (fQ _ _ _ _ _ _ _)⟩,trivial⟩|exact Q0 [0,1,2,3,4] (by first|rfl|kernel_rfl) ⟨.refl _,.refl _,.refl _,.refl _,.refl _,.refl _,.refl _,trivial⟩ ⟨⟨by decide,_,rfl,.refl _⟩,⟨by decide,_,rfl,.refl _⟩,⟨by decide,_,rfl,.refl _⟩,⟨by decide,_,rfl,Qs (row:=YA p1 p2 0 0 0 0 0) ⟨.refl _,.refl _,.refl _,.refl _,.refl _,.refl _,.refl _,trivial⟩ (fQ _ _ _ _ _ _ _)⟩,trivial⟩|exact Q0 [0,1,2,3,6] (by first|rfl|kernel_rfl) ⟨.refl _,.refl _,.refl _,.refl _,.refl _,.refl _,.refl _,trivial⟩ ⟨⟨by decide,_,rfl,.refl _⟩,⟨by decide,_,rfl,.refl _⟩,⟨by decide,_,rfl,.refl _⟩,⟨by decide,_,rfl,Qs (row:=YA p1 p2 0 0 0 0 0) ⟨.refl _,.refl _,.refl _,.refl _,.refl _,.refl _,.refl _,trivial⟩ (fQ _ _ _ _ _ _ _)⟩,trivial⟩,?_⟩
     repeat' first|refine And.intro ?_ ?_|(intro h;try first|exact dz|replace h:=cv)
     all_goals try exact cz
     refine⟨[0],[.ptr 0 0 0],[(0,rrB B b2 f2)],by exact rfl,⟨.refl _,trivial⟩,⟨⟨by decide,_,rfl,.refl _⟩,trivial⟩,B,b2,f2,p3,b3,f3,rfl,rfl,rfl,⟨hB,m2⟩,q3,?_⟩
     repeat' first|refine And.intro ?_ ?_|(intro h;try first|exact dz|replace h:=cv)
     all_goals try exact cz
     refine⟨onP k n i B b3 f3 v1 v2 v3 .nils [] (YA p1 p2 p3 0 0 0 0),by first|exact Q0 [0,1,2,3,4] (by first|rfl|kernel_rfl) ⟨.refl _,.refl _,.refl _,.refl _,.refl _,.refl _,.refl _,trivial⟩ ⟨⟨by decide,_,rfl,.refl _⟩,⟨by decide,_,rfl,.refl _⟩,⟨by decide,_,rfl,.refl _⟩,⟨by decide,_,rfl,Qs (row:=YA p1 p2 p3 0 0 0 0) ⟨.refl _,.refl _,.refl _,.refl _,.refl _,.refl _,.refl _,trivial⟩ (fQ _ _ _ _ _ _ _)⟩,trivial⟩,?_⟩
     repeat' first|refine And.intro ?_ ?_|(intro h;try first|exact dz|replace h:=cv)
     all_goals try exact cz
     refine⟨[0],[.ptr 0 0 0],[(0,rrB B b3 f3)],by exact rfl,⟨.refl _,trivial⟩,⟨⟨by decide,_,rfl,.refl _⟩,trivial⟩,B,b3,f3,p4,b4,f4,rfl,rfl,rfl,⟨hB,m3⟩,q4,?_⟩
     repeat' first|refine And.intro ?_ ?_|(intro h;try first|exact dz|replace h:=cv)
     all_goals try exact cz
     refine⟨onP k n i B b4 f4 v1 v2 v3 .nils [] (YA p1 p2 p3 p4 0 0 0),by first|exact Q0 [0,1,2,3,4] (by first|rfl|kernel_rfl) ⟨.refl _,.refl _,.refl _,.refl _,.refl _,.refl _,.refl _,trivial⟩ ⟨⟨by decide,_,rfl,.refl _⟩,⟨by decide,_,rfl,.refl _⟩,⟨by decide,_,rfl,.refl _⟩,⟨by decide,_,rfl,Qs (row:=YA p1 p2 p3 p4 0 0 0) ⟨.refl _,.refl _,.refl _,.refl _,.refl _,.refl _,.refl _,trivial⟩ (fQ _ _ _ _ _ _ _)⟩,trivial⟩,?_⟩
     repeat' first|refine And.intro ?_ ?_|(intro h;try first|exact dz|replace h:=cv)
     all_goals try exact cz
     refine⟨[0],[.ptr 0 0 0],[(0,rrB B b4 f4)],by exact rfl,⟨.refl _,trivial⟩,⟨⟨by decide,_,rfl,.refl _⟩,trivial⟩,B,b4,f4,p5,b5,f5,rfl,rfl,rfl,⟨hB,m4⟩,q5,?_⟩
     repeat' first|refine And.intro ?_ ?_|(intro h;try first|exact dz|replace h:=cv)
     all_goals try exact cz
     refine⟨onP k n i B b5 f5 v1 v2 v3 .nils [] (YA p1 p2 p3 p4 p5 0 0),by first|exact Q0 [0,1,2,3,4] (by first|rfl|kernel_rfl) ⟨.refl _,.refl _,.refl _,.refl _,.refl _,.refl _,.refl _,trivial⟩ ⟨⟨by decide,_,rfl,.refl _⟩,⟨by decide,_,rfl,.refl _⟩,⟨by decide,_,rfl,.refl _⟩,⟨by decide,_,rfl,Qs (row:=YA p1 p2 p3 p4 p5 0 0) ⟨.refl _,.refl _,.refl _,.refl _,.refl _,.refl _,.refl _,trivial⟩ (fQ _ _ _ _ _ _ _)⟩,trivial⟩,?_⟩
     repeat' first|refine And.intro ?_ ?_|(intro h;try first|exact dz|replace h:=cv)
     all_goals try exact cz
     refine⟨[0],[.ptr 0 0 0],[(0,rrB B b5 f5)],by exact rfl,⟨.refl _,trivial⟩,⟨⟨by decide,_,rfl,.refl _⟩,trivial⟩,B,b5,f5,p6,b6,f6,rfl,rfl,rfl,⟨hB,m5⟩,q6,?_⟩
     repeat' first|refine And.intro ?_ ?_|(intro h;try first|exact dz|replace h:=cv)
     all_goals try exact cz
     refine⟨onP k n i B b6 f6 v1 v2 v3 .nils [] (YA p1 p2 p3 p4 p5 p6 0),by first|exact Q0 [0,1,2,3,4] (by first|rfl|kernel_rfl) ⟨.refl _,.refl _,.refl _,.refl _,.refl _,.refl _,.refl _,trivial⟩ ⟨⟨by decide,_,rfl,.refl _⟩,⟨by decide,_,rfl,.refl _⟩,⟨by decide,_,rfl,.refl _⟩,⟨by decide,_,rfl,Qs (row:=YA p1 p2 p3 p4 p5 p6 0) ⟨.refl _,.refl _,.refl _,.refl _,.refl _,.refl _,.refl _,trivial⟩ (fQ _ _ _ _ _ _ _)⟩,trivial⟩,?_⟩
     repeat' first|refine And.intro ?_ ?_|(intro h;try first|exact dz|replace h:=cv)
     all_goals try exact cz
     refine⟨[0],[.ptr 0 0 0,.int .i64 ((4:Nat):Int)],[(0,rrB B b6 f6)],by exact rfl,⟨.refl _,.refl _,trivial⟩,⟨⟨by decide,_,rfl,.refl _⟩,trivial⟩,B,b6,f6,4,p7,b7,f7,rfl,rfl,rfl,⟨hB,m6,by decide⟩,q7,?_⟩
     repeat' first|refine And.intro ?_ ?_|(intro h;try first|exact dz|replace h:=cv)
     all_goals try exact cz
     refine⟨onP k n i B b7 f7 v1 v2 v3 .nils [] (YA p1 p2 p3 p4 p5 p6 p7),by first|exact Q0 [0,1,2,3,4] (by first|rfl|kernel_rfl) ⟨.refl _,.refl _,.refl _,.refl _,.refl _,.refl _,.refl _,trivial⟩ ⟨⟨by decide,_,rfl,.refl _⟩,⟨by decide,_,rfl,.refl _⟩,⟨by decide,_,rfl,.refl _⟩,⟨by decide,_,rfl,Qs (row:=YA p1 p2 p3 p4 p5 p6 p7) ⟨.refl _,.refl _,.refl _,.refl _,.refl _,.refl _,Qm hw7,trivial⟩ (fQ _ _ _ _ _ _ _)⟩,trivial⟩,?_⟩
     repeat' first|refine And.intro ?_ ?_|(intro h;try first|exact dz|replace h:=cv)
     all_goals try exact cz
     refine⟨onS k n i B b7 f7 v1 v2 v3 (.slice 3 0 ([]++[⟨p1,p2,p3,p4,p5,p6,p7⟩]:List Pg).length 7 none) [(3,some (.cells (([]++[⟨p1,p2,p3,p4,p5,p6,p7⟩]:List Pg).map encP) false))],Bo (K:=6) (by first|rfl|kernel_rfl) rfl rfl rfl rfl rfl rfl rfl rfl rfl rfl rfl rfl (by simp),?_⟩
     repeat' first|refine And.intro ?_ ?_|(intro h;try first|exact dz|replace h:=cv)
     all_goals try exact cz
     exact⟨_,onS k n (i+1) B b7 f7 v1 v2 v3 (.slice 3 0 ([]++[⟨p1,p2,p3,p4,p5,p6,p7⟩]:List Pg).length 7 none) [(3,some (.cells (([]++[⟨p1,p2,p3,p4,p5,p6,p7⟩]:List Pg).map encP) false))],Bo (K:=3) (by first|rfl|kernel_rfl) rfl rfl rfl rfl rfl rfl (by omega) rfl rfl rfl rfl rfl rfl,⟨i+1,b7,f7,[]++[⟨p1,p2,p3,p4,p5,p6,p7⟩],⟨by omega,rfl,by simp<;>omega,m7,by rw[←hfr,hfs]⟩,.inl ⟨rfl,by simp⟩⟩,by omega⟩
  ·skip
   have hfe:WK n [] B a4 e4=(ps,aq,eq):=by rw[←hfr,show n-i=(n-i-1)+1 by omega];exact if_pos h2
   obtain⟨⟨t1,c1,d1⟩,w1⟩:∃g,truthP B aq eq=g:=⟨_,rfl⟩
   have x1:c1≤B.length:=by have:=(Wy B aq eq hql).1;rwa [w1]at this
   obtain⟨⟨u1,c2,d2⟩,w2⟩:∃g,plainP B c1 d1=g:=⟨_,rfl⟩
   have x2:c2≤B.length:=by have:=(Z3 B c1 d1 x1).1;rwa [w2]at this
   obtain⟨⟨t2,c3,d3⟩,w3⟩:∃g,truthP B c2 d2=g:=⟨_,rfl⟩
   have x3:c3≤B.length:=by have:=(Wy B c2 d2 x2).1;rwa [w3]at this
   obtain⟨⟨y1,c4,d4⟩,w4⟩:∃g,Wr k B c3 d3=g:=⟨_,rfl⟩
   have x4:c4≤B.length:=by have:=(GY k B c3 d3 x3).1;rwa [w4]at this
   obtain⟨⟨y2,c5,d5⟩,w5⟩:∃g,Wr k B c4 d4=g:=⟨_,rfl⟩
   have hk0:t1≠1→J0 k B aq eq=((false,default),c1,d1):=fun h=>(Qb w1).trans (by rw[if_pos h];try rfl)
   have hk1:t1=1→t2≠1→J0 k B aq eq=((true,⟨u1,false,default,default⟩),c3,d3):=fun h g=>(Qb w1).trans (by rw[if_neg (fun x=>x h)];exact(Qb w2).trans ((Qb w3).trans (by unfold Kj;rw[if_pos g];try rfl)))
   have hk2:t1=1→t2=1→J0 k B aq eq=((true,⟨u1,true,y1,y2⟩),c5,d5):=fun h g=>(Qb w1).trans (by rw[if_neg (fun x=>x h)];exact(Qb w2).trans ((Qb w3).trans (by unfold Kj;rw[if_neg (fun x=>x g)];exact(Qb w4).trans ((Qb w5).trans rfl))))
   rcases hs with⟨rfl,hp0⟩|⟨rfl,rfl⟩
   ·skip
    repeat' first|refine And.intro ?_ ?_|(intro h;try first|exact dz|replace h:=cv)
    all_goals try exact cz
    by_cases ht1:t1=1
    ·refine⟨[0],[.ptr 0 0 0],[(0,rrB B aq eq)],by exact rfl,⟨.refl _,trivial⟩,⟨⟨by decide,_,rfl,.refl _⟩,trivial⟩,B,aq,eq,t1,c1,d1,true,rfl,rfl,rfl,⟨hB,hql⟩,w1,decide_eq_true ht1,?_⟩
     repeat' first|refine And.intro ?_ ?_|(intro h;try first|exact dz|replace h:=cv)
     all_goals try exact cz
     refine⟨onG k B c1 d1 v1 v2 v3 ps true 0 false,M2 (K:=3) hp0 (by first|rfl|kernel_rfl) rfl rfl rfl rfl rfl rfl rfl rfl ⟨.refl _,.refl _,.refl _,.refl _,ZK rfl,.refl _,.refl _,.refl _,.refl _,.refl _,.refl _,trivial⟩,?_⟩
     repeat' first|refine And.intro ?_ ?_|(intro h;try first|exact dz|replace h:=cv)
     all_goals try exact cz
     refine⟨[0],[.ptr 0 0 0],[(0,rrB B c1 d1)],by exact rfl,⟨.refl _,trivial⟩,⟨⟨by decide,_,rfl,.refl _⟩,trivial⟩,B,c1,d1,u1,c2,d2,rfl,rfl,rfl,⟨hB,x1⟩,w2,?_⟩
     repeat' first|refine And.intro ?_ ?_|(intro h;try first|exact dz|replace h:=cv)
     all_goals try exact cz
     by_cases ht2:t2=1
     ·refine⟨[0],[.ptr 0 0 0],[(0,rrB B c2 d2)],by exact rfl,⟨.refl _,trivial⟩,⟨⟨by decide,_,rfl,.refl _⟩,trivial⟩,B,c2,d2,t2,c3,d3,true,rfl,rfl,rfl,⟨hB,x2⟩,w3,decide_eq_true ht2,?_⟩
      repeat' first|refine And.intro ?_ ?_|(intro h;try first|exact dz|replace h:=cv)
      all_goals try exact cz
      refine⟨onG k B c3 d3 v1 v2 v3 ps true u1 true,Gu (by first|rfl|kernel_rfl) rfl rfl rfl rfl rfl rfl rfl ⟨.refl _,.refl _,.refl _,.refl _,.refl _,.refl _,ZK rfl,.refl _,.refl _,.refl _,.refl _,trivial⟩,?_⟩
      repeat' first|refine And.intro ?_ ?_|(intro h;try first|exact dz|replace h:=cv)
      all_goals try exact cz
      refine⟨[0],[.ptr 0 0 0,.int .i64 k],[(0,rrB B c3 d3)],by exact rfl,⟨.refl _,.refl _,trivial⟩,⟨⟨by decide,_,rfl,.refl _⟩,trivial⟩,k,B,c3,d3,y1,c4,d4,rfl,rfl,rfl,⟨hB,x3⟩,w4,?_⟩
      repeat' first|refine And.intro ?_ ?_|(intro h;try first|exact dz|replace h:=cv)
      all_goals try exact cz
      refine⟨[0],[.ptr 0 0 0,.int .i64 k],[(0,rrB B c4 d4)],by exact rfl,⟨.refl _,.refl _,trivial⟩,⟨⟨by decide,_,rfl,.refl _⟩,trivial⟩,k,B,c4,d4,y2,c5,d5,rfl,rfl,rfl,⟨hB,x4⟩,w5,?_⟩
      repeat' first|refine And.intro ?_ ?_|(intro h;try first|exact dz|replace h:=cv)
      all_goals try exact cz
      exact XX (k:=4) (n:=1) (row:=encC ⟨v1,v2,v3,ps,true,u1,true,y1,y2⟩) rfl rfl rfl ⟨.refl _,.refl _,.refl _,.refl _,.refl _,.refl _,.refl _,.refl _,.refl _,.refl _,.refl _,trivial⟩ (eC _) (by first|rfl|kernel_rfl) rfl (hP _ _ _ ((Qb hfe).trans ((Qb (hk2 ht1 ht2)).trans rfl)))
     ·refine⟨[0],[.ptr 0 0 0],[(0,rrB B c2 d2)],by exact rfl,⟨.refl _,trivial⟩,⟨⟨by decide,_,rfl,.refl _⟩,trivial⟩,B,c2,d2,t2,c3,d3,false,rfl,rfl,rfl,⟨hB,x2⟩,w3,decide_eq_false ht2,?_⟩
      repeat' first|refine And.intro ?_ ?_|(intro h;try first|exact dz|replace h:=cv)
      all_goals try exact cz
      refine⟨onG k B c3 d3 v1 v2 v3 ps true u1 false,Gu (by first|rfl|kernel_rfl) rfl rfl rfl rfl rfl rfl rfl ⟨.refl _,.refl _,.refl _,.refl _,.refl _,.refl _,ZK rfl,.refl _,.refl _,.refl _,.refl _,trivial⟩,?_⟩
      repeat' first|refine And.intro ?_ ?_|(intro h;try first|exact dz|replace h:=cv)
      all_goals try exact cz
      exact XX (k:=4) (n:=1) (row:=encC ⟨v1,v2,v3,ps,true,u1,false,default,default⟩) rfl rfl rfl ⟨.refl _,.refl _,.refl _,.refl _,.refl _,.refl _,.refl _,.refl _,.refl _,.refl _,.refl _,trivial⟩ (eC _) (by first|rfl|kernel_rfl) rfl (hP _ _ _ ((Qb hfe).trans ((Qb (hk1 ht1 ht2)).trans rfl)))
    ·refine⟨[0],[.ptr 0 0 0],[(0,rrB B aq eq)],by exact rfl,⟨.refl _,trivial⟩,⟨⟨by decide,_,rfl,.refl _⟩,trivial⟩,B,aq,eq,t1,c1,d1,false,rfl,rfl,rfl,⟨hB,hql⟩,w1,decide_eq_false ht1,?_⟩
     repeat' first|refine And.intro ?_ ?_|(intro h;try first|exact dz|replace h:=cv)
     all_goals try exact cz
     refine⟨onG k B c1 d1 v1 v2 v3 ps false 0 false,M2 (K:=3) hp0 (by first|rfl|kernel_rfl) rfl rfl rfl rfl rfl rfl rfl rfl ⟨.refl _,.refl _,.refl _,.refl _,ZK rfl,.refl _,.refl _,.refl _,.refl _,.refl _,.refl _,trivial⟩,?_⟩
     repeat' first|refine And.intro ?_ ?_|(intro h;try first|exact dz|replace h:=cv)
     all_goals try exact cz
     exact XX (k:=4) (n:=1) (row:=encC ⟨v1,v2,v3,ps,false,default⟩) rfl rfl rfl ⟨.refl _,.refl _,.refl _,.refl _,.refl _,.refl _,.refl _,.refl _,.refl _,.refl _,.refl _,trivial⟩ (eC _) (by first|rfl|kernel_rfl) rfl (hP _ _ _ ((Qb hfe).trans ((Qb (hk0 ht1)).trans rfl)))
   ·skip
    repeat' first|refine And.intro ?_ ?_|(intro h;try first|exact dz|replace h:=cv)
    all_goals try exact cz
    by_cases ht1:t1=1
    ·refine⟨[0],[.ptr 0 0 0],[(0,rrB B aq eq)],by exact rfl,⟨.refl _,trivial⟩,⟨⟨by decide,_,rfl,.refl _⟩,trivial⟩,B,aq,eq,t1,c1,d1,true,rfl,rfl,rfl,⟨hB,hql⟩,w1,decide_eq_true ht1,?_⟩
     repeat' first|refine And.intro ?_ ?_|(intro h;try first|exact dz|replace h:=cv)
     all_goals try exact cz
     refine⟨onG k B c1 d1 v1 v2 v3 [] true 0 false,Q0 [0,1,2] (by first|rfl|kernel_rfl) ⟨.refl _,.refl _,.refl _,.refl _,trivial⟩ ⟨⟨by decide,_,rfl,.refl _⟩,⟨by decide,_,rfl,.refl _⟩,⟨by decide,_,rfl,QE (row:=XP v1 v2 v3 (.vs 7 []) true 0 false) ⟨.refl _,.refl _,.refl _,.zero _ _ rfl,ZK rfl,.refl _,.refl _,.refl _,.refl _,.refl _,.refl _,trivial⟩⟩,trivial⟩,?_⟩
     repeat' first|refine And.intro ?_ ?_|(intro h;try first|exact dz|replace h:=cv)
     all_goals try exact cz
     refine⟨[0],[.ptr 0 0 0],[(0,rrB B c1 d1)],by exact rfl,⟨.refl _,trivial⟩,⟨⟨by decide,_,rfl,.refl _⟩,trivial⟩,B,c1,d1,u1,c2,d2,rfl,rfl,rfl,⟨hB,x1⟩,w2,?_⟩
     repeat' first|refine And.intro ?_ ?_|(intro h;try first|exact dz|replace h:=cv)
     all_goals try exact cz
     by_cases ht2:t2=1
     ·refine⟨[0],[.ptr 0 0 0],[(0,rrB B c2 d2)],by exact rfl,⟨.refl _,trivial⟩,⟨⟨by decide,_,rfl,.refl _⟩,trivial⟩,B,c2,d2,t2,c3,d3,true,rfl,rfl,rfl,⟨hB,x2⟩,w3,decide_eq_true ht2,?_⟩
      repeat' first|refine And.intro ?_ ?_|(intro h;try first|exact dz|replace h:=cv)
      all_goals try exact cz
      refine⟨onG k B c3 d3 v1 v2 v3 [] true u1 true,Gu (by first|rfl|kernel_rfl) rfl rfl rfl rfl rfl rfl rfl ⟨.refl _,.refl _,.refl _,.refl _,.refl _,.refl _,ZK rfl,.refl _,.refl _,.refl _,.refl _,trivial⟩,?_⟩
      repeat' first|refine And.intro ?_ ?_|(intro h;try first|exact dz|replace h:=cv)
      all_goals try exact cz
      refine⟨[0],[.ptr 0 0 0,.int .i64 k],[(0,rrB B c3 d3)],by exact rfl,⟨.refl _,.refl _,trivial⟩,⟨⟨by decide,_,rfl,.refl _⟩,trivial⟩,k,B,c3,d3,y1,c4,d4,rfl,rfl,rfl,⟨hB,x3⟩,w4,?_⟩
      repeat' first|refine And.intro ?_ ?_|(intro h;try first|exact dz|replace h:=cv)
      all_goals try exact cz
      refine⟨[0],[.ptr 0 0 0,.int .i64 k],[(0,rrB B c4 d4)],by exact rfl,⟨.refl _,.refl _,trivial⟩,⟨⟨by decide,_,rfl,.refl _⟩,trivial⟩,k,B,c4,d4,y2,c5,d5,rfl,rfl,rfl,⟨hB,x4⟩,w5,?_⟩
      repeat' first|refine And.intro ?_ ?_|(intro h;try first|exact dz|replace h:=cv)
      all_goals try exact cz
      exact XX (k:=4) (n:=1) (row:=encC ⟨v1,v2,v3,[],true,u1,true,y1,y2⟩) rfl rfl rfl ⟨.refl _,.refl _,.refl _,.refl _,.refl _,.refl _,.refl _,.refl _,.refl _,.refl _,.refl _,trivial⟩ (eC _) (by first|rfl|kernel_rfl) rfl (hP _ _ _ ((Qb hfe).trans ((Qb (hk2 ht1 ht2)).trans rfl)))
     ·refine⟨[0],[.ptr 0 0 0],[(0,rrB B c2 d2)],by exact rfl,⟨.refl _,trivial⟩,⟨⟨by decide,_,rfl,.refl _⟩,trivial⟩,B,c2,d2,t2,c3,d3,false,rfl,rfl,rfl,⟨hB,x2⟩,w3,decide_eq_false ht2,?_⟩
      repeat' first|refine And.intro ?_ ?_|(intro h;try first|exact dz|replace h:=cv)
      all_goals try exact cz
      refine⟨onG k B c3 d3 v1 v2 v3 [] true u1 false,Gu (by first|rfl|kernel_rfl) rfl rfl rfl rfl rfl rfl rfl ⟨.refl _,.refl _,.refl _,.refl _,.refl _,.refl _,ZK rfl,.refl _,.refl _,.refl _,.refl _,trivial⟩,?_⟩
      repeat' first|refine And.intro ?_ ?_|(intro h;try first|exact dz|replace h:=cv)
      all_goals try exact cz
      exact XX (k:=4) (n:=1) (row:=encC ⟨v1,v2,v3,[],true,u1,false,default,default⟩) rfl rfl rfl ⟨.refl _,.refl _,.refl _,.refl _,.refl _,.refl _,.refl _,.refl _,.refl _,.refl _,.refl _,trivial⟩ (eC _) (by first|rfl|kernel_rfl) rfl (hP _ _ _ ((Qb hfe).trans ((Qb (hk1 ht1 ht2)).trans rfl)))
    ·refine⟨[0],[.ptr 0 0 0],[(0,rrB B aq eq)],by exact rfl,⟨.refl _,trivial⟩,⟨⟨by decide,_,rfl,.refl _⟩,trivial⟩,B,aq,eq,t1,c1,d1,false,rfl,rfl,rfl,⟨hB,hql⟩,w1,decide_eq_false ht1,?_⟩
     repeat' first|refine And.intro ?_ ?_|(intro h;try first|exact dz|replace h:=cv)
     all_goals try exact cz
     refine⟨onG k B c1 d1 v1 v2 v3 [] false 0 false,Q0 [0,1,2] (by first|rfl|kernel_rfl) ⟨.refl _,.refl _,.refl _,.refl _,trivial⟩ ⟨⟨by decide,_,rfl,.refl _⟩,⟨by decide,_,rfl,.refl _⟩,⟨by decide,_,rfl,QE (row:=XP v1 v2 v3 (.vs 7 []) false 0 false) ⟨.refl _,.refl _,.refl _,.zero _ _ rfl,ZK rfl,.refl _,.refl _,.refl _,.refl _,.refl _,.refl _,trivial⟩⟩,trivial⟩,?_⟩
     repeat' first|refine And.intro ?_ ?_|(intro h;try first|exact dz|replace h:=cv)
     all_goals try exact cz
     exact XX (k:=4) (n:=1) (row:=encC ⟨v1,v2,v3,[],false,default⟩) rfl rfl rfl ⟨.refl _,.refl _,.refl _,.refl _,.refl _,.refl _,.refl _,.refl _,.refl _,.refl _,.refl _,trivial⟩ (eC _) (by first|rfl|kernel_rfl) rfl (hP _ _ _ ((Qb hfe).trans ((Qb (hk0 ht1)).trans rfl)))
 ·skip
  have hfe:WK n [] B a4 e4=(ps,aq,eq):=by rw[←hfr,show n-i=0 by omega];rfl
  obtain⟨⟨t1,c1,d1⟩,w1⟩:∃g,truthP B aq eq=g:=⟨_,rfl⟩
  have x1:c1≤B.length:=by have:=(Wy B aq eq hql).1;rwa [w1]at this
  obtain⟨⟨u1,c2,d2⟩,w2⟩:∃g,plainP B c1 d1=g:=⟨_,rfl⟩
  have x2:c2≤B.length:=by have:=(Z3 B c1 d1 x1).1;rwa [w2]at this
  obtain⟨⟨t2,c3,d3⟩,w3⟩:∃g,truthP B c2 d2=g:=⟨_,rfl⟩
  have x3:c3≤B.length:=by have:=(Wy B c2 d2 x2).1;rwa [w3]at this
  obtain⟨⟨y1,c4,d4⟩,w4⟩:∃g,Wr k B c3 d3=g:=⟨_,rfl⟩
  have x4:c4≤B.length:=by have:=(GY k B c3 d3 x3).1;rwa [w4]at this
  obtain⟨⟨y2,c5,d5⟩,w5⟩:∃g,Wr k B c4 d4=g:=⟨_,rfl⟩
  have hk0:t1≠1→J0 k B aq eq=((false,default),c1,d1):=fun h=>(Qb w1).trans (by rw[if_pos h];try rfl)
  have hk1:t1=1→t2≠1→J0 k B aq eq=((true,⟨u1,false,default,default⟩),c3,d3):=fun h g=>(Qb w1).trans (by rw[if_neg (fun x=>x h)];exact(Qb w2).trans ((Qb w3).trans (by unfold Kj;rw[if_pos g];try rfl)))
  have hk2:t1=1→t2=1→J0 k B aq eq=((true,⟨u1,true,y1,y2⟩),c5,d5):=fun h g=>(Qb w1).trans (by rw[if_neg (fun x=>x h)];exact(Qb w2).trans ((Qb w3).trans (by unfold Kj;rw[if_neg (fun x=>x g)];exact(Qb w4).trans ((Qb w5).trans rfl))))
  rcases hs with⟨rfl,hp0⟩|⟨rfl,rfl⟩
  ·skip
   repeat' first|refine And.intro ?_ ?_|(intro h;try first|exact dz|replace h:=cv)
   all_goals try exact cz
   by_cases ht1:t1=1
   ·refine⟨[0],[.ptr 0 0 0],[(0,rrB B aq eq)],by exact rfl,⟨.refl _,trivial⟩,⟨⟨by decide,_,rfl,.refl _⟩,trivial⟩,B,aq,eq,t1,c1,d1,true,rfl,rfl,rfl,⟨hB,hql⟩,w1,decide_eq_true ht1,?_⟩
    repeat' first|refine And.intro ?_ ?_|(intro h;try first|exact dz|replace h:=cv)
    all_goals try exact cz
    refine⟨onG k B c1 d1 v1 v2 v3 ps true 0 false,M2 (K:=3) hp0 (by first|rfl|kernel_rfl) rfl rfl rfl rfl rfl rfl rfl rfl ⟨.refl _,.refl _,.refl _,.refl _,ZK rfl,.refl _,.refl _,.refl _,.refl _,.refl _,.refl _,trivial⟩,?_⟩
    repeat' first|refine And.intro ?_ ?_|(intro h;try first|exact dz|replace h:=cv)
    all_goals try exact cz
    refine⟨[0],[.ptr 0 0 0],[(0,rrB B c1 d1)],by exact rfl,⟨.refl _,trivial⟩,⟨⟨by decide,_,rfl,.refl _⟩,trivial⟩,B,c1,d1,u1,c2,d2,rfl,rfl,rfl,⟨hB,x1⟩,w2,?_⟩
    repeat' first|refine And.intro ?_ ?_|(intro h;try first|exact dz|replace h:=cv)
    all_goals try exact cz
    by_cases ht2:t2=1
    ·refine⟨[0],[.ptr 0 0 0],[(0,rrB B c2 d2)],by exact rfl,⟨.refl _,trivial⟩,⟨⟨by decide,_,rfl,.refl _⟩,trivial⟩,B,c2,d2,t2,c3,d3,true,rfl,rfl,rfl,⟨hB,x2⟩,w3,decide_eq_true ht2,?_⟩
     repeat' first|refine And.intro ?_ ?_|(intro h;try first|exact dz|replace h:=cv)
     all_goals try exact cz
     refine⟨onG k B c3 d3 v1 v2 v3 ps true u1 true,Gu (by first|rfl|kernel_rfl) rfl rfl rfl rfl rfl rfl rfl ⟨.refl _,.refl _,.refl _,.refl _,.refl _,.refl _,ZK rfl,.refl _,.refl _,.refl _,.refl _,trivial⟩,?_⟩
     repeat' first|refine And.intro ?_ ?_|(intro h;try first|exact dz|replace h:=cv)
     all_goals try exact cz
     refine⟨[0],[.ptr 0 0 0,.int .i64 k],[(0,rrB B c3 d3)],by exact rfl,⟨.refl _,.refl _,trivial⟩,⟨⟨by decide,_,rfl,.refl _⟩,trivial⟩,k,B,c3,d3,y1,c4,d4,rfl,rfl,rfl,⟨hB,x3⟩,w4,?_⟩
     repeat' first|refine And.intro ?_ ?_|(intro h;try first|exact dz|replace h:=cv)
     all_goals try exact cz
     refine⟨[0],[.ptr 0 0 0,.int .i64 k],[(0,rrB B c4 d4)],by exact rfl,⟨.refl _,.refl _,trivial⟩,⟨⟨by decide,_,rfl,.refl _⟩,trivial⟩,k,B,c4,d4,y2,c5,d5,rfl,rfl,rfl,⟨hB,x4⟩,w5,?_⟩
     repeat' first|refine And.intro ?_ ?_|(intro h;try first|exact dz|replace h:=cv)
     all_goals try exact cz
     exact XX (k:=4) (n:=1) (row:=encC ⟨v1,v2,v3,ps,true,u1,true,y1,y2⟩) rfl rfl rfl ⟨.refl _,.refl _,.refl _,.refl _,.refl _,.refl _,.refl _,.refl _,.refl _,.refl _,.refl _,trivial⟩ (eC _) (by first|rfl|kernel_rfl) rfl (hP _ _ _ ((Qb hfe).trans ((Qb (hk2 ht1 ht2)).trans rfl)))
    ·refine⟨[0],[.ptr 0 0 0],[(0,rrB B c2 d2)],by exact rfl,⟨.refl _,trivial⟩,⟨⟨by decide,_,rfl,.refl _⟩,trivial⟩,B,c2,d2,t2,c3,d3,false,rfl,rfl,rfl,⟨hB,x2⟩,w3,decide_eq_false ht2,?_⟩
     repeat' first|refine And.intro ?_ ?_|(intro h;try first|exact dz|replace h:=cv)
     all_goals try exact cz
     refine⟨onG k B c3 d3 v1 v2 v3 ps true u1 false,Gu (by first|rfl|kernel_rfl) rfl rfl rfl rfl rfl rfl rfl ⟨.refl _,.refl _,.refl _,.refl _,.refl _,.refl _,ZK rfl,.refl _,.refl _,.refl _,.refl _,trivial⟩,?_⟩
     repeat' first|refine And.intro ?_ ?_|(intro h;try first|exact dz|replace h:=cv)
     all_goals try exact cz
     exact XX (k:=4) (n:=1) (row:=encC ⟨v1,v2,v3,ps,true,u1,false,default,default⟩) rfl rfl rfl ⟨.refl _,.refl _,.refl _,.refl _,.refl _,.refl _,.refl _,.refl _,.refl _,.refl _,.refl _,trivial⟩ (eC _) (by first|rfl|kernel_rfl) rfl (hP _ _ _ ((Qb hfe).trans ((Qb (hk1 ht1 ht2)).trans rfl)))
   ·refine⟨[0],[.ptr 0 0 0],[(0,rrB B aq eq)],by exact rfl,⟨.refl _,trivial⟩,⟨⟨by decide,_,rfl,.refl _⟩,trivial⟩,B,aq,eq,t1,c1,d1,false,rfl,rfl,rfl,⟨hB,hql⟩,w1,decide_eq_false ht1,?_⟩
    repeat' first|refine And.intro ?_ ?_|(intro h;try first|exact dz|replace h:=cv)
    all_goals try exact cz
    refine⟨onG k B c1 d1 v1 v2 v3 ps false 0 false,M2 (K:=3) hp0 (by first|rfl|kernel_rfl) rfl rfl rfl rfl rfl rfl rfl rfl ⟨.refl _,.refl _,.refl _,.refl _,ZK rfl,.refl _,.refl _,.refl _,.refl _,.refl _,.refl _,trivial⟩,?_⟩
    repeat' first|refine And.intro ?_ ?_|(intro h;try first|exact dz|replace h:=cv)
    all_goals try exact cz
    exact XX (k:=4) (n:=1) (row:=encC ⟨v1,v2,v3,ps,false,default⟩) rfl rfl rfl ⟨.refl _,.refl _,.refl _,.refl _,.refl _,.refl _,.refl _,.refl _,.refl _,.refl _,.refl _,trivial⟩ (eC _) (by first|rfl|kernel_rfl) rfl (hP _ _ _ ((Qb hfe).trans ((Qb (hk0 ht1)).trans rfl)))
  ·skip
   repeat' first|refine And.intro ?_ ?_|(intro h;try first|exact dz|replace h:=cv)
   all_goals try exact cz
   by_cases ht1:t1=1
   ·refine⟨[0],[.ptr 0 0 0],[(0,rrB B aq eq)],by exact rfl,⟨.refl _,trivial⟩,⟨⟨by decide,_,rfl,.refl _⟩,trivial⟩,B,aq,eq,t1,c1,d1,true,rfl,rfl,rfl,⟨hB,hql⟩,w1,decide_eq_true ht1,?_⟩
    repeat' first|refine And.intro ?_ ?_|(intro h;try first|exact dz|replace h:=cv)
    all_goals try exact cz
    refine⟨onG k B c1 d1 v1 v2 v3 [] true 0 false,Q0 [0,1,2] (by first|rfl|kernel_rfl) ⟨.refl _,.refl _,.refl _,.refl _,trivial⟩ ⟨⟨by decide,_,rfl,.refl _⟩,⟨by decide,_,rfl,.refl _⟩,⟨by decide,_,rfl,QE (row:=XP v1 v2 v3 (.vs 7 []) true 0 false) ⟨.refl _,.refl _,.refl _,.zero _ _ rfl,ZK rfl,.refl _,.refl _,.refl _,.refl _,.refl _,.refl _,trivial⟩⟩,trivial⟩,?_⟩
    repeat' first|refine And.intro ?_ ?_|(intro h;try first|exact dz|replace h:=cv)
    all_goals try exact cz
    refine⟨[0],[.ptr 0 0 0],[(0,rrB B c1 d1)],by exact rfl,⟨.refl _,trivial⟩,⟨⟨by decide,_,rfl,.refl _⟩,trivial⟩,B,c1,d1,u1,c2,d2,rfl,rfl,rfl,⟨hB,x1⟩,w2,?_⟩
    repeat' first|refine And.intro ?_ ?_|(intro h;try first|exact dz|replace h:=cv)
    all_goals try exact cz
    by_cases ht2:t2=1
    ·refine⟨[0],[.ptr 0 0 0],[(0,rrB B c2 d2)],by exact rfl,⟨.refl _,trivial⟩,⟨⟨by decide,_,rfl,.refl _⟩,trivial⟩,B,c2,d2,t2,c3,d3,true,rfl,rfl,rfl,⟨hB,x2⟩,w3,decide_eq_true ht2,?_⟩
     repeat' first|refine And.intro ?_ ?_|(intro h;try first|exact dz|replace h:=cv)
     all_goals try exact cz
     refine⟨onG k B c3 d3 v1 v2 v3 [] true u1 true,Gu (by first|rfl|kernel_rfl) rfl rfl rfl rfl rfl rfl rfl ⟨.refl _,.refl _,.refl _,.refl _,.refl _,.refl _,ZK rfl,.refl _,.refl _,.refl _,.refl _,trivial⟩,?_⟩
     repeat' first|refine And.intro ?_ ?_|(intro h;try first|exact dz|replace h:=cv)
     all_goals try exact cz
     refine⟨[0],[.ptr 0 0 0,.int .i64 k],[(0,rrB B c3 d3)],by exact rfl,⟨.refl _,.refl _,trivial⟩,⟨⟨by decide,_,rfl,.refl _⟩,trivial⟩,k,B,c3,d3,y1,c4,d4,rfl,rfl,rfl,⟨hB,x3⟩,w4,?_⟩
     repeat' first|refine And.intro ?_ ?_|(intro h;try first|exact dz|replace h:=cv)
     all_goals try exact cz
     refine⟨[0],[.ptr 0 0 0,.int .i64 k],[(0,rrB B c4 d4)],by exact rfl,⟨.refl _,.refl _,trivial⟩,⟨⟨by decide,_,rfl,.refl _⟩,trivial⟩,k,B,c4,d4,y2,c5,d5,rfl,rfl,rfl,⟨hB,x4⟩,w5,?_⟩
     repeat' first|refine And.intro ?_ ?_|(intro h;try first|exact dz|replace h:=cv)
     all_goals try exact cz
     exact XX (k:=4) (n:=1) (row:=encC ⟨v1,v2,v3,[],true,u1,true,y1,y2⟩) rfl rfl rfl ⟨.refl _,.refl _,.refl _,.refl _,.refl _,.refl _,.refl _,.refl _,.refl _,.refl _,.refl _,trivial⟩ (eC _) (by first|rfl|kernel_rfl) rfl (hP _ _ _ ((Qb hfe).trans ((Qb (hk2 ht1 ht2)).trans rfl)))
    ·refine⟨[0],[.ptr 0 0 0],[(0,rrB B c2 d2)],by exact rfl,⟨.refl _,trivial⟩,⟨⟨by decide,_,rfl,.refl _⟩,trivial⟩,B,c2,d2,t2,c3,d3,false,rfl,rfl,rfl,⟨hB,x2⟩,w3,decide_eq_false ht2,?_⟩
     repeat' first|refine And.intro ?_ ?_|(intro h;try first|exact dz|replace h:=cv)
     all_goals try exact cz
     refine⟨onG k B c3 d3 v1 v2 v3 [] true u1 false,Gu (by first|rfl|kernel_rfl) rfl rfl rfl rfl rfl rfl rfl ⟨.refl _,.refl _,.refl _,.refl _,.refl _,.refl _,ZK rfl,.refl _,.refl _,.refl _,.refl _,trivial⟩,?_⟩
     repeat' first|refine And.intro ?_ ?_|(intro h;try first|exact dz|replace h:=cv)
     all_goals try exact cz
     exact XX (k:=4) (n:=1) (row:=encC ⟨v1,v2,v3,[],true,u1,false,default,default⟩) rfl rfl rfl ⟨.refl _,.refl _,.refl _,.refl _,.refl _,.refl _,.refl _,.refl _,.refl _,.refl _,.refl _,trivial⟩ (eC _) (by first|rfl|kernel_rfl) rfl (hP _ _ _ ((Qb hfe).trans ((Qb (hk1 ht1 ht2)).trans rfl)))
   ·refine⟨[0],[.ptr 0 0 0],[(0,rrB B aq eq)],by exact rfl,⟨.refl _,trivial⟩,⟨⟨by decide,_,rfl,.refl _⟩,trivial⟩,B,aq,eq,t1,c1,d1,false,rfl,rfl,rfl,⟨hB,hql⟩,w1,decide_eq_false ht1,?_⟩
    repeat' first|refine And.intro ?_ ?_|(intro h;try first|exact dz|replace h:=cv)
    all_goals try exact cz
    refine⟨onG k B c1 d1 v1 v2 v3 [] false 0 false,Q0 [0,1,2] (by first|rfl|kernel_rfl) ⟨.refl _,.refl _,.refl _,.refl _,trivial⟩ ⟨⟨by decide,_,rfl,.refl _⟩,⟨by decide,_,rfl,.refl _⟩,⟨by decide,_,rfl,QE (row:=XP v1 v2 v3 (.vs 7 []) false 0 false) ⟨.refl _,.refl _,.refl _,.zero _ _ rfl,ZK rfl,.refl _,.refl _,.refl _,.refl _,.refl _,.refl _,trivial⟩⟩,trivial⟩,?_⟩
    repeat' first|refine And.intro ?_ ?_|(intro h;try first|exact dz|replace h:=cv)
    all_goals try exact cz
    exact XX (k:=4) (n:=1) (row:=encC ⟨v1,v2,v3,[],false,default⟩) rfl rfl rfl ⟨.refl _,.refl _,.refl _,.refl _,.refl _,.refl _,.refl _,.refl _,.refl _,.refl _,.refl _,trivial⟩ (eC _) (by first|rfl|kernel_rfl) rfl (hP _ _ _ ((Qb hfe).trans ((Qb (hk0 ht1)).trans rfl)))
def SC:SpecT:=fun args H nx Post=>∃k B a e v a' e',args=[.ptr 0 0 0,.int .i64 k]∧H=[(0,rrB B a e)]∧nx=1∧(B.length≤1000000∧a≤B.length)∧VZ k B a e=(v,a',e')∧Post (.agg (encC v)) [(0,rrB B a' e')] 2
theorem Tg[Syms]:SC.ok Try.prog 34:=by
 rintro args H nx Post ⟨k,B,a,e,v,a',e',rfl,rfl,rfl,⟨h1,h2⟩,h5,h⟩
 exact XF.forget (Qj Qf Qg Q3 S6 Qw (Q0s k B a e h1 h2 fun v2 a2 e2 hq=>by rw[h5]at hq;cases hq;exact h))
end
section
set_option maxRecDepth 100000
set_option maxHeartbeats 4000000
def KN(c:Nat):Bool:=decide ((97≤c∧c≤122)∨(48≤c∧c≤57)∨c=95)
theorem SP[Syms](c:Nat):fnT Q7 Q7 (Qx fns) (Qo tys) (Qz plt) 100 109 [.int .u8 c] [] 0 (fun v H _=>v= .bool (KN c)∧H=[]):=by
 generalize hs:KN c=b
 rw[KN]at hs
 repeat' first|refine And.intro ?_ ?_|(intro h;try first|exact dz|replace h:=cv)
 all_goals try exact cz
 all_goals
  refine⟨_,Q1 [2] rfl,_,rfl,congrArg AVal.bool ?_,rfl⟩
  rw[←hs,Bool.eq_iff_iff,decide_eq_true_eq]
  try simp only[↓reduceIte,decide_eq_true_eq,Bool.false_eq_true]
  first|omega|(simp only[true_iff];omega)
def S_sign:SpecI:=fun args K=>∃c:Nat,args=[.int .u8 c]∧K (.bool (KN c))
theorem PD[Syms]:Zs Try.prog 109 S_sign:=by
 rintro args K ⟨c,rfl,hk⟩
 exact⟨rfl,_,rfl,hk,fnI Qf Qg Q3 Q9 Qw (SP c)⟩
abbrev cSg:CallT:=Q6 109 (X0 S_sign) Q7
theorem TL[Syms]:cSg.ok Try.prog:=Qh PD Q9
theorem PW[Syms](s:List UInt8)(hs:s.length≤5000):
 fnT Q7 cSg (Qx fns) (Qo tys) (Qz plt) 100 88 [.str s] [] 0 (fun v H _=>v= .bool (Yf s)∧H=[]):=by
 by_cases h0:s=[]
 ·subst h0
  repeat' first|refine And.intro ?_ ?_|(intro h;try first|exact dz|replace h:=cv)
  all_goals try exact cz
  all_goals exact⟨_,Q1 [2] rfl,_,rfl,rfl,rfl⟩
 have hl0:0<s.length:=List.length_pos_iff.2 h0
 by_cases hl:12<s.length
 ·have hn:Yf s=false:=by rw[Yf,decide_eq_false (show ¬s.length≤12 by omega)];simp
  rw[hn]
  repeat' first|refine And.intro ?_ ?_|(intro h;try first|exact dz|replace h:=cv)
  all_goals try exact cz
  exact⟨_,Q1 [2] rfl,_,rfl,rfl,rfl⟩
 ·have hb:=(s.getD 0 0).toNat_lt
  have hok:=KT s 0
  have hno:=CC (k:=0) h0 hl hl0
  generalize hc:(s.getD 0 0).toNat=c at *
  by_cases hlet:97≤c∧c≤122
  · repeat' first|refine And.intro ?_ ?_|(intro h;try first|exact dz|replace h:=cv)
    all_goals try exact cz
    refine⟨fun m st=>∃k:Nat,(k≤s.length∧m=s.length-k∧ ∀j,j<k→F3 s j=true)∧st=⟨[(0,.str s),(3,.int .i64 k)],[],0⟩,⟨_,⟨[(0,.str s),(3,.int .i64 (0:Nat))],[],0⟩,Q1 [0,3] rfl,0,⟨by omega,rfl,fun j h=>by omega⟩,rfl⟩,?_⟩
    rintro m st ⟨k,⟨hk,rfl,hj⟩,rfl⟩
    by_cases hin:k<s.length
    ·have hsg:KN (s.getD k 0).toNat=true↔F3 s k=true:=by
      rw[KT,KN,decide_eq_true_eq]
      by_cases hk0:k=0
      ·subst hk0;omega
      ·omega
     by_cases hsk:KN (s.getD k 0).toNat=true
     · repeat' first|refine And.intro ?_ ?_|(intro h;try first|exact dz|replace h:=cv)
       all_goals try exact cz
       refine⟨_,rfl,?_⟩
       rw[show KN (s.getD ((k:Nat):Int).toNat 0).toNat=_ from hsk]
       repeat' first|refine And.intro ?_ ?_|(intro h;try first|exact dz|replace h:=cv)
       all_goals try exact cz
       refine⟨_,⟨[(0,.str s),(3,.int .i64 (k+1:Nat))],[],0⟩,Q1 [0,3] rfl,⟨k+1,⟨by omega,rfl,fun j hlt=>?_⟩,rfl⟩,by omega⟩
       rcases Nat.lt_or_ge j k with h'|h'
       ·exact hj j h'
       ·obtain rfl:j=k:=by omega
        exact hsg.1 hsk
     ·have hn:Yf s=false:=Bool.eq_false_iff.2 fun hn=>hsk (hsg.2 ((KV h0 hl).1 hn k hin))
      rw[Bool.not_eq_true]at hsk
      rw[hn]
      repeat' first|refine And.intro ?_ ?_|(intro h;try first|exact dz|replace h:=cv)
      all_goals try exact cz
      refine⟨_,rfl,?_⟩
      rw[show KN (s.getD ((k:Nat):Int).toNat 0).toNat=_ from hsk]
      repeat' first|refine And.intro ?_ ?_|(intro h;try first|exact dz|replace h:=cv)
      all_goals try exact cz
      exact⟨_,Q1 [2] rfl,_,rfl,rfl,rfl⟩
    ·have hn:Yf s=true:=(KV h0 hl).2 fun j hjl=>hj j (by omega)
     rw[hn]
     repeat' first|refine And.intro ?_ ?_|(intro h;try first|exact dz|replace h:=cv)
     all_goals try exact cz
     exact⟨_,Q1 [2] rfl,_,rfl,rfl,rfl⟩
  ·rw[hno (by omega)]
   repeat' first|refine And.intro ?_ ?_|(intro h;try first|exact dz|replace h:=cv)
   all_goals try exact cz
   all_goals exact⟨_,Q1 [2] rfl,_,rfl,rfl,rfl⟩
def S_name':SpecI:=fun args K=>∃s,args=[.str s]∧s.length≤1000∧K (.bool (Yf s))
theorem Cn[Syms]:Zs Try.prog 88 S_name':=by
 rintro args K ⟨s,rfl,h,hk⟩
 exact⟨rfl,_,rfl,hk,fnI Qf Qg Q3 TL Qw (PW s (by omega))⟩
theorem Ps[Syms](fs:List Fd)(ps:List Int)(i:Nat)(hi:i<fs.length)(hp:ps.length=fs.length)(hl:fs.length<1000):
 fnT Q7 Q7 (Qx fns) (Qo tys) (Qz plt) 100 89 [vF fs,vI ps,.int .i64 i] [] 0 (fun v H _=>v= .bool (WF fs ps i)∧H=[]):=by
 refine⟨fun n s=>∃k:Nat,(k≤i∧n=i-k∧ ∀j,j<k→Xw fs ps i j=false)∧s=⟨[(0,vF fs),(1,vI ps),(2,.int .i64 i),(7,.int .i64 k)],[],0⟩,
  ⟨_,⟨[(0,vF fs),(1,vI ps),(2,.int .i64 i),(7,.int .i64 (0:Nat))],[],0⟩,Q1 [0,1,2,7] rfl,0,⟨by omega,rfl,fun j h=>by omega⟩,rfl⟩,?_⟩
 rintro n s ⟨k,⟨hk,rfl,hj⟩,rfl⟩
 by_cases hki:k<i
 ·have next:Xw fs ps i k=false→ ∀j,j<k+1→Xw fs ps i j=false:=fun h j hlt=>by
   rcases Nat.lt_or_ge j k with h'|h'
   ·exact hj j h'
   ·obtain rfl:j=k:=by omega
    exact h
  have yes:Xw fs ps i k=true→WF fs ps i=true:=fun h=>List.any_eq_true.2 ⟨k,List.mem_range.2 hki,h⟩
  by_cases hpk:ps.getD k 0=ps.getD i 0
  ·cases hnk:eqb (fs.getD k default).name (fs.getD i default).name
   ·have hf:Xw fs ps i k=false:=by rw[Xw,hnk];simp
    repeat' first|refine And.intro ?_ ?_|(intro h;try first|exact dz|replace h:=cv)
    all_goals try exact cz
    all_goals(try exact absurd (show eqb (fs.getD k default).name (fs.getD i default).name=true from ‹_›) (by rw[hnk];decide))
    all_goals exact⟨_,⟨[(0,vF fs),(1,vI ps),(2,.int .i64 i),(7,.int .i64 (k+1:Nat))],[],0⟩,Q1 [0,1,2,7] rfl,⟨k+1,⟨by omega,rfl,next hf⟩,rfl⟩,by omega⟩
   ·have hf:Xw fs ps i k=true:=by rw[Xw,hnk,decide_eq_true hpk];rfl
    rw[yes hf]
    repeat' first|refine And.intro ?_ ?_|(intro h;try first|exact dz|replace h:=cv)
    all_goals try exact cz
    all_goals(try exact absurd (show eqb (fs.getD k default).name (fs.getD i default).name=false from ‹_›) (by rw[hnk];decide))
    all_goals exact⟨_,Q1 [6] rfl,_,rfl,rfl,rfl⟩
  ·have hf:Xw fs ps i k=false:=by rw[Xw,decide_eq_false hpk];simp
   repeat' first|refine And.intro ?_ ?_|(intro h;try first|exact dz|replace h:=cv)
   all_goals try exact cz
   all_goals exact⟨_,⟨[(0,vF fs),(1,vI ps),(2,.int .i64 i),(7,.int .i64 (k+1:Nat))],[],0⟩,Q1 [0,1,2,7] rfl,⟨k+1,⟨by omega,rfl,next hf⟩,rfl⟩,by omega⟩
 ·have hf:WF fs ps i=false:=Bool.eq_false_iff.2 fun h=>by
   obtain⟨j,h1,h2⟩:=List.any_eq_true.1 h
   rw[hj j (by have:=List.mem_range.1 h1;omega)]at h2
   cases h2
  rw[hf]
  repeat' first|refine And.intro ?_ ?_|(intro h;try first|exact dz|replace h:=cv)
  all_goals try exact cz
  exact⟨_,Q1 [6] rfl,_,rfl,rfl,rfl⟩
def S_twice:SpecI:=fun args K=>∃(fs:List Fd) (ps:List Int) (i:Nat),args=[vF fs,vI ps,.int .i64 i]∧(i<fs.length∧ps.length=fs.length∧fs.length<1000)∧K (.bool (WF fs ps i))
theorem C8[Syms]:Zs Try.prog 89 S_twice:=by
 rintro args K ⟨fs,ps,i,rfl,⟨h1,h2,h3⟩,hk⟩
 exact⟨rfl,_,rfl,hk,fnI Qf Qg Q3 Q9 Qw (Ps fs ps i h1 h2 h3)⟩
end
section
set_option maxRecDepth 100000
set_option maxHeartbeats 8000000
abbrev cLk:CallT:=Q6 88 (X0 S_name') (Q6 89 (X0 S_twice) (Q6 78 (X0 S_rwalk) Q7))
theorem P2[Syms]:cLk.ok Try.prog:=Qh Cn (Qh C8 (Qh Cf Q9))
abbrev cLd:CallT:=Q6 88 (X0 S_name') (Q6 89 (X0 S_twice) Q7)
theorem ID[Syms]:cLd.det Try.prog:=Zz Cn (Zz C8 Q3)
def lkS(fs:List Fd)(i:Nat):St:=⟨[(0,vF fs),(5,vI (Qi fs)),(6,vI (X1 fs)),(7,.int .i64 i)],[],0⟩
def lkR(fs:List Fd)(i:Nat):St:=⟨[(0,vF fs),(5,vI (Qi fs)),(6,vI (X1 fs)),(7,.int .i64 i),(8,.ptr 0 0 0)],[(0,some (.cells [encF (fs.getD i default)] false))],1⟩
def rcS(fs:List Fd)(i:Nat)(k:Int):St:=⟨[(0,vF fs),(3,vI (Qi fs)),(4,vI (X1 fs)),(5,.int .i64 k),(6,.int .i64 i)],[],0⟩
def rcR(fs:List Fd)(i:Nat)(k:Int):St:=⟨[(0,vF fs),(3,vI (Qi fs)),(4,vI (X1 fs)),(5,.int .i64 k),(6,.int .i64 i),(7,.ptr 0 0 0)],[(0,some (.cells [encF (fs.getD i default)] false))],1⟩
theorem Rp[Syms](fs:List Fd)(j:Nat)(hF:FsOk fs)(hj0:0<j)(hj:j≤fs.length):
 fnT cLd cLk (Qx fns) (Qo tys) (XD [(90,5)] (Qz plt)) 100 90 [vF fs,.int .i64 j] [] 0 (fun v H _=>v= .int .i64 (YL fs j (fs.length-j))∧H=[]):=by
 have hl:=hF.len
 have hpl:=XR fs
 have hdl:=K4 fs
 repeat' first|refine And.intro ?_ ?_|(intro h;try first|exact dz|replace h:=cv)
 all_goals try exact cz
 refine⟨fs,rfl,hF,?_⟩
 repeat' first|refine And.intro ?_ ?_|(intro h;try first|exact dz|replace h:=cv)
 all_goals try exact cz
 refine⟨fun m s=>∃i:Nat,(0<i∧i≤fs.length∧m=fs.length-i∧YL fs i (fs.length-i)=YL fs j (fs.length-j))∧s=lkS fs i,⟨_,lkS fs j,Q1 [0,5,6,7] rfl,j,⟨hj0,hj,rfl,rfl⟩,rfl⟩,?_⟩
 rintro m s ⟨i,⟨hi0,hi,rfl,hc⟩,rfl⟩
 by_cases hin:i<fs.length
 ·have hnl:=hF.name i
  rw[CO hin]at hc
  generalize he:WX fs i=e at hc
  have he0:=he
  unfold WX YJ BH at he
  repeat' first|refine And.intro ?_ ?_|(intro h;try first|exact dz|replace h:=cv)
  all_goals try exact cz
  refine⟨lkR fs i,Q0 [0] (by first|rfl|kernel_rfl) ⟨.refl _,.refl _,.refl _,.refl _,.refl _,trivial⟩ ⟨⟨by decide,_,rfl,.refl _⟩,trivial⟩,?_⟩
  have ht0:i=0→WF fs (Qi fs) i=false:=fun h=>by subst h;rfl
  by_cases hz:e=0
  ·obtain⟨z1,z2,hnm,htw,z3,z4,z5,z6,z7,z8,z9⟩:=UR (he0.trans hz)
   rw[if_neg (fun h=>h hz)]at hc
   repeat' first|refine And.intro ?_ ?_|(intro h;try first|exact dz|replace h:=cv)
   all_goals try exact cz
   all_goals(refine⟨(fs.getD i default).name,rfl,hnl,?_⟩;rw[hnm])
   all_goals
    repeat' first|refine And.intro ?_ ?_|(intro h;try first|exact dz|replace h:=cv)
    all_goals try exact cz
   all_goals(try(refine⟨fs,Qi fs,i,rfl,⟨hin,hpl,hl⟩,?_⟩;rw[htw]))
   all_goals
    repeat' first|refine And.intro ?_ ?_|(intro h;try first|exact dz|replace h:=cv)
    all_goals try exact cz
   all_goals exact⟨_,lkS fs (i+1),Q1 [0,5,6,7] rfl,⟨i+1,⟨by omega,by omega,rfl,hc⟩,rfl⟩,by omega⟩
  ·rw[if_pos hz]at hc
   rw[←hc]
   cases hnm:Yf (fs.getD i default).name
   ·simp only[hnm,reduceCtorEq,or_true,or_false,true_or,false_or,if_true,if_false]at he
    repeat' first|refine And.intro ?_ ?_|(intro h;try first|exact dz|replace h:=cv)
    all_goals try exact cz
    all_goals(try first|(refine⟨_,Q1 [4] rfl,_,rfl,congrArg (AVal.int .i64) ?_,rfl⟩;(repeat'(split at he))<;>omega)|(exfalso;(repeat'(split at he))<;>omega))
    all_goals(refine⟨(fs.getD i default).name,rfl,hnl,?_⟩;rw[hnm])
    all_goals
     repeat' first|refine And.intro ?_ ?_|(intro h;try first|exact dz|replace h:=cv)
     all_goals try exact cz
    all_goals(try first|(refine⟨_,Q1 [4] rfl,_,rfl,congrArg (AVal.int .i64) ?_,rfl⟩;(repeat'(split at he))<;>omega)|(exfalso;(repeat'(split at he))<;>omega))
   ·cases htw:WF fs (Qi fs) i
    ·simp only[hnm,htw,reduceCtorEq,or_true,or_false,true_or,false_or,if_true,if_false]at he
     repeat' first|refine And.intro ?_ ?_|(intro h;try first|exact dz|replace h:=cv)
     all_goals try exact cz
     all_goals(try first|(refine⟨_,Q1 [4] rfl,_,rfl,congrArg (AVal.int .i64) ?_,rfl⟩;(repeat'(split at he))<;>omega)|(exfalso;(repeat'(split at he))<;>omega))
     all_goals(refine⟨(fs.getD i default).name,rfl,hnl,?_⟩;rw[hnm])
     all_goals
      repeat' first|refine And.intro ?_ ?_|(intro h;try first|exact dz|replace h:=cv)
      all_goals try exact cz
     all_goals(try first|(refine⟨_,Q1 [4] rfl,_,rfl,congrArg (AVal.int .i64) ?_,rfl⟩;(repeat'(split at he))<;>omega)|(exfalso;(repeat'(split at he))<;>omega))
     all_goals(refine⟨fs,Qi fs,i,rfl,⟨hin,hpl,hl⟩,?_⟩;rw[htw])
     all_goals
      repeat' first|refine And.intro ?_ ?_|(intro h;try first|exact dz|replace h:=cv)
      all_goals try exact cz
     all_goals(try first|(refine⟨_,Q1 [4] rfl,_,rfl,congrArg (AVal.int .i64) ?_,rfl⟩;(repeat'(split at he))<;>omega)|(exfalso;(repeat'(split at he))<;>omega))
    ·simp only[hnm,htw,reduceCtorEq,or_true,or_false,true_or,false_or,if_true,if_false]at he
     have hi0':i≠0:=fun h=>by rw[ht0 h]at htw;cases htw
     repeat' first|refine And.intro ?_ ?_|(intro h;try first|exact dz|replace h:=cv)
     all_goals try exact cz
     all_goals(try first|(refine⟨_,Q1 [4] rfl,_,rfl,congrArg (AVal.int .i64) ?_,rfl⟩;(repeat'(split at he))<;>omega)|(exfalso;(repeat'(split at he))<;>omega))
     all_goals(refine⟨(fs.getD i default).name,rfl,hnl,?_⟩;rw[hnm])
     all_goals
      repeat' first|refine And.intro ?_ ?_|(intro h;try first|exact dz|replace h:=cv)
      all_goals try exact cz
     all_goals(try first|(refine⟨_,Q1 [4] rfl,_,rfl,congrArg (AVal.int .i64) ?_,rfl⟩;(repeat'(split at he))<;>omega)|(exfalso;(repeat'(split at he))<;>omega))
     all_goals(refine⟨fs,Qi fs,i,rfl,⟨hin,hpl,hl⟩,?_⟩;rw[htw])
     all_goals
      repeat' first|refine And.intro ?_ ?_|(intro h;try first|exact dz|replace h:=cv)
      all_goals try exact cz
     all_goals(try first|(refine⟨_,Q1 [4] rfl,_,rfl,congrArg (AVal.int .i64) ?_,rfl⟩;(repeat'(split at he))<;>omega)|(exfalso;(repeat'(split at he))<;>omega))
 ·obtain rfl:i=fs.length:=by omega
  rw[Nat.sub_self]at hc
  rw[←hc]
  repeat' first|refine And.intro ?_ ?_|(intro h;try first|exact dz|replace h:=cv)
  all_goals try exact cz
  exact⟨_,Q1 [4] rfl,_,rfl,rfl,rfl⟩
def S_lacks:SpecI:=fun args K=>∃(fs:List Fd) (j:Nat),args=[vF fs,.int .i64 j]∧(FsOk fs∧0<j∧j≤fs.length)∧K (.int .i64 (YL fs j (fs.length-j)))
theorem Oc[Syms]:Zs Try.prog 90 S_lacks:=by
 rintro args K ⟨fs,j,rfl,⟨h1,h2,h3⟩,hk⟩
 exact⟨rfl,_,rfl,hk,fnI Qf Qg ID P2 Qw (Rp fs j h1 h2 h3)⟩
abbrev cRc:CallT:=Q6 90 (X0 S_lacks) cLk
theorem TU[Syms]:cRc.ok Try.prog:=Qh Oc P2
theorem NG[Syms](fs:List Fd)(hF:FsOk fs):
 fnT cLd cRc (Qx fns) (Qo tys) (XD [(64,8)] (Qz plt)) 100 64 [vF fs] [] 0 (fun v H _=>v= .int .i64 (VR fs)∧H=[]):=by
 have hl:=hF.len
 have hpl:=XR fs
 have hdl:=K4 fs
 by_cases hn:fs.length<1∨40<fs.length
 ·have he:VR fs=4:=by rw[VR,if_pos hn]
  rw[he]
  repeat' first|refine And.intro ?_ ?_|(intro h;try first|exact dz|replace h:=cv)
  all_goals try exact cz
  all_goals exact⟨_,Q1 [2] rfl,_,rfl,rfl,rfl⟩
 rw[show VR fs=U4 fs 0 fs.length 0 from if_neg hn]
 repeat' first|refine And.intro ?_ ?_|(intro h;try first|exact dz|replace h:=cv)
 all_goals try exact cz
 refine⟨fs,rfl,hF,?_⟩
 repeat' first|refine And.intro ?_ ?_|(intro h;try first|exact dz|replace h:=cv)
 all_goals try exact cz
 refine⟨fun m s=>∃(i:Nat) (k:Int),(i≤fs.length∧m=fs.length-i∧0≤k∧k≤40*i∧U4 fs i (fs.length-i) k=U4 fs 0 fs.length 0)∧s=rcS fs i k,⟨_,rcS fs 0 0,Q1 [0,3,4,5,6] rfl,0,0,⟨by omega,rfl,by omega,by omega,rfl⟩,rfl⟩,?_⟩
 rintro m s ⟨i,k,⟨hi,rfl,hk0,hk1,hc⟩,rfl⟩
 by_cases hin:i<fs.length
 ·have hnl:=hF.name i
  rw[EM hin]at hc
  have hkz:=DV (fs:=fs) (i:=i)
  generalize he:WX fs i=e at hc hkz
  have he0:=he
  unfold WX YJ BH at he
  repeat' first|refine And.intro ?_ ?_|(intro h;try first|exact dz|replace h:=cv)
  all_goals try exact cz
  refine⟨rcR fs i k,Q0 [0] (by first|rfl|kernel_rfl) ⟨.refl _,.refl _,.refl _,.refl _,.refl _,.refl _,trivial⟩ ⟨⟨by decide,_,rfl,.refl _⟩,trivial⟩,?_⟩
  have ht0:i=0→WF fs (Qi fs) i=false:=fun h=>by subst h;rfl
  by_cases hz:e=0
  ·obtain⟨z1,z2,hnm,htw,z3,z4,z5,z6,z7,z8,z9⟩:=UR (he0.trans hz)
   rw[if_neg (fun h=>h hz)]at hc
   have hk2:=hkz hz
   by_cases hk40:40<(fs.getD i default).kids
   ·rw[if_pos hk40]at hc
    rw[←hc]
    repeat' first|refine And.intro ?_ ?_|(intro h;try first|exact dz|replace h:=cv)
    all_goals try exact cz
    all_goals(refine⟨(fs.getD i default).name,rfl,hnl,?_⟩;rw[hnm])
    all_goals
     repeat' first|refine And.intro ?_ ?_|(intro h;try first|exact dz|replace h:=cv)
     all_goals try exact cz
    all_goals(try(refine⟨fs,Qi fs,i,rfl,⟨hin,hpl,hl⟩,?_⟩;rw[htw]))
    all_goals
     repeat' first|refine And.intro ?_ ?_|(intro h;try first|exact dz|replace h:=cv)
     all_goals try exact cz
    all_goals(try(with_reducible show(_:Int)≤(_:Int));first|(show(-9223372036854775808:Int)≤k+(fs.getD i default).kids;omega)|(show k+(fs.getD i default).kids≤(9223372036854775807:Int);omega))
    all_goals refine⟨fs,i+1,rfl,⟨hF,by omega,by omega⟩,?_⟩
    all_goals
     repeat' first|refine And.intro ?_ ?_|(intro h;try first|exact dz|replace h:=cv)
     all_goals try exact cz
    all_goals exact⟨_,Q1 [2] rfl,_,rfl,rfl,rfl⟩
   ·rw[if_neg hk40]at hc
    repeat' first|refine And.intro ?_ ?_|(intro h;try first|exact dz|replace h:=cv)
    all_goals try exact cz
    all_goals(refine⟨(fs.getD i default).name,rfl,hnl,?_⟩;rw[hnm])
    all_goals
     repeat' first|refine And.intro ?_ ?_|(intro h;try first|exact dz|replace h:=cv)
     all_goals try exact cz
    all_goals(try(refine⟨fs,Qi fs,i,rfl,⟨hin,hpl,hl⟩,?_⟩;rw[htw]))
    all_goals
     repeat' first|refine And.intro ?_ ?_|(intro h;try first|exact dz|replace h:=cv)
     all_goals try exact cz
    all_goals(try(with_reducible show(_:Int)≤(_:Int));first|(show(-9223372036854775808:Int)≤k+(fs.getD i default).kids;omega)|(show k+(fs.getD i default).kids≤(9223372036854775807:Int);omega))
    all_goals exact⟨_,rcS fs (i+1) (k+(fs.getD i default).kids),Q1 [0,3,4,5,6] rfl,⟨i+1,_,⟨by omega,rfl,by omega,by omega,hc⟩,rfl⟩,by omega⟩
  ·rw[if_pos hz]at hc
   rw[←hc]
   cases hnm:Yf (fs.getD i default).name
   ·simp only[hnm,reduceCtorEq,or_true,or_false,true_or,false_or,if_true,if_false]at he
    repeat' first|refine And.intro ?_ ?_|(intro h;try first|exact dz|replace h:=cv)
    all_goals try exact cz
    all_goals(try first|(refine⟨_,Q1 [2] rfl,_,rfl,congrArg (AVal.int .i64) ?_,rfl⟩;(repeat'(split at he))<;>omega)|(exfalso;(repeat'(split at he))<;>omega))
    all_goals(refine⟨(fs.getD i default).name,rfl,hnl,?_⟩;rw[hnm])
    all_goals
     repeat' first|refine And.intro ?_ ?_|(intro h;try first|exact dz|replace h:=cv)
     all_goals try exact cz
    all_goals(try first|(refine⟨_,Q1 [2] rfl,_,rfl,congrArg (AVal.int .i64) ?_,rfl⟩;(repeat'(split at he))<;>omega)|(exfalso;(repeat'(split at he))<;>omega))
   ·cases htw:WF fs (Qi fs) i
    ·simp only[hnm,htw,reduceCtorEq,or_true,or_false,true_or,false_or,if_true,if_false]at he
     repeat' first|refine And.intro ?_ ?_|(intro h;try first|exact dz|replace h:=cv)
     all_goals try exact cz
     all_goals(try first|(refine⟨_,Q1 [2] rfl,_,rfl,congrArg (AVal.int .i64) ?_,rfl⟩;(repeat'(split at he))<;>omega)|(exfalso;(repeat'(split at he))<;>omega))
     all_goals(refine⟨(fs.getD i default).name,rfl,hnl,?_⟩;rw[hnm])
     all_goals
      repeat' first|refine And.intro ?_ ?_|(intro h;try first|exact dz|replace h:=cv)
      all_goals try exact cz
     all_goals(try first|(refine⟨_,Q1 [2] rfl,_,rfl,congrArg (AVal.int .i64) ?_,rfl⟩;(repeat'(split at he))<;>omega)|(exfalso;(repeat'(split at he))<;>omega))
     all_goals(refine⟨fs,Qi fs,i,rfl,⟨hin,hpl,hl⟩,?_⟩;rw[htw])
     all_goals
      repeat' first|refine And.intro ?_ ?_|(intro h;try first|exact dz|replace h:=cv)
      all_goals try exact cz
     all_goals(try first|(refine⟨_,Q1 [2] rfl,_,rfl,congrArg (AVal.int .i64) ?_,rfl⟩;(repeat'(split at he))<;>omega)|(exfalso;(repeat'(split at he))<;>omega))
    ·simp only[hnm,htw,reduceCtorEq,or_true,or_false,true_or,false_or,if_true,if_false]at he
     have hi0':i≠0:=fun h=>by rw[ht0 h]at htw;cases htw
     repeat' first|refine And.intro ?_ ?_|(intro h;try first|exact dz|replace h:=cv)
     all_goals try exact cz
     all_goals(try first|(refine⟨_,Q1 [2] rfl,_,rfl,congrArg (AVal.int .i64) ?_,rfl⟩;(repeat'(split at he))<;>omega)|(exfalso;(repeat'(split at he))<;>omega))
     all_goals(refine⟨(fs.getD i default).name,rfl,hnl,?_⟩;rw[hnm])
     all_goals
      repeat' first|refine And.intro ?_ ?_|(intro h;try first|exact dz|replace h:=cv)
      all_goals try exact cz
     all_goals(try first|(refine⟨_,Q1 [2] rfl,_,rfl,congrArg (AVal.int .i64) ?_,rfl⟩;(repeat'(split at he))<;>omega)|(exfalso;(repeat'(split at he))<;>omega))
     all_goals(refine⟨fs,Qi fs,i,rfl,⟨hin,hpl,hl⟩,?_⟩;rw[htw])
     all_goals
      repeat' first|refine And.intro ?_ ?_|(intro h;try first|exact dz|replace h:=cv)
      all_goals try exact cz
     all_goals(try first|(refine⟨_,Q1 [2] rfl,_,rfl,congrArg (AVal.int .i64) ?_,rfl⟩;(repeat'(split at he))<;>omega)|(exfalso;(repeat'(split at he))<;>omega))
 ·obtain rfl:i=fs.length:=by omega
  rw[Nat.sub_self]at hc
  rw[←hc,U4]
  by_cases hke:k=fs.length-1
  ·rw[if_neg (fun h=>h hke)]
   repeat' first|refine And.intro ?_ ?_|(intro h;try first|exact dz|replace h:=cv)
   all_goals try exact cz
   exact⟨_,Q1 [2] rfl,_,rfl,rfl,rfl⟩
  ·rw[if_pos hke]
   repeat' first|refine And.intro ?_ ?_|(intro h;try first|exact dz|replace h:=cv)
   all_goals try exact cz
   exact⟨_,Q1 [2] rfl,_,rfl,rfl,rfl⟩
def S_rcheck:SpecI:=fun args K=>∃fs,args=[vF fs]∧FsOk fs∧K (.int .i64 (VR fs))
theorem La[Syms]:Zs Try.prog 64 S_rcheck:=by
 rintro args K ⟨fs,rfl,h,hk⟩
 exact⟨rfl,_,rfl,hk,fnI Qf Qg ID TU Qw (NG fs h)⟩
end
section
set_option maxRecDepth 100000
set_option maxHeartbeats 4000000
def BW:SpecT:=fun args H nx Post=>∃B a e n v a' e',args=[.ptr 0 0 0,.int .i64 (n:Nat)]∧H=[(0,rrB B a e)]∧nx=1∧(B.length≤1000000∧a≤B.length∧n≤1000000)∧ZN n B a e=(v,a',e')∧Post (vB v) [(0,rrB B a' e')] 1
theorem E2[Syms]:BW.ok Try.prog 30:=by
 rintro args H nx Post ⟨B,a,e,n,v,a',e',h1,h2,h3,h4,h5,h⟩
 exact JM args H nx Post ⟨B,a,e,n,h1,h2,h3,h4,by rw[h5];exact h⟩
abbrev cPr:CallT:=Q6 29 (QG BT) (Q6 63 (QG Ht) (Q6 31 (QG BX) (Q6 30 (QG BW) (Q6 35 (QG BV) (Q6 64 (X0 S_rcheck) Q7)))))
theorem TZ[Syms]:cPr.ok Try.prog:=Q4 Ci (Q4 In (Q4 BB (Q4 E2 (Q4 Cj (Qh La Q9)))))
noncomputable def plPr:Nat→Nat→Pl:=XD [(32,12)] (Qz plt)
def qrS(B:List UInt8)(a:Nat)(e:Int)(n i:Nat)(fs:List Fd):St:=⟨[(4,.ptr 0 0 0),(5,.int .i64 n),(6,.slice 1 0 fs.length 4 none),(7,.int .i64 i)],[(0,rrB B a e),(1,some (.cells (fs.map encF) false))],2⟩
def qrN(B:List UInt8)(a:Nat)(e:Int)(n i:Nat):St:=⟨[(4,.ptr 0 0 0),(5,.int .i64 n),(6,.nils),(7,.int .i64 i)],[(0,rrB B a e)],1⟩
theorem RB(B:List UInt8)(a:Nat)(e:Int):((0≤(fldP B a e).1.rep∧(fldP B a e).1.rep<256)∧(0≤(fldP B a e).1.kind∧(fldP B a e).1.kind<256)∧(0≤(fldP B a e).1.kids∧(fldP B a e).1.kids≤40)∧(fldP B a e).1.name.length≤12):=by
 unfold fldP Zl U7
 dsimp only
 have h1:=Wx 1 B a e
 generalize XB 1 B a e=q1 at *
 have h2:=Wx 1 B q1.2.1 q1.2.2
 generalize XB 1 B q1.2.1 q1.2.2=q2 at *
 have h3:=Wv 40 14 B q2.2.1 q2.2.2
 generalize X5 40 14 B q2.2.1 q2.2.2=q3 at *
 have h4:=Wv 12 5 B q3.2.1 q3.2.2
 generalize X5 12 5 B q3.2.1 q3.2.2=q4 at *
 have h5:=UG q4.1 B q4.2.1 q4.2.2
 generalize ZN q4.1 B q4.2.1 q4.2.2=q5 at *
 refine⟨⟨by omega,by omega⟩,⟨by omega,by omega⟩,⟨by omega,by omega⟩,?_⟩
 rcases h5 with h5|h5
 ·omega
 ·rw[h5];exact Nat.zero_le _
theorem Wh.snocP{fs:List Fd}(h:Wh fs){f:Fd}{B:List UInt8}{a a':Nat}{e e':Int}(hf:fldP B a e=(f,a',e')):Wh (fs++[f]):=fun g hg=>by
 rcases List.mem_append.1 hg with k|k
 ·exact h g k
 ·have:=RB B a e
  rw[hf]at this
  rw[List.mem_singleton.1 k];exact this
theorem LD(k:Nat)(s:List Fd)(B:List UInt8)(a:Nat)(e:Int)(h:e≠0):Us k s B a e=(s,a,e):=by
 cases k with
 |zero=>rfl
 |succ k=>exact if_pos h
theorem NJ[Syms]{N nx K:Nat}{en:Env}{H:Heap}{B:List UInt8}{a n i:Nat}{e i1:Int}{fs:List Fd}{rows:List (List AVal)}{len:Nat}(hn:QJ 0 nx [0,K]=true)(h4:en.get 4= .ptr 0 0 0)(h5:en.get 5= .int .i64 n)(h6:en.get 6= .slice K 0 len 4 none)(h7:en.get 7= .int .i64 i1)(hi:i1=i)(H0:H.get 0=rrB B a e)(HK:H.get K=some (.cells rows false))(hr:rows=fs.map encF)(hl:len=fs.length):Reb 0 N ⟨en,H,nx⟩ (qrS B a e n i fs):=by
 subst hr hl hi
 exact Q0 [0,K] hn ⟨by rw[h4];exact .refl _,by rw[h5];exact .refl _,by rw[h6];exact Q8 rfl,by rw[h7];exact .refl _,trivial⟩ ⟨⟨show 0<2 by decide,_,H0,.refl _⟩,⟨show 1<2 by decide,_,HK,Qa (fF _)⟩,trivial⟩
theorem Ra[Syms]{N nx:Nat}{en:Env}{H:Heap}{B:List UInt8}{a:Nat}{e x:Int}{fs:List Fd}(h4:en.get 4= .ptr 0 0 0)(h6:en.get 6= .slice 1 0 fs.length 4 none)(h9:en.get 9= .int .i64 x)(H0:H.get 0=rrB B a e)(H1:H.get 1=some (.cells (fs.map encF) false))(hn:QJ 0 nx [0]=true):
 Reb 0 N ⟨en,H,nx⟩ ⟨[(6,vF fs),(9,.int .i64 x)],[],0⟩:=
 (Xy (enc:=encF) default (l:=fs) [(9,.int .i64 x)] [] h6 H1 (fF fs) (List.take_of_length_le (by simp)) (by simp) (by simpa using h9) (fun n b h=>by rw[Heap.get_nil]at h;cases h)).trans (Q1 [6,9] rfl)
theorem NI[Syms]{N nx:Nat}{en:Env}{H:Heap}{x:Int}(h6:en.get 6= .nils)(h9:en.get 9= .int .i64 x):
 Reb 0 N ⟨en,H,nx⟩ ⟨[(6,vF []),(9,.int .i64 x)],[],0⟩:=by
 refine(Xm (k:=6) (y:=vF []) fun ι v hv=>.vt _ _ _ _ (RelV.isZ (sz:=4) (by rw[h6];rfl) hv)).trans ?_
 refine(Wt (e3:=[(6,vF []),(9,.int .i64 x)]) (H3:=[]) (fun j=>?_) (fun n b h=>by rw[Heap.get_nil]at h;cases h)).trans (Q1 [6,9] rfl)
 rw[Env.get_cons,Env.get_cons,Env.get_cons]
 by_cases h:j=6
 ·subst h;exact .inr rfl
 ·rw[QP h]
  by_cases h:j=9
  ·subst h;exact .inr h9
  ·rw[QP h];exact .inl (Env.get_nil j)
def OC(fs:List Fd)(x:Int):List Fd×Int:=
 let e:=if x=0 then Z1 fs else x
 if e≠0 then([],e)else(fs,0)
theorem OB{fs:List Fd}{x:Int}(h:x≠0):OC fs x=([],x):=by unfold OC;simp[h]
theorem Tv{fs:List Fd}:OC fs 0=if Z1 fs≠0 then([],Z1 fs)else(fs,0):=rfl
theorem Sy(fs:List Fd){p1 p2 p3:Nat}(t:List UInt8){s:List UInt8}{x1 x2:Int}(hw1:x1=(p1:Nat))(hw2:x2=(p2:Nat))(hs:s=t):List.take fs.length (List.drop 0 (fs.map encF))++[[.str s,.int .i64 x1,.int .i64 x2,.int .i64 (p3:Nat)]]=(fs++[(⟨t,p1,p2,p3⟩:Fd)]).map encF:=by
 subst hw1 hw2 hs
 rw[List.drop_zero,List.take_of_length_le (by simp),List.map_append];rfl
theorem SV[Syms](B:List UInt8)(hB:B.length≤1000000)(A:AVal)(hA:A= .tup [vF (KR B).1,.int .i64 (KR B).2]):
 fnT Q7 cPr (Qx fns) (Qo tys) plPr 100 32 [vB B] [] 0 (fun v H _=>v=A∧H=[]):=by
 repeat' first|refine And.intro ?_ ?_|(intro h;try first|exact dz|replace h:=cv)
 all_goals try exact cz
 refine⟨[],[vB B],[],by exact rfl,⟨.refl _,trivial⟩,trivial,B,rfl,rfl,rfl,hB,?_⟩
 obtain⟨⟨n,a0,e0⟩,g0⟩:∃g,X5 40 4 B 0 0=g:=⟨_,rfl⟩
 have l0:a0≤B.length:=by have:=(Yk (most:=40) (w:=4) (by decide) B 0 0 (Nat.zero_le _)).1;rwa [g0]at this
 have n0:n≤40:=by have:=Wv 40 4 B 0 0;rwa [g0]at this
 have hq:allFP B 0 0=Us n [] B a0 e0:=Qb g0
 unfold KR at hA
 rw[hq]at hA
 repeat' first|refine And.intro ?_ ?_|(intro h;try first|exact dz|replace h:=cv)
 all_goals try exact cz
 refine⟨[0],[.ptr 0 0 0,.int .i64 ((40:Nat):Int),.int .i64 4],[(0,rrB B 0 0)],by exact rfl,⟨.refl _,.refl _,.refl _,trivial⟩,⟨⟨by decide,_,rfl,.refl _⟩,trivial⟩,B,0,0,40,4,n,a0,e0,rfl,rfl,rfl,⟨hB,Nat.zero_le _,by decide,by decide⟩,g0,?_⟩
 repeat' first|refine And.intro ?_ ?_|(intro h;try first|exact dz|replace h:=cv)
 all_goals try exact cz
 refine⟨fun m s=>∃(i a:Nat) (e:Int) (fs:List Fd),(i≤n∧m=n-i∧fs.length=i∧a≤B.length∧Wh fs∧Us (n-i) fs B a e=Us n [] B a0 e0)∧(s=qrS B a e n i fs∧0<i∨s=qrN B a e n 0∧i=0∧fs=[]),⟨_,qrN B a0 e0 n 0,Q0 [0] (by first|rfl|kernel_rfl) ⟨.refl _,.refl _,.refl _,.refl _,trivial⟩ ⟨⟨by decide,_,rfl,.refl _⟩,trivial⟩,0,a0,e0,[],⟨by omega,rfl,rfl,l0,(fun f hf=>nomatch hf),rfl⟩,.inr ⟨rfl,rfl,rfl⟩⟩,?_⟩
 rintro m s ⟨i,a,e,fs,⟨hi,rfl,hfl,hal,hfo,hfr⟩,hs⟩
 by_cases h1:i<n∧e=0
 ·obtain⟨h1,rfl⟩:=h1
  have hst:n-i=n-(i+1)+1:=by omega
  obtain⟨⟨p1,b1,f1⟩,q1⟩:∃g,XB 1 B a 0=g:=⟨_,rfl⟩
  have m1:b1≤B.length:=by have:=(V6 1 B a 0 hal).1;rwa [q1]at this
  have u1:p1<256:=by have:=Wx 1 B a 0;rwa [q1]at this
  obtain⟨⟨p2,b2,f2⟩,q2⟩:∃g,XB 1 B b1 f1=g:=⟨_,rfl⟩
  have m2:b2≤B.length:=by have:=(V6 1 B b1 f1 m1).1;rwa [q2]at this
  have u2:p2<256:=by have:=Wx 1 B b1 f1;rwa [q2]at this
  obtain⟨⟨p3,b3,f3⟩,q3⟩:∃g,X5 40 14 B b2 f2=g:=⟨_,rfl⟩
  have m3:b3≤B.length:=by have:=(Yk (most:=40) (w:=14) (by decide) B b2 f2 m2).1;rwa [q3]at this
  have u3:p3≤40:=by have:=Wv 40 14 B b2 f2;rwa [q3]at this
  obtain⟨⟨p4,b4,f4⟩,q4⟩:∃g,X5 12 5 B b3 f3=g:=⟨_,rfl⟩
  have m4:b4≤B.length:=by have:=(Yk (most:=12) (w:=5) (by decide) B b3 f3 m3).1;rwa [q4]at this
  have u4:p4≤12:=by have:=Wv 12 5 B b3 f3;rwa [q4]at this
  obtain⟨⟨p5,b5,f5⟩,q5⟩:∃g,ZN p4 B b4 f4=g:=⟨_,rfl⟩
  have m5:b5≤B.length:=by have:=(KI p4 B b4 f4 m4).1;rwa [q5]at this
  have hw1:wr .i64 ((p1:Nat):Int)=(p1:Nat):=wrI (by omega)
  have hw2:wr .i64 ((p2:Nat):Int)=(p2:Nat):=wrI (by omega)
  have hpg:fldP B a 0=(⟨p5,p1,p2,p3⟩,b5,f5):=(Qb q1).trans ((Qb q2).trans ((Qb q3).trans ((Qb q4).trans ((Qb q5).trans rfl))))
  have hfs:Us (n-i) fs B a 0=Us (n-(i+1)) (fs++[⟨p5,p1,p2,p3⟩]) B b5 f5:=by
   rw[hst]
   exact(VE fs (Zl fldP fun p=>Us (n-(i+1)) (fs++[p])) B a).trans (Qb hpg)
  have hfo2:=hfo.snocP hpg
  rcases hs with⟨rfl,hi0⟩|⟨rfl,rfl,rfl⟩
  · repeat' first|refine And.intro ?_ ?_|(intro h;try first|exact dz|replace h:=cv)
    all_goals try exact cz
    refine⟨[0],[.ptr 0 0 0,.int .i64 ((1:Nat):Int)],[(0,rrB B a 0)],by exact rfl,⟨.refl _,.refl _,trivial⟩,⟨⟨by decide,_,rfl,.refl _⟩,trivial⟩,B,a,0,1,p1,b1,f1,rfl,rfl,rfl,⟨hB,hal,by decide⟩,q1,?_⟩
    repeat' first|refine And.intro ?_ ?_|(intro h;try first|exact dz|replace h:=cv)
    all_goals try exact cz
    refine⟨[0],[.ptr 0 0 0,.int .i64 ((1:Nat):Int)],[(0,rrB B b1 f1)],by first|rfl|kernel_rfl,⟨.refl _,.refl _,trivial⟩,⟨⟨by decide,_,rfl,.refl _⟩,trivial⟩,B,b1,f1,1,p2,b2,f2,rfl,rfl,rfl,⟨hB,m1,by decide⟩,q2,?_⟩
    repeat' first|refine And.intro ?_ ?_|(intro h;try first|exact dz|replace h:=cv)
    all_goals try exact cz
    refine⟨[0],[.ptr 0 0 0,.int .i64 ((40:Nat):Int),.int .i64 14],[(0,rrB B b2 f2)],by first|rfl|kernel_rfl,⟨.refl _,.refl _,.refl _,trivial⟩,⟨⟨by decide,_,rfl,.refl _⟩,trivial⟩,B,b2,f2,40,14,p3,b3,f3,rfl,rfl,rfl,⟨hB,m2,by decide,by decide⟩,q3,?_⟩
    repeat' first|refine And.intro ?_ ?_|(intro h;try first|exact dz|replace h:=cv)
    all_goals try exact cz
    refine⟨[0],[.ptr 0 0 0,.int .i64 ((12:Nat):Int),.int .i64 5],[(0,rrB B b3 f3)],by first|rfl|kernel_rfl,⟨.refl _,.refl _,.refl _,trivial⟩,⟨⟨by decide,_,rfl,.refl _⟩,trivial⟩,B,b3,f3,12,5,p4,b4,f4,rfl,rfl,rfl,⟨hB,m3,by decide,by decide⟩,q4,?_⟩
    repeat' first|refine And.intro ?_ ?_|(intro h;try first|exact dz|replace h:=cv)
    all_goals try exact cz
    refine⟨[0],[.ptr 0 0 0,.int .i64 (p4:Nat)],[(0,rrB B b4 f4)],by first|rfl|kernel_rfl,⟨.refl _,.refl _,trivial⟩,⟨⟨by decide,_,rfl,.refl _⟩,trivial⟩,B,b4,f4,p4,p5,b5,f5,rfl,rfl,rfl,⟨hB,m4,by omega⟩,q5,?_⟩
    have hlen:fs.length≤1000000:=by omega
    repeat' first|refine And.intro ?_ ?_|(intro h;try first|exact dz|replace h:=cv)
    all_goals try exact cz
    --HERE1
    ·exact(Vs p5).1
    refine⟨_,qrS B b5 f5 n (i+1) (fs++[⟨p5,p1,p2,p3⟩]),?_,⟨i+1,b5,f5,fs++[⟨p5,p1,p2,p3⟩],⟨by omega,rfl,by simp<;>omega,m5,hfo2,by rw[←hfs];exact hfr⟩,.inl ⟨rfl,by omega⟩⟩,by omega⟩
    first|exact NJ (K:=13) (by first|rfl|kernel_rfl) rfl rfl rfl rfl (by omega) rfl rfl (Sy fs p5 hw1 hw2 (Vs p5).2) (by simp)
  · repeat' first|refine And.intro ?_ ?_|(intro h;try first|exact dz|replace h:=cv)
    all_goals try exact cz
    refine⟨[0],[.ptr 0 0 0,.int .i64 ((1:Nat):Int)],[(0,rrB B a 0)],by exact rfl,⟨.refl _,.refl _,trivial⟩,⟨⟨by decide,_,rfl,.refl _⟩,trivial⟩,B,a,0,1,p1,b1,f1,rfl,rfl,rfl,⟨hB,hal,by decide⟩,q1,?_⟩
    repeat' first|refine And.intro ?_ ?_|(intro h;try first|exact dz|replace h:=cv)
    all_goals try exact cz
    refine⟨[0],[.ptr 0 0 0,.int .i64 ((1:Nat):Int)],[(0,rrB B b1 f1)],by first|rfl|kernel_rfl,⟨.refl _,.refl _,trivial⟩,⟨⟨by decide,_,rfl,.refl _⟩,trivial⟩,B,b1,f1,1,p2,b2,f2,rfl,rfl,rfl,⟨hB,m1,by decide⟩,q2,?_⟩
    repeat' first|refine And.intro ?_ ?_|(intro h;try first|exact dz|replace h:=cv)
    all_goals try exact cz
    refine⟨[0],[.ptr 0 0 0,.int .i64 ((40:Nat):Int),.int .i64 14],[(0,rrB B b2 f2)],by first|rfl|kernel_rfl,⟨.refl _,.refl _,.refl _,trivial⟩,⟨⟨by decide,_,rfl,.refl _⟩,trivial⟩,B,b2,f2,40,14,p3,b3,f3,rfl,rfl,rfl,⟨hB,m2,by decide,by decide⟩,q3,?_⟩
    repeat' first|refine And.intro ?_ ?_|(intro h;try first|exact dz|replace h:=cv)
    all_goals try exact cz
    refine⟨[0],[.ptr 0 0 0,.int .i64 ((12:Nat):Int),.int .i64 5],[(0,rrB B b3 f3)],by first|rfl|kernel_rfl,⟨.refl _,.refl _,.refl _,trivial⟩,⟨⟨by decide,_,rfl,.refl _⟩,trivial⟩,B,b3,f3,12,5,p4,b4,f4,rfl,rfl,rfl,⟨hB,m3,by decide,by decide⟩,q4,?_⟩
    repeat' first|refine And.intro ?_ ?_|(intro h;try first|exact dz|replace h:=cv)
    all_goals try exact cz
    refine⟨[0],[.ptr 0 0 0,.int .i64 (p4:Nat)],[(0,rrB B b4 f4)],by first|rfl|kernel_rfl,⟨.refl _,.refl _,trivial⟩,⟨⟨by decide,_,rfl,.refl _⟩,trivial⟩,B,b4,f4,p4,p5,b5,f5,rfl,rfl,rfl,⟨hB,m4,by omega⟩,q5,?_⟩
    have hlen:(0:Nat)≤1000000:=by omega
    repeat' first|refine And.intro ?_ ?_|(intro h;try first|exact dz|replace h:=cv)
    all_goals try exact cz
    --HERE0
    ·exact(Vs p5).1
    refine⟨_,qrS B b5 f5 n (0+1) ([]++[⟨p5,p1,p2,p3⟩]),?_,⟨0+1,b5,f5,[]++[⟨p5,p1,p2,p3⟩],⟨by omega,rfl,by simp<;>omega,m5,hfo2,by rw[←hfs];exact hfr⟩,.inl ⟨rfl,by omega⟩⟩,by omega⟩
    first|exact NJ (K:=12) (by first|rfl|kernel_rfl) rfl rfl rfl rfl (by omega) rfl rfl (Sy [] p5 hw1 hw2 (Vs p5).2) (by simp)
 ·have hfe:Us n [] B a0 e0=(fs,a,e):=by
   rw[←hfr]
   by_cases h2:e=0
   ·have:n-i=0:=by omega
    rw[this];rfl
   ·exact LD _ _ _ _ _ h2
  rw[hfe]at hA
  replace hA:A= .tup [vF (OC fs (WW B a e)).1,.int .i64 (OC fs (WW B a e)).2]:=hA
  have hfk:=hfo.fs (by omega)
  clear hfr hfe hq
  rcases hs with⟨rfl,hi0⟩|⟨rfl,rfl,rfl⟩
  all_goals(
   repeat' first|refine And.intro ?_ ?_|(intro h;try first|exact dz|replace h:=cv)
   all_goals try exact cz
   all_goals(
    refine⟨[0],[.ptr 0 0 0],[(0,rrB B a e)],by exact rfl,⟨.refl _,trivial⟩,⟨⟨by decide,_,rfl,.refl _⟩,trivial⟩,B,a,e,rfl,rfl,rfl,⟨hB,hal⟩,?_⟩
    generalize WW B a e=x at *
    repeat' first|refine And.intro ?_ ?_|(intro h;try first|exact dz|replace h:=cv)
    all_goals try exact cz
    refine⟨_,by first|exact Ra (x:=x) (fs:=fs) rfl rfl rfl rfl rfl (by first|rfl|kernel_rfl)|exact NI (x:=x) rfl rfl,?_⟩
    by_cases hx:x=0
    ·subst hx
     repeat' first|refine And.intro ?_ ?_|(intro h;try first|exact dz|replace h:=cv)
     all_goals try exact cz
     refine⟨_,rfl,hfk,?_⟩
     rw[Lb]
     rw[Tv]at hA
     generalize Z1 _=y at *
     by_cases hy:y=0
     ·subst hy
      rw[if_neg (fun h=>h rfl)]at hA
      subst hA
      repeat' first|refine And.intro ?_ ?_|(intro h;try first|exact dz|replace h:=cv)
      all_goals try exact cz
      exact⟨_,Q1 [2,3] rfl,_,rfl,rfl,rfl⟩
     ·rw[if_pos hy]at hA
      subst hA
      repeat' first|refine And.intro ?_ ?_|(intro h;try first|exact dz|replace h:=cv)
      all_goals try exact cz
      exact WP (p:=([],y)) rfl rfl rfl rfl
    ·rw[OB hx]at hA
     subst hA
     repeat' first|refine And.intro ?_ ?_|(intro h;try first|exact dz|replace h:=cv)
     all_goals try exact cz
     exact WP (p:=([],x)) rfl rfl rfl rfl))
def S_rprs:SpecI:=fun args K=>∃b,args=[vB b]∧b.length≤1000000∧K (.tup [vF (ZD b).1,.int .i64 (ZD b).2])
theorem PU[Syms]:Zs Try.prog 32 S_rprs:=by
 rintro args K ⟨b,rfl,h,hk⟩
 exact⟨rfl,_,rfl,hk,fnI Qf Qg Q3 TZ Qw (SV b h _ (by rw[EO]))⟩
end
end Go.Proofs.Ytajieadpaeggcaa
