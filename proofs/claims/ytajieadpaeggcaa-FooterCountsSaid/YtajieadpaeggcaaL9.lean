/-
  A file's description,read. The document's. Records,groups,pages must be as many as they say together. The statement's function. The statements' arguments:numbers,bytes,values.
-/
import Derived.Test.YtajieadpaeggcaaL8
import Derived.Test.YtajieadpaeggcaaL4
import Derived.Test.YtajieadpaeggcaaL3
import Derived.Test.YtajieadpaeggcaaL5
import Derived.Test.YtajieadpaeggcaaL6
import Derived.Test.YtajieadpaeggcaaSxOne
set_option linter.unusedVariables false
set_option linter.unusedSimpArgs false
namespace Go.Proofs.Ytajieadpaeggcaa
open Go Go.Av
section
set_option maxRecDepth 100000
set_option maxHeartbeats 4000000
abbrev cPm:CallT:=Q6 29 (QD BE) (Q6 31 (QD BI) (Q6 30 (QD BH) (Q6 35 (QD BG) (Q6 32 (Xc S_rprs) (Q6 21 (Xc S_leaves) (Q6 33 (QD FN) (Q6 34 (QD Sr) (Q6 36 (Xc S_rwhole) Q7))))))))
theorem TK[Syms]:cPm.ok Try.prog:=Q4 C2 (Q4 Bn (Q4 CQ (Q4 C3 (Qk PM (Qk K4 (Q4 Dx (Q4 T2 (Qk IR Q9))))))))
noncomputable def plPm:Nat→Nat→Pl:=XG [(16,1),(16,2),(16,4),(16,13),(16,17),(16,19)] (Qz plt)
def pmS(ls:List Lf)(n i:Nat)(B:List UInt8)(a:Nat)(e:Int)(s:List Fd)(c:Int)(sl:AVal)(tl:Heap):St:=⟨[(2,.ptr 1 0 0),(4,.ptr 0 0 0),(8,.ptr 2 0 0),(9,vL ls),(10,.int .i64 n),(11,.int .i64 i)],(0,rrB B a e)::(1,some (.cells [QE .nils 0 .nils] false))::(2,some (.cells [QE (vF s) c sl] false))::tl,4⟩
def pmB(ls:List Lf)(n i:Nat)(B:List UInt8)(a:Nat)(e:Int)(s:List Fd)(c:Int)(sl:AVal)(tl:Heap):St:=⟨[(2,.ptr 1 0 0),(4,.ptr 0 0 0),(8,.ptr 2 0 0),(9,vL ls),(10,.int .i64 n),(11,.int .i64 i),(57,.bool true)],(0,rrB B a e)::(1,some (.cells [QE .nils 0 .nils] false))::(2,some (.cells [QE (vF s) c sl] false))::tl,4⟩
def pmI(ls:List Lf)(n i:Nat)(B:List UInt8)(a:Nat)(e:Int)(s:List Fd)(c:Int)(sl:AVal)(nn:Int)(j:Nat)(sl2:AVal)(tl:Heap):St:=⟨[(2,.ptr 1 0 0),(4,.ptr 0 0 0),(8,.ptr 2 0 0),(9,vL ls),(10,.int .i64 n),(11,.int .i64 i),(12,.ptr 4 0 0),(13,.int .i64 j)],(0,rrB B a e)::(1,some (.cells [QE .nils 0 .nils] false))::(2,some (.cells [QE (vF s) c sl] false))::(4,some (.cells [Zs nn sl2] false))::tl,6⟩
def pmJ(ls:List Lf)(n i:Nat)(B:List UInt8)(a:Nat)(e:Int)(s:List Fd)(c:Int)(sl:AVal)(nn:Int)(j:Nat)(sl2:AVal)(tl:Heap):St:=⟨[(2,.ptr 1 0 0),(4,.ptr 0 0 0),(8,.ptr 2 0 0),(9,vL ls),(10,.int .i64 n),(11,.int .i64 i),(12,.ptr 4 0 0),(13,.int .i64 j),(73,.bool true)],(0,rrB B a e)::(1,some (.cells [QE .nils 0 .nils] false))::(2,some (.cells [QE (vF s) c sl] false))::(4,some (.cells [Zs nn sl2] false))::tl,6⟩
def pmG(ls:List Lf)(n i:Nat)(B:List UInt8)(a:Nat)(e:Int)(s:List Fd)(c:Int)(sl:AVal)(nn:Int)(cs:List Ck)(tl:Heap):St:=⟨[(2,.ptr 1 0 0),(4,.ptr 0 0 0),(8,.ptr 2 0 0),(9,vL ls),(10,.int .i64 n),(11,.int .i64 i),(12,.ptr 4 0 0),(73,.bool false)],(0,rrB B a e)::(1,some (.cells [QE .nils 0 .nils] false))::(2,some (.cells [QE (vF s) c sl] false))::(4,some (.cells [encR ⟨nn,cs⟩] false))::tl,6⟩
def pmZ(ls:List Lf)(B:List UInt8)(a:Nat)(e:Int)(m:Mt):St:=⟨[(2,.ptr 1 0 0),(4,.ptr 0 0 0),(8,.ptr 2 0 0),(9,vL ls),(57,.bool false)],[(0,rrB B a e),(1,some (.cells [QE .nils 0 .nils] false)),(2,some (.cells [QT m] false))],4⟩
theorem Jg{ls:List Lf}{i:Nat}(hi:i<ls.length){B:List UInt8}{a a':Nat}{e':Int}{s:List Ck}{p:Ck}(h:VU (ls.getD i default).kind B a 0=(p,a',e')):Y4 ((Q5 ls).drop i) s B a 0=Y4 ((Q5 ls).drop (i+1)) (s++[p]) B a' e':=by
 have:(Q5 ls).drop i=(ls.getD i default).kind::(Q5 ls).drop (i+1):=by
  rw[List.drop_eq_getElem_cons (by simpa using hi)]
  simp[hi]
 rw[this]
 exact(VA s (Zi (VU (ls.getD i default).kind) fun c=>Y4 ((Q5 ls).drop (i+1)) (s++[c])) B a).trans (Qa h)
theorem Jf(k:List Int)(s:List Ck)(B:List UInt8)(a:Nat)(e:Int)(h:e≠0):Y4 k s B a e=(s,a,e):=by
 cases k with
 |nil=>rfl
 |cons k ks=>exact if_pos h
theorem Bg(ks:List Int)(k:Nat)(s:List Rw)(B:List UInt8)(a:Nat)(e:Int)(h:e≠0):Xv ks k s B a e=(s,a,e):=by
 cases k with
 |zero=>rfl
 |succ k=>exact if_pos h
theorem VS[Syms]{Post:AVal→Heap→Nat→Prop}{N nx:Nat}{x:Int}{e:Env}{H:Heap}{row:List AVal}{m:Mt}{p:Mt×Int}{rs:List ResultVar}(h2:e.get 2= .ptr 1 0 0)(h3:e.get 3= .int .i64 x)(H1:H.get 1=some (.cells [row] false))(hrow:Ww row (QT m))(hn:QG 0 nx [0,1]=true)(hp:p=(m,x))
 (hrs:Zc (Qn tys) ⟨[(2,.ptr 1 0 0),(3,.int .i64 x)],[(1,some (.cells [QT m] false))],2⟩ rs=some (.tup [.agg (QT m),.int .i64 x])) (hP:Post (.tup [.agg (QT p.1),.int .i64 p.2]) [] 2):
 ∃s3,Reb 0 N ⟨e,H,nx⟩ s3∧ ∃v,Zc (Qn tys) s3 rs=some v∧Vt Post v s3.heap s3.nx:=by
 subst hp
 exact⟨⟨[(2,.ptr 1 0 0),(3,.int .i64 x)],[(1,some (.cells [QT m] false))],2⟩,Q0 [0,1] hn ⟨by rw[h2];exact .refl _,by rw[h3];exact .refl _,trivial⟩ ⟨⟨Nat.lt_succ_self _,_,H1,QM hrow (eM m)⟩,trivial⟩,_,hrs,[],fun n b h=>(by rw[Heap.get_nil]at h;cases h),hP⟩
theorem SV[Syms]{N nx:Nat}{en:Env}{H:Heap}{ls:List Lf}{n i:Nat}{B:List UInt8}{a:Nat}{e:Int}{s:List Fd}{c nn:Int}{cs:List Ck}{b:Bool}(hp:0<cs.length)(hn:QG 0 nx [0,1,2,3,4,5]=true)(h2:en.get 2= .ptr 1 0 0)(h4:en.get 4= .ptr 0 0 0)(h8:en.get 8= .ptr 2 0 0)(h9:en.get 9=vL ls)(h10:en.get 10= .int .i64 n)(h11:en.get 11= .int .i64 i)(h12:en.get 12= .ptr 4 0 0)(h73:en.get 73= .bool b)(hb:b=false)
 (H0:H.get 0=rrB B a e) (H1:H.get 1=some (.cells [QE .nils 0 .nils] false)) (H2:H.get 2=some (.cells [QE (vF s) c .nils] false)) (H4:H.get 4=some (.cells [Zs nn (.slice 5 0 cs.length 11 none)] false)) (H5:H.get 5=some (.cells (cs.map encC) false)):Reb 0 N ⟨en,H,nx⟩ (pmG ls n i B a e s c .nils nn cs []):=by
 subst hb
 have hcut:((cs.map encC).drop 0).take cs.length=cs.map encC:=by rw[List.drop_zero,List.take_of_length_le (by simp)]
 have hs:FzV 5 (cs.map encC) (.slice 5 0 cs.length 11 none) (.vs 11 (cs.map encC)):=by
  have:=FzV.sl (n:=5) (rows:=cs.map encC) 0 cs.length 11 none hp (by simp)
  rwa [hcut]at this
 refine(Q0 (e3:=[(2,.ptr 1 0 0),(4,.ptr 0 0 0),(8,.ptr 2 0 0),(9,vL ls),(10,.int .i64 n),(11,.int .i64 i),(12,.ptr 4 0 0),(73,.bool false)]) (H3:=[(0,rrB B a e),(1,some (.cells [QE .nils 0 .nils] false)),(2,some (.cells [QE (vF s) c .nils] false)),(4,some (.cells [Zs nn (.slice 5 0 cs.length 11 none)] false)),(5,some (.cells (cs.map encC) false))]) [0,1,2,3,4,5] hn ⟨by rw[h2];exact .refl _,by rw[h4];exact .refl _,by rw[h8];exact .refl _,by rw[h9];exact .refl _,by rw[h10];exact .refl _,by rw[h11];exact .refl _,by rw[h12];exact .refl _,by rw[h73];exact .refl _,trivial⟩
  ⟨⟨by decide,_,H0,.refl _⟩,⟨by decide,_,H1,.refl _⟩,⟨by decide,_,H2,.refl _⟩,⟨by decide,_,H4,.refl _⟩,⟨by decide,_,H5,Qb (fC _)⟩,trivial⟩).trans ?_
 refine QV (n:=5) rfl (fC cs) ⟨.same _,.same _,.same _,.same _,.same _,.same _,.same _,.same _,trivial⟩
  ⟨⟨by decide,_,rfl,.same _⟩,⟨by decide,_,rfl,.same _⟩,⟨by decide,_,rfl,.same _⟩,⟨by decide,_,rfl,.cells [Zs nn (.slice 5 0 cs.length 11 none)] [encR ⟨nn,cs⟩] false rfl (fun j r r' h h'=>?_)⟩,trivial⟩
 cases j with
 |zero=>
  cases h;cases h'
  exact⟨.same _,hs,trivial⟩
 |succ j=>simp at h
theorem SU[Syms]{N nx:Nat}{en:Env}{H:Heap}{ls:List Lf}{n i:Nat}{B:List UInt8}{a:Nat}{e:Int}{s:List Fd}{c nn:Int}{cs:List Ck}{gs:List Rw}{b:Bool}(hp:0<cs.length)(hn:QG 0 nx [0,1,2,3,4,5]=true)(h2:en.get 2= .ptr 1 0 0)(h4:en.get 4= .ptr 0 0 0)(h8:en.get 8= .ptr 2 0 0)(h9:en.get 9=vL ls)(h10:en.get 10= .int .i64 n)(h11:en.get 11= .int .i64 i)(h12:en.get 12= .ptr 4 0 0)(h73:en.get 73= .bool b)(hb:b=false)
 (H0:H.get 0=rrB B a e) (H1:H.get 1=some (.cells [QE .nils 0 .nils] false)) (H2:H.get 2=some (.cells [QE (vF s) c (.slice 3 0 gs.length 2 none)] false)) (H4:H.get 4=some (.cells [Zs nn (.slice 5 0 cs.length 11 none)] false)) (H5:H.get 5=some (.cells (cs.map encC) false)) (H3:H.get 3=some (.cells (gs.map encR) false)):Reb 0 N ⟨en,H,nx⟩ (pmG ls n i B a e s c (.slice 3 0 gs.length 2 none) nn cs [(3,some (.cells (gs.map encR) false))]):=by
 subst hb
 have hcut:((cs.map encC).drop 0).take cs.length=cs.map encC:=by rw[List.drop_zero,List.take_of_length_le (by simp)]
 have hs:FzV 5 (cs.map encC) (.slice 5 0 cs.length 11 none) (.vs 11 (cs.map encC)):=by
  have:=FzV.sl (n:=5) (rows:=cs.map encC) 0 cs.length 11 none hp (by simp)
  rwa [hcut]at this
 refine(Q0 (e3:=[(2,.ptr 1 0 0),(4,.ptr 0 0 0),(8,.ptr 2 0 0),(9,vL ls),(10,.int .i64 n),(11,.int .i64 i),(12,.ptr 4 0 0),(73,.bool false)]) (H3:=[(0,rrB B a e),(1,some (.cells [QE .nils 0 .nils] false)),(2,some (.cells [QE (vF s) c (.slice 3 0 gs.length 2 none)] false)),(4,some (.cells [Zs nn (.slice 5 0 cs.length 11 none)] false)),(3,some (.cells (gs.map encR) false)),(5,some (.cells (cs.map encC) false))]) [0,1,2,3,4,5] hn ⟨by rw[h2];exact .refl _,by rw[h4];exact .refl _,by rw[h8];exact .refl _,by rw[h9];exact .refl _,by rw[h10];exact .refl _,by rw[h11];exact .refl _,by rw[h12];exact .refl _,by rw[h73];exact .refl _,trivial⟩
  ⟨⟨by decide,_,H0,.refl _⟩,⟨by decide,_,H1,.refl _⟩,⟨by decide,_,H2,.refl _⟩,⟨by decide,_,H4,.refl _⟩,⟨by decide,_,H3,Qb (fR _)⟩,⟨by decide,_,H5,Qb (fC _)⟩,trivial⟩).trans ?_
 refine QV (n:=5) rfl (fC cs) ⟨.same _,.same _,.same _,.same _,.same _,.same _,.same _,.same _,trivial⟩
  ⟨⟨by decide,_,rfl,.same _⟩,⟨by decide,_,rfl,.same _⟩,⟨by decide,_,rfl,.same _⟩,⟨by decide,_,rfl,.cells [Zs nn (.slice 5 0 cs.length 11 none)] [encR ⟨nn,cs⟩] false rfl (fun j r r' h h'=>?_)⟩,⟨by decide,_,rfl,.same _⟩,trivial⟩
 cases j with
 |zero=>
  cases h;cases h'
  exact⟨.same _,hs,trivial⟩
 |succ j=>simp at h
theorem Q06[Syms]{N nx:Nat}{en:Env}{H:Heap}{ls:List Lf}{B:List UInt8}{a:Nat}{e:Int}{s:List Fd}{c:Int}{gs:List Rw}{b:Bool}(hp:0<gs.length)(hn:QG 0 nx [0,1,2,3]=true)(h2:en.get 2= .ptr 1 0 0)(h4:en.get 4= .ptr 0 0 0)(h8:en.get 8= .ptr 2 0 0)(h9:en.get 9=vL ls)(h57:en.get 57= .bool b)(hb:b=false)
 (H0:H.get 0=rrB B a e) (H1:H.get 1=some (.cells [QE .nils 0 .nils] false)) (H2:H.get 2=some (.cells [QE (vF s) c (.slice 3 0 gs.length 2 none)] false)) (H3:H.get 3=some (.cells (gs.map encR) false)):Reb 0 N ⟨en,H,nx⟩ (pmZ ls B a e ⟨s,c,gs⟩):=by
 subst hb
 have hcut:((gs.map encR).drop 0).take gs.length=gs.map encR:=by rw[List.drop_zero,List.take_of_length_le (by simp)]
 have hs:FzV 3 (gs.map encR) (.slice 3 0 gs.length 2 none) (.vs 2 (gs.map encR)):=by
  have:=FzV.sl (n:=3) (rows:=gs.map encR) 0 gs.length 2 none hp (by simp)
  rwa [hcut]at this
 refine(Q0 (e3:=[(2,.ptr 1 0 0),(4,.ptr 0 0 0),(8,.ptr 2 0 0),(9,vL ls),(57,.bool false)]) (H3:=[(0,rrB B a e),(1,some (.cells [QE .nils 0 .nils] false)),(2,some (.cells [QE (.vs 4 (s.map encF)) c (.slice 3 0 gs.length 2 none)] false)),(3,some (.cells (gs.map encR) false))]) [0,1,2,3] hn ⟨by rw[h2];exact .refl _,by rw[h4];exact .refl _,by rw[h8];exact .refl _,by rw[h9];exact .refl _,by rw[h57];exact .refl _,trivial⟩
  ⟨⟨by decide,_,H0,.refl _⟩,⟨by decide,_,H1,.refl _⟩,⟨by decide,_,H2,QB (row':=QE (vF s) c (.slice 3 0 gs.length 2 none)) (row:=QE (.vs 4 (s.map encF)) c (.slice 3 0 gs.length 2 none)) ⟨.un rfl,.refl _,.refl _,trivial⟩⟩,⟨by decide,_,H3,Qb (fR _)⟩,trivial⟩).trans ?_
 refine QV (n:=3) rfl (fR gs) ⟨.same _,.same _,.same _,.same _,.same _,trivial⟩
  ⟨⟨by decide,_,rfl,.same _⟩,⟨by decide,_,rfl,.same _⟩,⟨by decide,_,rfl,.cells [QE (.vs 4 (s.map encF)) c (.slice 3 0 gs.length 2 none)] [QT ⟨s,c,gs⟩] false rfl (fun j r r' h h'=>?_)⟩,trivial⟩
 cases j with
 |zero=>
  cases h;cases h'
  exact⟨.same _,.same _,hs,trivial⟩
 |succ j=>simp at h
theorem NF[Syms]{N nx:Nat}{en:Env}{H:Heap}{ls:List Lf}{n i:Nat}{B:List UInt8}{a:Nat}{e i1:Int}{s:List Fd}{c:Int}(hn:QG 0 nx [0,1,2,3]=true)(h2:en.get 2= .ptr 1 0 0)(h4:en.get 4= .ptr 0 0 0)(h8:en.get 8= .ptr 2 0 0)(h9:en.get 9=vL ls)(h10:en.get 10= .int .i64 n)(h11:en.get 11= .int .i64 i1)(hi:i1=i)
 (H0:H.get 0=rrB B a e) (H1:H.get 1=some (.cells [QE .nils 0 .nils] false)) (H2:H.get 2=some (.cells [QE (vF s) c .nils] false)):Reb 0 N ⟨en,H,nx⟩ (pmS ls n i B a e s c .nils []):=by
 subst hi
 exact Q0 [0,1,2,3] hn ⟨by rw[h2];exact .refl _,by rw[h4];exact .refl _,by rw[h8];exact .refl _,by rw[h9];exact .refl _,by rw[h10];exact .refl _,by rw[h11];exact .refl _,trivial⟩
  ⟨⟨show 0<4 by decide,_,H0,.refl _⟩,⟨show 1<4 by decide,_,H1,.refl _⟩,⟨show 2<4 by decide,_,H2,.refl _⟩,trivial⟩
theorem Df[Syms]{N nx G F:Nat}{en:Env}{H:Heap}{ls:List Lf}{n i j:Nat}{B:List UInt8}{a:Nat}{e j1 nn:Int}{s:List Fd}{c:Int}(hn:QG 0 nx [0,1,2,3,G,F]=true)(h2:en.get 2= .ptr 1 0 0)(h4:en.get 4= .ptr 0 0 0)(h8:en.get 8= .ptr 2 0 0)(h9:en.get 9=vL ls)(h10:en.get 10= .int .i64 n)(h11:en.get 11= .int .i64 i)(h12:en.get 12= .ptr G 0 0)(h13:en.get 13= .int .i64 j1)(hj:j1=j)
 (H0:H.get 0=rrB B a e) (H1:H.get 1=some (.cells [QE .nils 0 .nils] false)) (H2:H.get 2=some (.cells [QE (vF s) c .nils] false)) (H4:H.get G=some (.cells [Zs nn .nils] false)):Reb 0 N ⟨en,H,nx⟩ (pmI ls n i B a e s c .nils nn j .nils []):=by
 subst hj
 exact Q0 [0,1,2,3,G,F] hn ⟨by rw[h2];exact .refl _,by rw[h4];exact .refl _,by rw[h8];exact .refl _,by rw[h9];exact .refl _,by rw[h10];exact .refl _,by rw[h11];exact .refl _,by rw[h12];exact .refl _,by rw[h13];exact .refl _,trivial⟩
  ⟨⟨show 0<6 by decide,_,H0,.refl _⟩,⟨show 1<6 by decide,_,H1,.refl _⟩,⟨show 2<6 by decide,_,H2,.refl _⟩,⟨show 4<6 by decide,_,H4,.refl _⟩,trivial⟩
theorem XD[Syms]{N nx G K:Nat}{en:Env}{H:Heap}{ls:List Lf}{n i j:Nat}{B:List UInt8}{a:Nat}{e j1 nn:Int}{s:List Fd}{c:Int}{cs:List Ck}{rows2:List (List AVal)}{len2:Nat}(hn:QG 0 nx [0,1,2,3,G,K]=true)(h2:en.get 2= .ptr 1 0 0)(h4:en.get 4= .ptr 0 0 0)(h8:en.get 8= .ptr 2 0 0)(h9:en.get 9=vL ls)(h10:en.get 10= .int .i64 n)(h11:en.get 11= .int .i64 i)(h12:en.get 12= .ptr G 0 0)(h13:en.get 13= .int .i64 j1)(hj:j1=j)
 (H0:H.get 0=rrB B a e) (H1:H.get 1=some (.cells [QE .nils 0 .nils] false)) (H2:H.get 2=some (.cells [QE (vF s) c .nils] false)) (H4:H.get G=some (.cells [Zs nn (.slice K 0 len2 11 none)] false)) (HK:H.get K=some (.cells rows2 false)) (hr2:rows2=cs.map encC) (hl2:len2=cs.length):Reb 0 N ⟨en,H,nx⟩ (pmI ls n i B a e s c .nils nn j (.slice 5 0 cs.length 11 none) [(5,some (.cells (cs.map encC) false))]):=by
 subst hj hr2 hl2
 exact Q0 [0,1,2,3,G,K] hn ⟨by rw[h2];exact .refl _,by rw[h4];exact .refl _,by rw[h8];exact .refl _,by rw[h9];exact .refl _,by rw[h10];exact .refl _,by rw[h11];exact .refl _,by rw[h12];exact .refl _,by rw[h13];exact .refl _,trivial⟩
  ⟨⟨show 0<6 by decide,_,H0,.refl _⟩,⟨show 1<6 by decide,_,H1,.refl _⟩,⟨show 2<6 by decide,_,H2,.refl _⟩,⟨show 4<6 by decide,_,H4,.refl _⟩,⟨show 5<6 by decide,_,HK,Qb (fC _)⟩,trivial⟩
theorem Zw[Syms]{N nx K:Nat}{en:Env}{H:Heap}{ls:List Lf}{n i:Nat}{B:List UInt8}{a:Nat}{e i1:Int}{s:List Fd}{c:Int}{gs:List Rw}{rows:List (List AVal)}{len:Nat}(hn:QG 0 nx [0,1,2,K]=true)(h2:en.get 2= .ptr 1 0 0)(h4:en.get 4= .ptr 0 0 0)(h8:en.get 8= .ptr 2 0 0)(h9:en.get 9=vL ls)(h10:en.get 10= .int .i64 n)(h11:en.get 11= .int .i64 i1)(hi:i1=i)
 (H0:H.get 0=rrB B a e) (H1:H.get 1=some (.cells [QE .nils 0 .nils] false)) (H2:H.get 2=some (.cells [QE (vF s) c (.slice K 0 len 2 none)] false)) (HK:H.get K=some (.cells rows false)) (hr:rows=gs.map encR) (hl:len=gs.length):Reb 0 N ⟨en,H,nx⟩ (pmS ls n i B a e s c (.slice 3 0 gs.length 2 none) [(3,some (.cells (gs.map encR) false))]):=by
 subst hi hr hl
 exact Q0 [0,1,2,K] hn ⟨by rw[h2];exact .refl _,by rw[h4];exact .refl _,by rw[h8];exact .refl _,by rw[h9];exact .refl _,by rw[h10];exact .refl _,by rw[h11];exact .refl _,trivial⟩
  ⟨⟨show 0<4 by decide,_,H0,.refl _⟩,⟨show 1<4 by decide,_,H1,.refl _⟩,⟨show 2<4 by decide,_,H2,.refl _⟩,⟨show 3<4 by decide,_,HK,Qb (fR _)⟩,trivial⟩
theorem De[Syms]{N nx G F:Nat}{en:Env}{H:Heap}{ls:List Lf}{n i j:Nat}{B:List UInt8}{a:Nat}{e j1 nn:Int}{s:List Fd}{c:Int}{gs:List Rw}(hn:QG 0 nx [0,1,2,3,G,F]=true)(h2:en.get 2= .ptr 1 0 0)(h4:en.get 4= .ptr 0 0 0)(h8:en.get 8= .ptr 2 0 0)(h9:en.get 9=vL ls)(h10:en.get 10= .int .i64 n)(h11:en.get 11= .int .i64 i)(h12:en.get 12= .ptr G 0 0)(h13:en.get 13= .int .i64 j1)(hj:j1=j)
 (H0:H.get 0=rrB B a e) (H1:H.get 1=some (.cells [QE .nils 0 .nils] false)) (H2:H.get 2=some (.cells [QE (vF s) c (.slice 3 0 gs.length 2 none)] false)) (H4:H.get G=some (.cells [Zs nn .nils] false)) (H3:H.get 3=some (.cells (gs.map encR) false)):Reb 0 N ⟨en,H,nx⟩ (pmI ls n i B a e s c (.slice 3 0 gs.length 2 none) nn j .nils [(3,some (.cells (gs.map encR) false))]):=by
 subst hj
 exact Q0 [0,1,2,3,G,F] hn ⟨by rw[h2];exact .refl _,by rw[h4];exact .refl _,by rw[h8];exact .refl _,by rw[h9];exact .refl _,by rw[h10];exact .refl _,by rw[h11];exact .refl _,by rw[h12];exact .refl _,by rw[h13];exact .refl _,trivial⟩
  ⟨⟨show 0<6 by decide,_,H0,.refl _⟩,⟨show 1<6 by decide,_,H1,.refl _⟩,⟨show 2<6 by decide,_,H2,.refl _⟩,⟨show 4<6 by decide,_,H4,.refl _⟩,⟨show 3<6 by decide,_,H3,Qb (fR _)⟩,trivial⟩
theorem XC[Syms]{N nx G K:Nat}{en:Env}{H:Heap}{ls:List Lf}{n i j:Nat}{B:List UInt8}{a:Nat}{e j1 nn:Int}{s:List Fd}{c:Int}{gs:List Rw}{cs:List Ck}{rows2:List (List AVal)}{len2:Nat}(hn:QG 0 nx [0,1,2,3,G,K]=true)(h2:en.get 2= .ptr 1 0 0)(h4:en.get 4= .ptr 0 0 0)(h8:en.get 8= .ptr 2 0 0)(h9:en.get 9=vL ls)(h10:en.get 10= .int .i64 n)(h11:en.get 11= .int .i64 i)(h12:en.get 12= .ptr G 0 0)(h13:en.get 13= .int .i64 j1)(hj:j1=j)
 (H0:H.get 0=rrB B a e) (H1:H.get 1=some (.cells [QE .nils 0 .nils] false)) (H2:H.get 2=some (.cells [QE (vF s) c (.slice 3 0 gs.length 2 none)] false)) (H4:H.get G=some (.cells [Zs nn (.slice K 0 len2 11 none)] false)) (H3:H.get 3=some (.cells (gs.map encR) false)) (HK:H.get K=some (.cells rows2 false)) (hr2:rows2=cs.map encC) (hl2:len2=cs.length):Reb 0 N ⟨en,H,nx⟩ (pmI ls n i B a e s c (.slice 3 0 gs.length 2 none) nn j (.slice 5 0 cs.length 11 none) [(3,some (.cells (gs.map encR) false)),(5,some (.cells (cs.map encC) false))]):=by
 subst hj hr2 hl2
 exact Q0 [0,1,2,3,G,K] hn ⟨by rw[h2];exact .refl _,by rw[h4];exact .refl _,by rw[h8];exact .refl _,by rw[h9];exact .refl _,by rw[h10];exact .refl _,by rw[h11];exact .refl _,by rw[h12];exact .refl _,by rw[h13];exact .refl _,trivial⟩
  ⟨⟨show 0<6 by decide,_,H0,.refl _⟩,⟨show 1<6 by decide,_,H1,.refl _⟩,⟨show 2<6 by decide,_,H2,.refl _⟩,⟨show 4<6 by decide,_,H4,.refl _⟩,⟨show 3<6 by decide,_,H3,Qb (fR _)⟩,⟨show 5<6 by decide,_,HK,Qb (fC _)⟩,trivial⟩
theorem Q03[Syms]{Post:AVal→Heap→Nat→Prop}(B:List UInt8)(hB:B.length≤1000000)(p:Mt×Int)(hp:p=M0 B)(hP:Post (.tup [.agg (QT p.1),.int .i64 p.2]) [] 2):
 fnT Q7 cPm (Qv fns) (Qn tys) plPm 100 16 [vB B] [] 0 (Vt Post):=by
 obtain⟨⟨x,a0,e0⟩,g0⟩:∃g,X6 2000 5 B 0 0=g:=⟨_,rfl⟩
 have l0:a0≤B.length:=by have:=(Yj (most:=2000) (w:=5) (by decide) B 0 0 (Nat.zero_le _)).1;rwa [g0]at this
 have n0:x≤2000:=by have:=Ws 2000 5 B 0 0;rwa [g0]at this
 obtain⟨⟨t,a1,e1⟩,g1⟩:∃g,ZL x B a0 e0=g:=⟨_,rfl⟩
 have l1:a1≤B.length:=by have:=(KC x B a0 e0 l0).1;rwa [g1]at this
 have n1:t.length≤2000:=by
  have:=Uz x B a0 e0
  rw[g1]at this
  rcases this with h|h
  ·have h:t.length=x:=h
   omega
  ·have h:t=[]:=h
   subst h;exact Nat.zero_le _
 have hhd:hdP B 0 0=(t,a1,e1):=(Qa g0).trans g1
 unfold M0 at hp
 rw[hhd]at hp
 dsimp only at hp
 repeat' first|refine And.intro ?_ ?_|(intro h;try first|exact dz|replace h:=cv)
 all_goals try exact cz
 refine⟨[],[vB B],[],by exact rfl,⟨.refl _,trivial⟩,trivial,B,rfl,rfl,rfl,hB,?_⟩
 repeat' first|refine And.intro ?_ ?_|(intro h;try first|exact dz|replace h:=cv)
 all_goals try exact cz
 refine⟨⟨[(2,.ptr 1 0 0),(4,.ptr 0 0 0)],[(0,rrB B 0 0),(1,some (.cells [QE .nils 0 .nils] false))],2⟩,by first|exact Q0 [1,0] (by first|rfl|kernel_rfl) ⟨.refl _,.refl _,trivial⟩ ⟨⟨by decide,_,rfl,.refl _⟩,⟨by decide,_,rfl,.refl _⟩,trivial⟩|exact Q0 [2,0] (by first|rfl|kernel_rfl) ⟨.refl _,.refl _,trivial⟩ ⟨⟨by decide,_,rfl,.refl _⟩,⟨by decide,_,rfl,.refl _⟩,trivial⟩,?_⟩
 refine⟨[0],[.ptr 0 0 0,.int .i64 ((2000:Nat):Int),.int .i64 5],[(0,rrB B 0 0)],by exact rfl,⟨.refl _,.refl _,.refl _,trivial⟩,⟨⟨by decide,_,rfl,.refl _⟩,trivial⟩,B,0,0,2000,5,x,a0,e0,rfl,rfl,rfl,⟨hB,Nat.zero_le _,by decide,by decide⟩,g0,?_⟩
 repeat' first|refine And.intro ?_ ?_|(intro h;try first|exact dz|replace h:=cv)
 all_goals try exact cz
 refine⟨[0],[.ptr 0 0 0,.int .i64 (x:Nat)],[(0,rrB B a0 e0)],by exact rfl,⟨.refl _,.refl _,trivial⟩,⟨⟨by decide,_,rfl,.refl _⟩,trivial⟩,B,a0,e0,x,t,a1,e1,rfl,rfl,rfl,⟨hB,l0,by omega⟩,g1,?_⟩
 repeat' first|refine And.intro ?_ ?_|(intro h;try first|exact dz|replace h:=cv)
 all_goals try exact cz
 refine⟨⟨[(2,.ptr 1 0 0),(4,.ptr 0 0 0),(5,vB t)],[(0,rrB B a1 e1),(1,some (.cells [QE .nils 0 .nils] false))],2⟩,Q0 [0,1] (by exact rfl) ⟨.refl _,.refl _,.refl _,trivial⟩ ⟨⟨by decide,_,rfl,.refl _⟩,⟨by decide,_,rfl,.refl _⟩,trivial⟩,?_⟩
 by_cases h1:e1=0
 ·subst h1
  rw[if_neg (fun k=>k rfl)]at hp
  repeat' first|refine And.intro ?_ ?_|(intro h;try first|exact dz|replace h:=cv)
  all_goals try exact cz
  refine⟨t,rfl,by omega,?_⟩
  have hok:=K8 t
  generalize Zt t=y at *
  obtain⟨s,z⟩:=y
  dsimp only at hp hok
  by_cases hz:z=0
  ·subst hz
   rw[if_neg (fun k=>k rfl)]at hp
   have hfs:=hok.1.fs hok.2
   have hkin:QR s=Q5 (Qu s):=rfl
   have hll:(Qu s).length≤1000:=by have:(Qu s).length≤s.length:=Zu _ _ _;omega
   obtain⟨⟨c,a2,e2⟩,g2⟩:∃g,plainP B a1 0=g:=⟨_,rfl⟩
   have l2:a2≤B.length:=by have:=(Z1 B a1 0 l1).1;rwa [g2]at this
   obtain⟨⟨n,a3,e3⟩,g3⟩:∃g,X6 200 4 B a2 e2=g:=⟨_,rfl⟩
   have l3:a3≤B.length:=by have:=(Yj (most:=200) (w:=4) (by decide) B a2 e2 l2).1;rwa [g3]at this
   have n3:n≤200:=by have:=Ws 200 4 B a2 e2;rwa [g3]at this
   have htl:Mk s B a1 0=Zi (Xv (QR s) n []) (fun g=>U2 ⟨s,c,g⟩) B a3 e3:=(Qa g2).trans ((Qa g3).trans rfl)
   have hwo:=Pu hok l1
   rw[htl]at hp hwo
   have hdef:Qu s=Qu s:=rfl
   repeat' first|refine And.intro ?_ ?_|(intro h;try first|exact dz|replace h:=cv)
   all_goals try exact cz
   refine⟨s,rfl,hfs,?_⟩
   rw[hkin]at hp hwo
   generalize hls:Qu s=ls at *
   repeat' first|refine And.intro ?_ ?_|(intro h;try first|exact dz|replace h:=cv)
   all_goals try exact cz
   refine⟨[0],[.ptr 0 0 0],[(0,rrB B a1 0)],by first|rfl|kernel_rfl,⟨.refl _,trivial⟩,⟨⟨by decide,_,rfl,.refl _⟩,trivial⟩,B,a1,0,c,a2,e2,rfl,rfl,rfl,⟨hB,l1⟩,g2,?_⟩
   repeat' first|refine And.intro ?_ ?_|(intro h;try first|exact dz|replace h:=cv)
   all_goals try exact cz
   refine⟨[0],[.ptr 0 0 0,.int .i64 ((200:Nat):Int),.int .i64 4],[(0,rrB B a2 e2)],by first|rfl|kernel_rfl,⟨.refl _,.refl _,.refl _,trivial⟩,⟨⟨by decide,_,rfl,.refl _⟩,trivial⟩,B,a2,e2,200,4,n,a3,e3,rfl,rfl,rfl,⟨hB,l2,by decide,by decide⟩,g3,?_⟩
   repeat' first|refine And.intro ?_ ?_|(intro h;try first|exact dz|replace h:=cv)
   all_goals try exact cz
   refine⟨fun m st=>∃(i aq:Nat) (eq:Int) (gs:List Rw),(i≤n∧m=n-i∧gs.length=i∧aq≤B.length∧Xv (Q5 ls) (n-i) gs B aq eq=Xv (Q5 ls) n [] B a3 e3)∧(st=pmS ls n i B aq eq s c (.slice 3 0 gs.length 2 none) [(3,some (.cells (gs.map encR) false))]∧0<gs.length∨st=pmS ls n i B aq eq s c .nils []∧gs=[]),⟨_,pmS ls n 0 B a3 e3 s c .nils [],NF (by first|rfl|kernel_rfl) rfl rfl rfl rfl rfl rfl rfl rfl rfl rfl,0,a3,e3,[],⟨by omega,rfl,rfl,l3,rfl⟩,.inr ⟨rfl,rfl⟩⟩,?_⟩
   rintro m st ⟨i,aq,eq,gs,⟨hi,rfl,hgl,hql,hfr⟩,hs⟩
   by_cases h1:i<n∧eq=0
   ·obtain⟨h1,rfl⟩:=h1
    have hst:n-i=n-(i+1)+1:=by omega
    obtain⟨⟨nn,b1,f1⟩,q1⟩:∃g,plainP B aq 0=g:=⟨_,rfl⟩
    have m1:b1≤B.length:=by have:=(Z1 B aq 0 hql).1;rwa [q1]at this
    rcases hs with⟨rfl,hp0⟩|⟨rfl,rfl⟩
    · repeat' first|refine And.intro ?_ ?_|(intro h;try first|exact dz|replace h:=cv)
      all_goals try exact cz
      refine⟨pmB ls n i B aq 0 s c (.slice 3 0 gs.length 2 none) [(3,some (.cells (gs.map encR) false))],Q0 [0,1,2,3] (by exact rfl) ⟨.refl _,.refl _,.refl _,.refl _,.refl _,.refl _,ZK rfl,trivial⟩ ⟨⟨by decide,_,rfl,.refl _⟩,⟨by decide,_,rfl,.refl _⟩,⟨by decide,_,rfl,.refl _⟩,⟨by decide,_,rfl,Qb (fR _)⟩,trivial⟩,?_⟩
      repeat' first|refine And.intro ?_ ?_|(intro h;try first|exact dz|replace h:=cv)
      all_goals try exact cz
      refine⟨[0],[.ptr 0 0 0],[(0,rrB B aq 0)],by first|rfl|kernel_rfl,⟨.refl _,trivial⟩,⟨⟨by decide,_,rfl,.refl _⟩,trivial⟩,B,aq,0,nn,b1,f1,rfl,rfl,rfl,⟨hB,hql⟩,q1,?_⟩
      repeat' first|refine And.intro ?_ ?_|(intro h;try first|exact dz|replace h:=cv)
      all_goals try exact cz
      refine⟨fun m st=>∃(j ar:Nat) (er:Int) (cs:List Ck),(j≤ls.length∧m=ls.length-j∧cs.length=j∧ar≤B.length∧Y4 ((Q5 ls).drop j) cs B ar er=Y4 (Q5 ls) [] B b1 f1)∧(st=pmI ls n i B ar er s c (.slice 3 0 gs.length 2 none) nn j (.slice 5 0 cs.length 11 none) [(3,some (.cells (gs.map encR) false)),(5,some (.cells (cs.map encC) false))]∧0<cs.length∨st=pmI ls n i B ar er s c (.slice 3 0 gs.length 2 none) nn j .nils [(3,some (.cells (gs.map encR) false))]∧cs=[]),⟨_,pmI ls n i B b1 f1 s c (.slice 3 0 gs.length 2 none) nn 0 .nils [(3,some (.cells (gs.map encR) false))],by first|exact De (G:=5) (F:=4) (by first|rfl|kernel_rfl) rfl rfl rfl rfl rfl rfl rfl rfl rfl rfl rfl rfl rfl rfl|exact De (G:=6) (F:=4) (by first|rfl|kernel_rfl) rfl rfl rfl rfl rfl rfl rfl rfl rfl rfl rfl rfl rfl rfl,0,b1,f1,[],⟨by omega,rfl,rfl,m1,rfl⟩,.inr ⟨rfl,rfl⟩⟩,?_⟩
      skip
      rintro m st ⟨j,ar,er,cs,⟨hj,rfl,hcl,hrl,hfr2⟩,hs⟩
      by_cases h2:j<ls.length∧er=0
      ·obtain⟨h2,rfl⟩:=h2
       obtain⟨⟨ck,b2,f2⟩,q2⟩:∃g,VU (ls.getD j default).kind B ar 0=g:=⟨_,rfl⟩
       have m2:b2≤B.length:=by have:=(Ga (ls.getD j default).kind B ar 0 hrl).1;rwa [q2]at this
       have hcs:=Jg (s:=cs) h2 q2
       rcases hs with⟨rfl,hc0⟩|⟨rfl,rfl⟩
       · repeat' first|refine And.intro ?_ ?_|(intro h;try first|exact dz|replace h:=cv)
         all_goals try exact cz
         refine⟨pmJ ls n i B ar 0 s c (.slice 3 0 gs.length 2 none) nn j (.slice 5 0 cs.length 11 none) [(3,some (.cells (gs.map encR) false)),(5,some (.cells (cs.map encC) false))],Q0 [0,1,2,3,4,5] (by exact rfl) ⟨.refl _,.refl _,.refl _,.refl _,.refl _,.refl _,.refl _,.refl _,ZK rfl,trivial⟩ ⟨⟨by decide,_,rfl,.refl _⟩,⟨by decide,_,rfl,.refl _⟩,⟨by decide,_,rfl,.refl _⟩,⟨by decide,_,rfl,.refl _⟩,⟨by decide,_,rfl,Qb (fR _)⟩,⟨by decide,_,rfl,Qb (fC _)⟩,trivial⟩,?_⟩
         repeat' first|refine And.intro ?_ ?_|(intro h;try first|exact dz|replace h:=cv)
         all_goals try exact cz
         refine⟨pmI ls n i B b2 f2 s c (.slice 3 0 gs.length 2 none) nn j (.slice 5 0 (cs++[ck]).length 11 none) [(3,some (.cells (gs.map encR) false)),(5,some (.cells ((cs++[ck]).map encC) false))],?_,?_⟩
         · repeat' first|refine And.intro ?_ ?_|(intro h;try first|exact dz|replace h:=cv)
           all_goals try exact cz
           --DRAW
           all_goals refine⟨[0],[.ptr 0 0 0,.int .i64 (ls.getD j default).kind],[(0,rrB B ar 0)],by first|rfl|kernel_rfl,⟨.refl _,.refl _,trivial⟩,⟨⟨by decide,_,rfl,.refl _⟩,trivial⟩,_,B,ar,0,ck,b2,f2,rfl,rfl,rfl,⟨hB,hrl⟩,q2,?_⟩
           repeat' first|refine And.intro ?_ ?_|(intro h;try first|exact dz|replace h:=cv)
           all_goals try exact cz
           all_goals(refine Exists.intro () ?_;first|exact XC (G:=4) (K:=8) (by first|rfl|kernel_rfl) rfl rfl rfl rfl rfl rfl rfl rfl rfl rfl rfl rfl rfl rfl rfl (Xd _ _) (by simp)|exact XC (G:=4) (K:=9) (by first|rfl|kernel_rfl) rfl rfl rfl rfl rfl rfl rfl rfl rfl rfl rfl rfl rfl rfl rfl (Xd _ _) (by simp)|exact XC (G:=4) (K:=7) (by first|rfl|kernel_rfl) rfl rfl rfl rfl rfl rfl rfl rfl rfl rfl rfl rfl rfl rfl rfl (Xd _ _) (by simp)|exact XC (G:=4) (K:=10) (by first|rfl|kernel_rfl) rfl rfl rfl rfl rfl rfl rfl rfl rfl rfl rfl rfl rfl rfl rfl (Xd _ _) (by simp))
         · repeat' first|refine And.intro ?_ ?_|(intro h;try first|exact dz|replace h:=cv)
           all_goals try exact cz
           exact⟨_,pmI ls n i B b2 f2 s c (.slice 3 0 gs.length 2 none) nn (j+1) (.slice 5 0 (cs++[ck]).length 11 none) [(3,some (.cells (gs.map encR) false)),(5,some (.cells ((cs++[ck]).map encC) false))],XC (G:=4) (K:=5) (by first|rfl|kernel_rfl) rfl rfl rfl rfl rfl rfl rfl rfl (by omega) rfl rfl rfl rfl rfl rfl rfl rfl,⟨j+1,b2,f2,cs++[ck],⟨by omega,rfl,by simp<;>omega,m2,by rw[←hcs];exact hfr2⟩,.inl ⟨rfl,by simp⟩⟩,by omega⟩
       ·have hj0:(0:Nat)=j:=hcl
        repeat' first|refine And.intro ?_ ?_|(intro h;try first|exact dz|replace h:=cv)
        all_goals try exact cz
        refine⟨pmJ ls n i B ar 0 s c (.slice 3 0 gs.length 2 none) nn j .nils [(3,some (.cells (gs.map encR) false))],Q0 [0,1,2,3,4,5] (by exact rfl) ⟨.refl _,.refl _,.refl _,.refl _,.refl _,.refl _,.refl _,.refl _,ZK rfl,trivial⟩ ⟨⟨by decide,_,rfl,.refl _⟩,⟨by decide,_,rfl,.refl _⟩,⟨by decide,_,rfl,.refl _⟩,⟨by decide,_,rfl,.refl _⟩,⟨by decide,_,rfl,Qb (fR _)⟩,trivial⟩,?_⟩
        repeat' first|refine And.intro ?_ ?_|(intro h;try first|exact dz|replace h:=cv)
        all_goals try exact cz
        refine⟨pmI ls n i B b2 f2 s c (.slice 3 0 gs.length 2 none) nn j (.slice 5 0 (([]:List Ck)++[ck]).length 11 none) [(3,some (.cells (gs.map encR) false)),(5,some (.cells ((([]:List Ck)++[ck]).map encC) false))],?_,?_⟩
        · repeat' first|refine And.intro ?_ ?_|(intro h;try first|exact dz|replace h:=cv)
          all_goals try exact cz
          --DRAW
          all_goals refine⟨[0],[.ptr 0 0 0,.int .i64 (ls.getD j default).kind],[(0,rrB B ar 0)],by first|rfl|kernel_rfl,⟨.refl _,.refl _,trivial⟩,⟨⟨by decide,_,rfl,.refl _⟩,trivial⟩,_,B,ar,0,ck,b2,f2,rfl,rfl,rfl,⟨hB,hrl⟩,q2,?_⟩
          repeat' first|refine And.intro ?_ ?_|(intro h;try first|exact dz|replace h:=cv)
          all_goals try exact cz
          all_goals(refine Exists.intro () ?_;first|exact XC (G:=4) (K:=8) (by first|rfl|kernel_rfl) rfl rfl rfl rfl rfl rfl rfl rfl rfl rfl rfl rfl rfl rfl rfl rfl (by simp)|exact XC (G:=4) (K:=9) (by first|rfl|kernel_rfl) rfl rfl rfl rfl rfl rfl rfl rfl rfl rfl rfl rfl rfl rfl rfl rfl (by simp)|exact XC (G:=4) (K:=7) (by first|rfl|kernel_rfl) rfl rfl rfl rfl rfl rfl rfl rfl rfl rfl rfl rfl rfl rfl rfl rfl (by simp)|exact XC (G:=4) (K:=10) (by first|rfl|kernel_rfl) rfl rfl rfl rfl rfl rfl rfl rfl rfl rfl rfl rfl rfl rfl rfl rfl (by simp))
        · repeat' first|refine And.intro ?_ ?_|(intro h;try first|exact dz|replace h:=cv)
          all_goals try exact cz
          exact⟨_,pmI ls n i B b2 f2 s c (.slice 3 0 gs.length 2 none) nn (j+1) (.slice 5 0 (([]:List Ck)++[ck]).length 11 none) [(3,some (.cells (gs.map encR) false)),(5,some (.cells ((([]:List Ck)++[ck]).map encC) false))],XC (G:=4) (K:=5) (by first|rfl|kernel_rfl) rfl rfl rfl rfl rfl rfl rfl rfl (by omega) rfl rfl rfl rfl rfl rfl rfl rfl,⟨j+1,b2,f2,([]:List Ck)++[ck],⟨by omega,rfl,by simp<;>omega,m2,by rw[←hcs];exact hfr2⟩,.inl ⟨rfl,by simp⟩⟩,by omega⟩
      ·have hfe:Y4 (Q5 ls) [] B b1 f1=(cs,ar,er):=by
        rw[←hfr2]
        by_cases h3:er=0
        ·have:(Q5 ls).drop j=[]:=List.drop_of_length_le (by simp;omega)
         rw[this];rfl
        ·exact Jf _ _ _ _ _ h3
       have hgr:JY (Q5 ls) B aq 0=(⟨nn,cs⟩,ar,er):=(Qa q1).trans ((Qa hfe).trans rfl)
       have hgs:Xv (Q5 ls) (n-i) gs B aq 0=Xv (Q5 ls) (n-(i+1)) (gs++[⟨nn,cs⟩]) B ar er:=by
        rw[hst]
        exact(VA gs (Zi (JY (Q5 ls)) fun q=>Xv (Q5 ls) (n-(i+1)) (gs++[q])) B aq).trans (Qa hgr)
       have hbt:(if decide (j<ls.length)=true then decide (er=0)else false)=false:=by
        by_cases h3:j<ls.length
        ·rw[if_pos (decide_eq_true h3)];exact decide_eq_false (fun h4=>h2 ⟨h3,h4⟩)
        ·rw[if_neg (by rw[decide_eq_true_eq];exact h3)]
       rcases hs with⟨rfl,hc0⟩|⟨rfl,rfl⟩
       · repeat' first|refine And.intro ?_ ?_|(intro h;try first|exact dz|replace h:=cv)
         all_goals try exact cz
         all_goals refine⟨_,SU hc0 (by first|rfl|kernel_rfl) rfl rfl rfl rfl rfl rfl rfl rfl (by first|rfl|exact decide_eq_false (show ¬er=0 by omega)) rfl rfl rfl rfl rfl rfl,?_⟩
         all_goals(
          repeat' first|refine And.intro ?_ ?_|(intro h;try first|exact dz|replace h:=cv)
          all_goals try exact cz
          exact⟨_,pmS ls n (i+1) B ar er s c (.slice 3 0 (gs++[(⟨nn,cs⟩:Rw)]).length 2 none) [(3,some (.cells ((gs++[(⟨nn,cs⟩:Rw)]).map encR) false))],by first|exact Zw (K:=6) (by first|rfl|kernel_rfl) rfl rfl rfl rfl rfl rfl (by omega) rfl rfl rfl rfl (U1 _ _) (by simp)|exact Zw (K:=7) (by first|rfl|kernel_rfl) rfl rfl rfl rfl rfl rfl (by omega) rfl rfl rfl rfl (U1 _ _) (by simp)|exact Zw (K:=8) (by first|rfl|kernel_rfl) rfl rfl rfl rfl rfl rfl (by omega) rfl rfl rfl rfl (U1 _ _) (by simp)|exact Zw (K:=9) (by first|rfl|kernel_rfl) rfl rfl rfl rfl rfl rfl (by omega) rfl rfl rfl rfl (U1 _ _) (by simp)|exact Zw (K:=5) (by first|rfl|kernel_rfl) rfl rfl rfl rfl rfl rfl (by omega) rfl rfl rfl rfl (U1 _ _) (by simp),⟨i+1,ar,er,gs++[⟨nn,cs⟩],⟨by omega,rfl,by simp<;>omega,hrl,by rw[←hgs];exact hfr⟩,.inl ⟨rfl,by simp⟩⟩,by omega⟩)
       · repeat' first|refine And.intro ?_ ?_|(intro h;try first|exact dz|replace h:=cv)
         all_goals try exact cz
         all_goals refine⟨pmG ls n i B ar er s c (.slice 3 0 gs.length 2 none) nn [] [(3,some (.cells (gs.map encR) false))],Q0 [0,1,2,3,4,5] (by first|rfl|kernel_rfl) ⟨.refl _,.refl _,.refl _,.refl _,.refl _,.refl _,.refl _,ZK (by first|rfl|exact decide_eq_false (show ¬er=0 by omega)),trivial⟩ ⟨⟨by decide,_,rfl,.refl _⟩,⟨by decide,_,rfl,.refl _⟩,⟨by decide,_,rfl,.refl _⟩,⟨by decide,_,rfl,QB (row:=encR ⟨nn,[]⟩) ⟨.refl _,.zero _ _ rfl,trivial⟩⟩,⟨by decide,_,rfl,Qb (fR _)⟩,trivial⟩,?_⟩
         all_goals(
          repeat' first|refine And.intro ?_ ?_|(intro h;try first|exact dz|replace h:=cv)
          all_goals try exact cz
          exact⟨_,pmS ls n (i+1) B ar er s c (.slice 3 0 (gs++[(⟨nn,([]:List Ck)⟩:Rw)]).length 2 none) [(3,some (.cells ((gs++[(⟨nn,([]:List Ck)⟩:Rw)]).map encR) false))],by first|exact Zw (K:=6) (by first|rfl|kernel_rfl) rfl rfl rfl rfl rfl rfl (by omega) rfl rfl rfl rfl (U1 _ _) (by simp)|exact Zw (K:=7) (by first|rfl|kernel_rfl) rfl rfl rfl rfl rfl rfl (by omega) rfl rfl rfl rfl (U1 _ _) (by simp)|exact Zw (K:=8) (by first|rfl|kernel_rfl) rfl rfl rfl rfl rfl rfl (by omega) rfl rfl rfl rfl (U1 _ _) (by simp)|exact Zw (K:=9) (by first|rfl|kernel_rfl) rfl rfl rfl rfl rfl rfl (by omega) rfl rfl rfl rfl (U1 _ _) (by simp)|exact Zw (K:=5) (by first|rfl|kernel_rfl) rfl rfl rfl rfl rfl rfl (by omega) rfl rfl rfl rfl (U1 _ _) (by simp),⟨i+1,ar,er,gs++[⟨nn,([]:List Ck)⟩],⟨by omega,rfl,by simp<;>omega,hrl,by rw[←hgs];exact hfr⟩,.inl ⟨rfl,by simp⟩⟩,by omega⟩)
    ·have hi0:(0:Nat)=i:=hgl
     repeat' first|refine And.intro ?_ ?_|(intro h;try first|exact dz|replace h:=cv)
     all_goals try exact cz
     refine⟨pmB ls n i B aq 0 s c .nils [],Q0 [0,1,2,3] (by exact rfl) ⟨.refl _,.refl _,.refl _,.refl _,.refl _,.refl _,ZK rfl,trivial⟩ ⟨⟨by decide,_,rfl,.refl _⟩,⟨by decide,_,rfl,.refl _⟩,⟨by decide,_,rfl,.refl _⟩,trivial⟩,?_⟩
     repeat' first|refine And.intro ?_ ?_|(intro h;try first|exact dz|replace h:=cv)
     all_goals try exact cz
     refine⟨[0],[.ptr 0 0 0],[(0,rrB B aq 0)],by first|rfl|kernel_rfl,⟨.refl _,trivial⟩,⟨⟨by decide,_,rfl,.refl _⟩,trivial⟩,B,aq,0,nn,b1,f1,rfl,rfl,rfl,⟨hB,hql⟩,q1,?_⟩
     repeat' first|refine And.intro ?_ ?_|(intro h;try first|exact dz|replace h:=cv)
     all_goals try exact cz
     refine⟨fun m st=>∃(j ar:Nat) (er:Int) (cs:List Ck),(j≤ls.length∧m=ls.length-j∧cs.length=j∧ar≤B.length∧Y4 ((Q5 ls).drop j) cs B ar er=Y4 (Q5 ls) [] B b1 f1)∧(st=pmI ls n i B ar er s c .nils nn j (.slice 5 0 cs.length 11 none) [(5,some (.cells (cs.map encC) false))]∧0<cs.length∨st=pmI ls n i B ar er s c .nils nn j .nils []∧cs=[]),⟨_,pmI ls n i B b1 f1 s c .nils nn 0 .nils [],by first|exact Df (G:=5) (F:=4) (by first|rfl|kernel_rfl) rfl rfl rfl rfl rfl rfl rfl rfl rfl rfl rfl rfl rfl|exact Df (G:=6) (F:=4) (by first|rfl|kernel_rfl) rfl rfl rfl rfl rfl rfl rfl rfl rfl rfl rfl rfl rfl,0,b1,f1,[],⟨by omega,rfl,rfl,m1,rfl⟩,.inr ⟨rfl,rfl⟩⟩,?_⟩
     skip
     rintro m st ⟨j,ar,er,cs,⟨hj,rfl,hcl,hrl,hfr2⟩,hs⟩
     by_cases h2:j<ls.length∧er=0
     ·obtain⟨h2,rfl⟩:=h2
      obtain⟨⟨ck,b2,f2⟩,q2⟩:∃g,VU (ls.getD j default).kind B ar 0=g:=⟨_,rfl⟩
      have m2:b2≤B.length:=by have:=(Ga (ls.getD j default).kind B ar 0 hrl).1;rwa [q2]at this
      have hcs:=Jg (s:=cs) h2 q2
      rcases hs with⟨rfl,hc0⟩|⟨rfl,rfl⟩
      · repeat' first|refine And.intro ?_ ?_|(intro h;try first|exact dz|replace h:=cv)
        all_goals try exact cz
        refine⟨pmJ ls n i B ar 0 s c .nils nn j (.slice 5 0 cs.length 11 none) [(5,some (.cells (cs.map encC) false))],Q0 [0,1,2,3,4,5] (by exact rfl) ⟨.refl _,.refl _,.refl _,.refl _,.refl _,.refl _,.refl _,.refl _,ZK rfl,trivial⟩ ⟨⟨by decide,_,rfl,.refl _⟩,⟨by decide,_,rfl,.refl _⟩,⟨by decide,_,rfl,.refl _⟩,⟨by decide,_,rfl,.refl _⟩,⟨by decide,_,rfl,Qb (fC _)⟩,trivial⟩,?_⟩
        repeat' first|refine And.intro ?_ ?_|(intro h;try first|exact dz|replace h:=cv)
        all_goals try exact cz
        refine⟨pmI ls n i B b2 f2 s c .nils nn j (.slice 5 0 (cs++[ck]).length 11 none) [(5,some (.cells ((cs++[ck]).map encC) false))],?_,?_⟩
        · repeat' first|refine And.intro ?_ ?_|(intro h;try first|exact dz|replace h:=cv)
          all_goals try exact cz
          --DRAW
          all_goals refine⟨[0],[.ptr 0 0 0,.int .i64 (ls.getD j default).kind],[(0,rrB B ar 0)],by first|rfl|kernel_rfl,⟨.refl _,.refl _,trivial⟩,⟨⟨by decide,_,rfl,.refl _⟩,trivial⟩,_,B,ar,0,ck,b2,f2,rfl,rfl,rfl,⟨hB,hrl⟩,q2,?_⟩
          repeat' first|refine And.intro ?_ ?_|(intro h;try first|exact dz|replace h:=cv)
          all_goals try exact cz
          all_goals(refine Exists.intro () ?_;first|exact XD (G:=4) (K:=8) (by first|rfl|kernel_rfl) rfl rfl rfl rfl rfl rfl rfl rfl rfl rfl rfl rfl rfl rfl (Xd _ _) (by simp)|exact XD (G:=4) (K:=9) (by first|rfl|kernel_rfl) rfl rfl rfl rfl rfl rfl rfl rfl rfl rfl rfl rfl rfl rfl (Xd _ _) (by simp)|exact XD (G:=4) (K:=7) (by first|rfl|kernel_rfl) rfl rfl rfl rfl rfl rfl rfl rfl rfl rfl rfl rfl rfl rfl (Xd _ _) (by simp)|exact XD (G:=4) (K:=10) (by first|rfl|kernel_rfl) rfl rfl rfl rfl rfl rfl rfl rfl rfl rfl rfl rfl rfl rfl (Xd _ _) (by simp))
        · repeat' first|refine And.intro ?_ ?_|(intro h;try first|exact dz|replace h:=cv)
          all_goals try exact cz
          exact⟨_,pmI ls n i B b2 f2 s c .nils nn (j+1) (.slice 5 0 (cs++[ck]).length 11 none) [(5,some (.cells ((cs++[ck]).map encC) false))],XD (G:=4) (K:=5) (by first|rfl|kernel_rfl) rfl rfl rfl rfl rfl rfl rfl rfl (by omega) rfl rfl rfl rfl rfl rfl rfl,⟨j+1,b2,f2,cs++[ck],⟨by omega,rfl,by simp<;>omega,m2,by rw[←hcs];exact hfr2⟩,.inl ⟨rfl,by simp⟩⟩,by omega⟩
      ·have hj0:(0:Nat)=j:=hcl
       repeat' first|refine And.intro ?_ ?_|(intro h;try first|exact dz|replace h:=cv)
       all_goals try exact cz
       refine⟨pmJ ls n i B ar 0 s c .nils nn j .nils [],Q0 [0,1,2,3,4,5] (by exact rfl) ⟨.refl _,.refl _,.refl _,.refl _,.refl _,.refl _,.refl _,.refl _,ZK rfl,trivial⟩ ⟨⟨by decide,_,rfl,.refl _⟩,⟨by decide,_,rfl,.refl _⟩,⟨by decide,_,rfl,.refl _⟩,⟨by decide,_,rfl,.refl _⟩,trivial⟩,?_⟩
       repeat' first|refine And.intro ?_ ?_|(intro h;try first|exact dz|replace h:=cv)
       all_goals try exact cz
       refine⟨pmI ls n i B b2 f2 s c .nils nn j (.slice 5 0 (([]:List Ck)++[ck]).length 11 none) [(5,some (.cells ((([]:List Ck)++[ck]).map encC) false))],?_,?_⟩
       · repeat' first|refine And.intro ?_ ?_|(intro h;try first|exact dz|replace h:=cv)
         all_goals try exact cz
         --DRAW
         all_goals refine⟨[0],[.ptr 0 0 0,.int .i64 (ls.getD j default).kind],[(0,rrB B ar 0)],by first|rfl|kernel_rfl,⟨.refl _,.refl _,trivial⟩,⟨⟨by decide,_,rfl,.refl _⟩,trivial⟩,_,B,ar,0,ck,b2,f2,rfl,rfl,rfl,⟨hB,hrl⟩,q2,?_⟩
         repeat' first|refine And.intro ?_ ?_|(intro h;try first|exact dz|replace h:=cv)
         all_goals try exact cz
         all_goals(refine Exists.intro () ?_;first|exact XD (G:=4) (K:=8) (by first|rfl|kernel_rfl) rfl rfl rfl rfl rfl rfl rfl rfl rfl rfl rfl rfl rfl rfl rfl (by simp)|exact XD (G:=4) (K:=9) (by first|rfl|kernel_rfl) rfl rfl rfl rfl rfl rfl rfl rfl rfl rfl rfl rfl rfl rfl rfl (by simp)|exact XD (G:=4) (K:=7) (by first|rfl|kernel_rfl) rfl rfl rfl rfl rfl rfl rfl rfl rfl rfl rfl rfl rfl rfl rfl (by simp)|exact XD (G:=4) (K:=10) (by first|rfl|kernel_rfl) rfl rfl rfl rfl rfl rfl rfl rfl rfl rfl rfl rfl rfl rfl rfl (by simp))
       · repeat' first|refine And.intro ?_ ?_|(intro h;try first|exact dz|replace h:=cv)
         all_goals try exact cz
         exact⟨_,pmI ls n i B b2 f2 s c .nils nn (j+1) (.slice 5 0 (([]:List Ck)++[ck]).length 11 none) [(5,some (.cells ((([]:List Ck)++[ck]).map encC) false))],XD (G:=4) (K:=5) (by first|rfl|kernel_rfl) rfl rfl rfl rfl rfl rfl rfl rfl (by omega) rfl rfl rfl rfl rfl rfl rfl,⟨j+1,b2,f2,([]:List Ck)++[ck],⟨by omega,rfl,by simp<;>omega,m2,by rw[←hcs];exact hfr2⟩,.inl ⟨rfl,by simp⟩⟩,by omega⟩
     ·have hfe:Y4 (Q5 ls) [] B b1 f1=(cs,ar,er):=by
       rw[←hfr2]
       by_cases h3:er=0
       ·have:(Q5 ls).drop j=[]:=List.drop_of_length_le (by simp;omega)
        rw[this];rfl
       ·exact Jf _ _ _ _ _ h3
      have hgr:JY (Q5 ls) B aq 0=(⟨nn,cs⟩,ar,er):=(Qa q1).trans ((Qa hfe).trans rfl)
      have hgs:Xv (Q5 ls) (n-i) ([]:List Rw) B aq 0=Xv (Q5 ls) (n-(i+1)) (([]:List Rw)++[⟨nn,cs⟩]) B ar er:=by
       rw[hst]
       exact(VA ([]:List Rw) (Zi (JY (Q5 ls)) fun q=>Xv (Q5 ls) (n-(i+1)) (([]:List Rw)++[q])) B aq).trans (Qa hgr)
      have hbt:(if decide (j<ls.length)=true then decide (er=0)else false)=false:=by
       by_cases h3:j<ls.length
       ·rw[if_pos (decide_eq_true h3)];exact decide_eq_false (fun h4=>h2 ⟨h3,h4⟩)
       ·rw[if_neg (by rw[decide_eq_true_eq];exact h3)]
      rcases hs with⟨rfl,hc0⟩|⟨rfl,rfl⟩
      · repeat' first|refine And.intro ?_ ?_|(intro h;try first|exact dz|replace h:=cv)
        all_goals try exact cz
        all_goals refine⟨_,SV hc0 (by first|rfl|kernel_rfl) rfl rfl rfl rfl rfl rfl rfl rfl (by first|rfl|exact decide_eq_false (show ¬er=0 by omega)) rfl rfl rfl rfl rfl,?_⟩
        all_goals(
         repeat' first|refine And.intro ?_ ?_|(intro h;try first|exact dz|replace h:=cv)
         all_goals try exact cz
         exact⟨_,pmS ls n (i+1) B ar er s c (.slice 3 0 (([]:List Rw)++[(⟨nn,cs⟩:Rw)]).length 2 none) [(3,some (.cells ((([]:List Rw)++[(⟨nn,cs⟩:Rw)]).map encR) false))],by first|exact Zw (K:=6) (by first|rfl|kernel_rfl) rfl rfl rfl rfl rfl rfl (by omega) rfl rfl rfl rfl rfl (by simp)|exact Zw (K:=7) (by first|rfl|kernel_rfl) rfl rfl rfl rfl rfl rfl (by omega) rfl rfl rfl rfl rfl (by simp)|exact Zw (K:=8) (by first|rfl|kernel_rfl) rfl rfl rfl rfl rfl rfl (by omega) rfl rfl rfl rfl rfl (by simp)|exact Zw (K:=9) (by first|rfl|kernel_rfl) rfl rfl rfl rfl rfl rfl (by omega) rfl rfl rfl rfl rfl (by simp)|exact Zw (K:=5) (by first|rfl|kernel_rfl) rfl rfl rfl rfl rfl rfl (by omega) rfl rfl rfl rfl rfl (by simp),⟨i+1,ar,er,([]:List Rw)++[⟨nn,cs⟩],⟨by omega,rfl,by simp<;>omega,hrl,by rw[←hgs];exact hfr⟩,.inl ⟨rfl,by simp⟩⟩,by omega⟩)
      · repeat' first|refine And.intro ?_ ?_|(intro h;try first|exact dz|replace h:=cv)
        all_goals try exact cz
        all_goals refine⟨pmG ls n i B ar er s c .nils nn [] [],Q0 [0,1,2,3,4,5] (by first|rfl|kernel_rfl) ⟨.refl _,.refl _,.refl _,.refl _,.refl _,.refl _,.refl _,ZK (by first|rfl|exact decide_eq_false (show ¬er=0 by omega)),trivial⟩ ⟨⟨by decide,_,rfl,.refl _⟩,⟨by decide,_,rfl,.refl _⟩,⟨by decide,_,rfl,.refl _⟩,⟨by decide,_,rfl,QB (row:=encR ⟨nn,[]⟩) ⟨.refl _,.zero _ _ rfl,trivial⟩⟩,trivial⟩,?_⟩
        all_goals(
         repeat' first|refine And.intro ?_ ?_|(intro h;try first|exact dz|replace h:=cv)
         all_goals try exact cz
         exact⟨_,pmS ls n (i+1) B ar er s c (.slice 3 0 (([]:List Rw)++[(⟨nn,([]:List Ck)⟩:Rw)]).length 2 none) [(3,some (.cells ((([]:List Rw)++[(⟨nn,([]:List Ck)⟩:Rw)]).map encR) false))],by first|exact Zw (K:=6) (by first|rfl|kernel_rfl) rfl rfl rfl rfl rfl rfl (by omega) rfl rfl rfl rfl rfl (by simp)|exact Zw (K:=7) (by first|rfl|kernel_rfl) rfl rfl rfl rfl rfl rfl (by omega) rfl rfl rfl rfl rfl (by simp)|exact Zw (K:=8) (by first|rfl|kernel_rfl) rfl rfl rfl rfl rfl rfl (by omega) rfl rfl rfl rfl rfl (by simp)|exact Zw (K:=9) (by first|rfl|kernel_rfl) rfl rfl rfl rfl rfl rfl (by omega) rfl rfl rfl rfl rfl (by simp)|exact Zw (K:=5) (by first|rfl|kernel_rfl) rfl rfl rfl rfl rfl rfl (by omega) rfl rfl rfl rfl rfl (by simp),⟨i+1,ar,er,([]:List Rw)++[⟨nn,([]:List Ck)⟩],⟨by omega,rfl,by simp<;>omega,hrl,by rw[←hgs];exact hfr⟩,.inl ⟨rfl,by simp⟩⟩,by omega⟩)
   ·have hfe:Xv (Q5 ls) n [] B a3 e3=(gs,aq,eq):=by
     rw[←hfr]
     by_cases h2:eq=0
     ·have:n-i=0:=by omega
      rw[this];rfl
     ·exact Bg _ _ _ _ _ _ h2
    have htq:Zi (Xv (Q5 ls) n []) (fun g=>U2 (⟨s,c,g⟩:Mt)) B a3 e3=(⟨s,c,gs⟩,aq,eq):=(Qa hfe).trans rfl
    rw[htq]at hp hwo
    dsimp only at hwo
    clear hfr hfe htq
    rcases hs with⟨rfl,hp0⟩|⟨rfl,rfl⟩
    rotate_left
    · repeat' first|refine And.intro ?_ ?_|(intro h;try first|exact dz|replace h:=cv)
      all_goals try exact cz
      all_goals refine⟨pmZ ls B aq eq ⟨s,c,[]⟩,Q0 [0,1,2,3] (by exact rfl) ⟨.refl _,.refl _,.refl _,.refl _,ZK (by first|rfl|exact decide_eq_false (show ¬eq=0 by omega)),trivial⟩ ⟨⟨by decide,_,rfl,.refl _⟩,⟨by decide,_,rfl,.refl _⟩,⟨by decide,_,rfl,QB (row:=QT ⟨s,c,[]⟩) ⟨.un rfl,.refl _,.zero _ _ rfl,trivial⟩⟩,trivial⟩,?_⟩
      repeat' first|refine And.intro ?_ ?_|(intro h;try first|exact dz|replace h:=cv)
      all_goals try exact cz
      all_goals(
       refine⟨[0],[.ptr 0 0 0],[(0,rrB B aq eq)],by first|rfl|kernel_rfl,⟨.refl _,trivial⟩,⟨⟨by decide,_,rfl,.refl _⟩,trivial⟩,B,aq,eq,rfl,rfl,rfl,⟨hB,hql⟩,?_⟩
       by_cases he:eq=0
       ·subst he
        by_cases hl:aq<B.length
        ·rw[Km hl]at hp
         rw[show WW B aq 0=9 from if_pos ⟨rfl,hl⟩]
         repeat' first|refine And.intro ?_ ?_|(intro h;try first|exact dz|replace h:=cv)
         all_goals try exact cz
         all_goals exact VS (row:=QE .nils 0 .nils) (m:=mt0) rfl rfl rfl ⟨.zero _ _ rfl,.refl _,.zero _ _ rfl,trivial⟩ (by first|rfl|kernel_rfl) hp rfl hP
        ·rw[G6 hl]at hp
         rw[show WW B aq 0=0 from if_neg (fun k=>hl k.2)]
         obtain hw|hw:Zz ⟨s,c,[]⟩=false∨Zz ⟨s,c,[]⟩=true:=by cases Zz ⟨s,c,[]⟩<;>simp
         ·rw[if_pos hw]at hp
          have hx1:=hw
          have hx2:=hw
          have hx3:=hw
          have hx4:=hw
          repeat' first|refine And.intro ?_ ?_|(intro h;try first|exact dzi|replace h:=cvi)
          all_goals try exact cz
          all_goals refine⟨⟨s,c,[]⟩,by rw[hls];rfl,hwo rfl,?_⟩
          repeat' first|refine And.intro ?_ ?_|(intro h;try first|exact dzi|replace h:=cvi)
          all_goals try exact cz
          all_goals exact VS (row:=QE .nils 0 .nils) (m:=mt0) rfl rfl rfl ⟨.zero _ _ rfl,.refl _,.zero _ _ rfl,trivial⟩ (by first|rfl|kernel_rfl) hp rfl hP
         ·rw[if_neg (by rw[hw];decide)]at hp
          have hx1:=hw
          have hx2:=hw
          have hx3:=hw
          have hx4:=hw
          repeat' first|refine And.intro ?_ ?_|(intro h;try first|exact dzi|replace h:=cvi)
          all_goals try exact cz
          all_goals refine⟨⟨s,c,[]⟩,by rw[hls];rfl,hwo rfl,?_⟩
          repeat' first|refine And.intro ?_ ?_|(intro h;try first|exact dzi|replace h:=cvi)
          all_goals try exact cz
          all_goals exact VS (row:=QT ⟨s,c,[]⟩) (m:=⟨s,c,[]⟩) rfl rfl rfl ⟨.refl _,.refl _,.refl _,trivial⟩ (by first|rfl|kernel_rfl) hp rfl hP
       ·rw[G7 he]at hp
        rw[show WW B aq eq=eq from if_neg (fun k=>he k.1)]
        repeat' first|refine And.intro ?_ ?_|(intro h;try first|exact dz|replace h:=cv)
        all_goals try exact cz
        all_goals exact VS (row:=QE .nils 0 .nils) (m:=mt0) rfl rfl rfl ⟨.zero _ _ rfl,.refl _,.zero _ _ rfl,trivial⟩ (by first|rfl|kernel_rfl) hp rfl hP)
    · repeat' first|refine And.intro ?_ ?_|(intro h;try first|exact dz|replace h:=cv)
      all_goals try exact cz
      all_goals refine⟨_,Q06 hp0 (by exact rfl) rfl rfl rfl rfl rfl (by first|rfl|exact decide_eq_false (show ¬eq=0 by omega)) rfl rfl rfl rfl,?_⟩
      repeat' first|refine And.intro ?_ ?_|(intro h;try first|exact dz|replace h:=cv)
      all_goals try exact cz
      all_goals(
       refine⟨[0],[.ptr 0 0 0],[(0,rrB B aq eq)],by first|rfl|kernel_rfl,⟨.refl _,trivial⟩,⟨⟨by decide,_,rfl,.refl _⟩,trivial⟩,B,aq,eq,rfl,rfl,rfl,⟨hB,hql⟩,?_⟩
       by_cases he:eq=0
       ·subst he
        by_cases hl:aq<B.length
        ·rw[Km hl]at hp
         rw[show WW B aq 0=9 from if_pos ⟨rfl,hl⟩]
         repeat' first|refine And.intro ?_ ?_|(intro h;try first|exact dz|replace h:=cv)
         all_goals try exact cz
         all_goals exact VS (row:=QE .nils 0 .nils) (m:=mt0) rfl rfl rfl ⟨.zero _ _ rfl,.refl _,.zero _ _ rfl,trivial⟩ (by first|rfl|kernel_rfl) hp rfl hP
        ·rw[G6 hl]at hp
         rw[show WW B aq 0=0 from if_neg (fun k=>hl k.2)]
         obtain hw|hw:Zz ⟨s,c,gs⟩=false∨Zz ⟨s,c,gs⟩=true:=by cases Zz ⟨s,c,gs⟩<;>simp
         ·rw[if_pos hw]at hp
          have hx1:=hw
          have hx2:=hw
          have hx3:=hw
          have hx4:=hw
          repeat' first|refine And.intro ?_ ?_|(intro h;try first|exact dzi|replace h:=cvi)
          all_goals try exact cz
          all_goals refine⟨⟨s,c,gs⟩,by rw[hls];rfl,hwo rfl,?_⟩
          repeat' first|refine And.intro ?_ ?_|(intro h;try first|exact dzi|replace h:=cvi)
          all_goals try exact cz
          all_goals exact VS (row:=QE .nils 0 .nils) (m:=mt0) rfl rfl rfl ⟨.zero _ _ rfl,.refl _,.zero _ _ rfl,trivial⟩ (by first|rfl|kernel_rfl) hp rfl hP
         ·rw[if_neg (by rw[hw];decide)]at hp
          have hx1:=hw
          have hx2:=hw
          have hx3:=hw
          have hx4:=hw
          repeat' first|refine And.intro ?_ ?_|(intro h;try first|exact dzi|replace h:=cvi)
          all_goals try exact cz
          all_goals refine⟨⟨s,c,gs⟩,by rw[hls];rfl,hwo rfl,?_⟩
          repeat' first|refine And.intro ?_ ?_|(intro h;try first|exact dzi|replace h:=cvi)
          all_goals try exact cz
          all_goals exact VS (row:=QT ⟨s,c,gs⟩) (m:=⟨s,c,gs⟩) rfl rfl rfl ⟨.refl _,.refl _,.refl _,trivial⟩ (by first|rfl|kernel_rfl) hp rfl hP
       ·rw[G7 he]at hp
        rw[show WW B aq eq=eq from if_neg (fun k=>he k.1)]
        repeat' first|refine And.intro ?_ ?_|(intro h;try first|exact dz|replace h:=cv)
        all_goals try exact cz
        all_goals exact VS (row:=QE .nils 0 .nils) (m:=mt0) rfl rfl rfl ⟨.zero _ _ rfl,.refl _,.zero _ _ rfl,trivial⟩ (by first|rfl|kernel_rfl) hp rfl hP)
  ·rw[if_pos hz]at hp
   repeat' first|refine And.intro ?_ ?_|(intro h;try first|exact dz|replace h:=cv)
   all_goals try exact cz
   all_goals exact VS (row:=QE .nils 0 .nils) (m:=mt0) rfl rfl rfl ⟨.zero _ _ rfl,.refl _,.zero _ _ rfl,trivial⟩ (by first|rfl|kernel_rfl) hp rfl hP
 ·rw[if_pos h1]at hp
  repeat' first|refine And.intro ?_ ?_|(intro h;try first|exact dz|replace h:=cv)
  all_goals try exact cz
  have hx1:=h1
  have hx2:=h1
  have hx3:=h1
  have hx4:=h1
  refine⟨fpZ (e1),?_,?_⟩
  · repeat' first|refine And.intro ?_ ?_|(intro h;try first|exact ZD|replace h:=ZE)
    all_goals try exact cz
    all_goals exact Exists.intro () (J1 rfl rfl rfl rfl (by exact rfl))
  ·exact G2 (row:=QT mt0) (m:=mt0) rfl rfl rfl ⟨.refl _,.refl _,.refl _,trivial⟩ (by exact rfl) hp (by exact rfl) hP
def Ed:SpecT:=fun args H nx Post=>∃b,args=[vB b]∧H=[]∧nx=0∧b.length≤1000000∧Post (.tup [.agg (QT (YQ b).1),.int .i64 (YQ b).2]) [] 2
theorem C4[Syms]:Ed.ok Try.prog 16:=by
 rintro args H nx Post ⟨b,rfl,rfl,rfl,h1,h⟩
 exact XB.forget (Qg Qh Qi Q3 TK Qt (Q03 b h1 _ (EH b).symm h))
end
section
set_option maxRecDepth 100000
set_option maxHeartbeats 4000000
abbrev cLc[Syms]:CallT:=Q6 10 (Xc S_known19) (Q6 11 (Xc S_makeM) (Q6 13 (BN G_wi) (Q6 14 (Xc S_turned) (Q6 12 (Ud S_rfbytes) (Q6 15 (QD FJ) (Q6 16 (QD Ed) Q7))))))
theorem TP[Syms]:cLc.ok Try.prog:=Qk EQ (Qk O1 (VN DU (Qk Q0r (Wr Ew (Q4 Du (Q4 C4 Q9))))))
noncomputable def plLc:Nat→Nat→Pl:=XG [(4,9),(4,10),(4,11)] (Qz plt)
theorem Q02{a:Int}:∀k:Fin 9,wi (k.val:Nat) 9=(k.val:Nat):=by decide
theorem Lm[Syms](ns gs:List Int)(l:List Vl)(w n:Int)(hn:ns.length≤9223372036854775807)(hgl:gs.length≤9223372036854775807)(hll:l.length≤9223372036854775807)(hg:∀g∈gs,I64 g)(hl:∀v∈l,I64 v.n)(hwi:I64 w)(hni:I64 n):
 fnT Q7 cLc (Qv fns) (Qn tys) plLc 100 4 [vI ns,vI gs,vV l,.int .i64 w,.int .i64 n] [] 0 (fun v H _=>v= .bool true∧H=[]):=by
 have ht:=EO ns gs hl
 repeat' first|refine And.intro ?_ ?_|(intro h;try first|exact dz|replace h:=cv)
 all_goals try exact cz
 refine⟨ns,gs,l,rfl,⟨hn,hgl,hll,hg⟩,?_⟩
 generalize KU ns gs l=m at *
 have hx1:=sqm
 have hx2:=sqm
 have hx3:=sqm
 have hx4:=sqm
 by_cases h0:m.groups.length=0
 · repeat' first|refine And.intro ?_ ?_|(intro h;try first|exact dzi|replace h:=cvi)
   all_goals try exact cz
   exact⟨_,Q2 [10] rfl,_,rfl,rfl,rfl⟩
 have hne:m.groups≠[]:=fun h=>h0 (by rw[h];rfl)
 have hw9:=Yp (a:=w) (n:=9) (by decide)
 have hn9:=Yp (a:=n) (n:=9) (by decide)
 have hi:∀k:Int,0≤k∧k<9→I64 k:=fun k h=>⟨by omega,by omega⟩
 have hwk:∀k:Int,0≤k∧k<9→wi k 9=k:=fun k h=>by
  have:=Q02 (a:=0) ⟨k.toNat,by omega⟩
  rwa [show((k.toNat:Nat):Int)=k by omega]at this
 have hparse:∀k:Int,0≤k∧k<9→k≠7→YQ (mtB (XM (wi k 9) (wi n 9) m))=(mt0,10):=fun k h h7=>by
  rw[hwk k h];exact EF ht hne hn9 h h7
 have hlen:∀k:Int,(mtB (XM (wi k 9) (wi n 9) m)).length≤500000:=fun k=>Pk ht _ _
 have hcall:∀(k:Int) (K:List UInt8→Prop),K (mtB (XM (wi k 9) (wi n 9) m))→S_rfbytes [.agg (QT (XM (wi k 9) (wi n 9) m))] K:=fun k K hk=>⟨XM (wi k 9) (wi n 9) m,rfl,⟨Po ht hn9,Pn ht _ _,by have:=hlen k;omega⟩,hk⟩
 repeat' first|refine And.intro ?_ ?_|(intro h;try first|exact dzi|replace h:=cvi)
 all_goals try exact cz
 refine⟨w,9,rfl,by decide,?_⟩
 generalize wi w 9=w' at *
 by_cases h7:w'=7
 ·subst h7
  repeat' first|refine And.intro ?_ ?_|(intro h;try first|exact dzi|replace h:=cvi)
  all_goals try exact cz
  refine⟨m,0,n,rfl,⟨ht,hi 0 (by decide),hni⟩,?_⟩
  repeat' first|refine And.intro ?_ ?_|(intro h;try first|exact dzi|replace h:=cvi)
  all_goals try exact cz
  refine⟨[.agg (QT (XM (wi 0 9) (wi n 9) m))],⟨.imm _ rfl,trivial⟩,?_⟩
  refine hcall 0 _ ?_
  have hp:=hparse 0 (by decide) (by decide)
  have hb:=hlen 0
  clear hcall hparse hlen hwk hi
  generalize mtB (XM (wi 0 9) (wi n 9) m)=b at *
  clear hx1 hx2 hx3 hx4
  have hx1:(QT mt0).getD 2 .any= .vs 2 []:=rfl
  have hx2:(QT mt0).getD (0+2) .any= .vs 2 []:=rfl
  have hx3:=hx1
  have hx4:=hx2
  repeat' first|refine And.intro ?_ ?_|(intro h;try first|exact dzi|replace h:=cvi)
  all_goals try exact cz
  refine⟨⟨[(13,vB b)],[],0⟩,(Yz (k:=13) (sz:=1) (enc:=encB) 0 (l:=b) (len:=b.length) rfl rfl (fB b) (List.take_of_length_le (by simp)) (by simp)).trans (Q2 [13] rfl),?_⟩
  refine⟨[],[vB b],[],rfl,⟨.refl _,trivial⟩,trivial,b,rfl,rfl,rfl,by omega,?_⟩
  rw[hp]
  repeat' first|refine And.intro ?_ ?_|(intro h;try first|exact dzi|replace h:=cvi)
  all_goals try exact cz
  refine⟨⟨[(13,vB b),(14,.ptr 0 0 0),(15,.int .i64 10)],[(0,some (.cells [QT mt0] false))],1⟩,Q0 [2] (by exact rfl) ⟨.refl _,.refl _,.refl _,trivial⟩ ⟨⟨by decide,_,rfl,QM (row:=QT mt0) ⟨.refl _,.refl _,.refl _,trivial⟩ (eM _)⟩,trivial⟩,?_⟩
  refine⟨[],[vB b],[],rfl,⟨.refl _,trivial⟩,trivial,b,rfl,rfl,rfl,by omega,?_⟩
  rw[hp]
  repeat' first|refine And.intro ?_ ?_|(intro h;try first|exact dzi|replace h:=cvi)
  all_goals try exact cz
  refine⟨⟨[(14,.ptr 0 0 0),(15,.int .i64 10),(17,.int .i64 10)],[(0,some (.cells [QT mt0] false))],1⟩,Q0 [0] (by exact rfl) ⟨.refl _,.refl _,.refl _,trivial⟩ ⟨⟨by decide,_,rfl,.refl _⟩,trivial⟩,?_⟩
  repeat' first|refine And.intro ?_ ?_|(intro h;try first|exact dzi|replace h:=cvi)
  all_goals try exact cz
  exact⟨_,Q2 [10] rfl,_,rfl,rfl,rfl⟩
 · repeat' first|refine And.intro ?_ ?_|(intro h;try first|exact dzi|replace h:=cvi)
   all_goals try exact cz
   refine⟨m,w',n,rfl,⟨ht,hi w' hw9,hni⟩,?_⟩
   repeat' first|refine And.intro ?_ ?_|(intro h;try first|exact dzi|replace h:=cvi)
   all_goals try exact cz
   refine⟨[.agg (QT (XM (wi w' 9) (wi n 9) m))],⟨.imm _ rfl,trivial⟩,?_⟩
   refine hcall w' _ ?_
   have hp:=hparse w' hw9 h7
   have hb:=hlen w'
   clear hcall hparse hlen hwk hi
   generalize mtB (XM (wi w' 9) (wi n 9) m)=b at *
   clear hx1 hx2 hx3 hx4
   have hx1:(QT mt0).getD 2 .any= .vs 2 []:=rfl
   have hx2:(QT mt0).getD (0+2) .any= .vs 2 []:=rfl
   have hx3:=hx1
   have hx4:=hx2
   repeat' first|refine And.intro ?_ ?_|(intro h;try first|exact dzi|replace h:=cvi)
   all_goals try exact cz
   refine⟨⟨[(13,vB b)],[],0⟩,(Yz (k:=13) (sz:=1) (enc:=encB) 0 (l:=b) (len:=b.length) rfl rfl (fB b) (List.take_of_length_le (by simp)) (by simp)).trans (Q2 [13] rfl),?_⟩
   refine⟨[],[vB b],[],rfl,⟨.refl _,trivial⟩,trivial,b,rfl,rfl,rfl,by omega,?_⟩
   rw[hp]
   repeat' first|refine And.intro ?_ ?_|(intro h;try first|exact dzi|replace h:=cvi)
   all_goals try exact cz
   refine⟨⟨[(13,vB b),(14,.ptr 0 0 0),(15,.int .i64 10)],[(0,some (.cells [QT mt0] false))],1⟩,Q0 [2] (by exact rfl) ⟨.refl _,.refl _,.refl _,trivial⟩ ⟨⟨by decide,_,rfl,QM (row:=QT mt0) ⟨.refl _,.refl _,.refl _,trivial⟩ (eM _)⟩,trivial⟩,?_⟩
   refine⟨[],[vB b],[],rfl,⟨.refl _,trivial⟩,trivial,b,rfl,rfl,rfl,by omega,?_⟩
   rw[hp]
   repeat' first|refine And.intro ?_ ?_|(intro h;try first|exact dzi|replace h:=cvi)
   all_goals try exact cz
   refine⟨⟨[(14,.ptr 0 0 0),(15,.int .i64 10),(17,.int .i64 10)],[(0,some (.cells [QT mt0] false))],1⟩,Q0 [0] (by exact rfl) ⟨.refl _,.refl _,.refl _,trivial⟩ ⟨⟨by decide,_,rfl,.refl _⟩,trivial⟩,?_⟩
   repeat' first|refine And.intro ?_ ?_|(intro h;try first|exact dzi|replace h:=cvi)
   all_goals try exact cz
   exact⟨_,Q2 [10] rfl,_,rfl,rfl,rfl⟩
theorem Sk[Syms](ns gs:List Int)(l:List Vl)(w n:Int)(hn:ns.length≤9223372036854775807)(_:∀g∈ns,I64 g)(hgl:gs.length≤9223372036854775807)(hg:∀g∈gs,I64 g)(hll:l.length≤9223372036854775807)(hl:∀v∈l,I64 v.n)(hwi:I64 w)(hni:I64 n):
 XB Try.prog 4 [vI ns,vI gs,vV l,.int .i64 w,.int .i64 n] [] 0 (fun v H _=>v= .bool true∧H=[]):=
 Qg Qh Qi Q3 TP Qt (Lm ns gs l w n hn hgl hll hg hl hwi hni)
end
abbrev kI:Shp:=.slice (.int .i64)
abbrev kV:Shp:=.slice (.struct (.pair (.int .i64) (.pair .str .unit)))
theorem Q0m[Syms]{ι:Inj}{x:AVal}{v:Value}(h:kI.ok [x])(hr:RelV ι x v):∃l:List Int,RelV ι (vI l) v∧l.length≤9223372036854775807∧ ∀a∈l,I64 a:=
 Shp.slice_of (enc:=Qq) (G:=I64) 0 (fun r h=>by obtain⟨z,rfl,hz⟩:=h;exact⟨z,rfl,Ej hz⟩) h hr
theorem Q0l[Syms]{ι:Inj}{x:AVal}{v:Value}(h:kV.ok [x])(hr:RelV ι x v):∃l:List Vl,RelV ι (vV l) v∧l.length≤9223372036854775807∧ ∀a∈l,I64 a.n:=
 Shp.slice_of (enc:=ZU) (G:=fun a=>I64 a.n) default (fun r h=>by
  obtain⟨r1,r2,rfl,⟨z,rfl,hz⟩,r3,r4,rfl,⟨s,rfl,hs⟩,rfl⟩:=h
  exact⟨⟨z,s⟩,rfl,Ej hz⟩) h hr
theorem Q0n[Syms]{ι:Inj}{x:AVal}{v:Value}(h:(Shp.int .i64).ok [x])(hr:RelV ι x v):∃z:Int,RelV ι (.int .i64 z) v∧I64 z:=by
 obtain⟨z,h1,hz⟩:=h
 cases h1
 exact⟨z,hr,Ej hz⟩
end Go.Proofs.Ytajieadpaeggcaa
