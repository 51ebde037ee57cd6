/-
  A file's description,read. The document's. Any bytes are read,or refused,as the document says. The statement's function. The statements' arguments:numbers,bytes,values.
-/
import Derived.Test.YtajieadpaeggcaaL8
import Derived.Test.YtajieadpaeggcaaL4
import Derived.Test.YtajieadpaeggcaaL3
import Derived.Test.YtajieadpaeggcaaL5
import Derived.Test.YtajieadpaeggcaaL6
import Derived.Test.YtajieadpaeggcaaL7
import Derived.Test.YtajieadpaeggcaaSxOne
set_option linter.unusedVariables false
set_option linter.unusedSimpArgs false
namespace Go.Proofs.Ytajieadpaeggcaa
open Go Go.Av
section
set_option maxRecDepth 100000
set_option maxHeartbeats 4000000
abbrev cPm:CallT:=Q6 29 (QG BT) (Q6 31 (QG BX) (Q6 30 (QG BW) (Q6 35 (QG BV) (Q6 32 (X0 S_rprs) (Q6 21 (X0 S_leaves) (Q6 33 (QG D0) (Q6 34 (QG SC) (Q6 36 (X0 S_rwhole) Q7))))))))
theorem Q00[Syms]:cPm.ok Try.prog:=Q4 Ci (Q4 BB (Q4 E2 (Q4 Cj (Qh PU (Qh Ka (Q4 DJ (Q4 Tg (Qh IV Q9))))))))
noncomputable def plPm:Nat→Nat→Pl:=XD [(16,1),(16,2),(16,4),(16,13),(16,17),(16,19)] (Qz plt)
def pmS(ls:List Lf)(n i:Nat)(B:List UInt8)(a:Nat)(e:Int)(s:List Fd)(c:Int)(sl:AVal)(tl:Heap):St:=⟨[(2,.ptr 1 0 0),(4,.ptr 0 0 0),(8,.ptr 2 0 0),(9,vL ls),(10,.int .i64 n),(11,.int .i64 i)],(0,rrB B a e)::(1,some (.cells [QK .nils 0 .nils] false))::(2,some (.cells [QK (vF s) c sl] false))::tl,4⟩
def pmB(ls:List Lf)(n i:Nat)(B:List UInt8)(a:Nat)(e:Int)(s:List Fd)(c:Int)(sl:AVal)(tl:Heap):St:=⟨[(2,.ptr 1 0 0),(4,.ptr 0 0 0),(8,.ptr 2 0 0),(9,vL ls),(10,.int .i64 n),(11,.int .i64 i),(57,.bool true)],(0,rrB B a e)::(1,some (.cells [QK .nils 0 .nils] false))::(2,some (.cells [QK (vF s) c sl] false))::tl,4⟩
def pmI(ls:List Lf)(n i:Nat)(B:List UInt8)(a:Nat)(e:Int)(s:List Fd)(c:Int)(sl:AVal)(nn:Int)(j:Nat)(sl2:AVal)(tl:Heap):St:=⟨[(2,.ptr 1 0 0),(4,.ptr 0 0 0),(8,.ptr 2 0 0),(9,vL ls),(10,.int .i64 n),(11,.int .i64 i),(12,.ptr 4 0 0),(13,.int .i64 j)],(0,rrB B a e)::(1,some (.cells [QK .nils 0 .nils] false))::(2,some (.cells [QK (vF s) c sl] false))::(4,some (.cells [Zw nn sl2] false))::tl,6⟩
def pmJ(ls:List Lf)(n i:Nat)(B:List UInt8)(a:Nat)(e:Int)(s:List Fd)(c:Int)(sl:AVal)(nn:Int)(j:Nat)(sl2:AVal)(tl:Heap):St:=⟨[(2,.ptr 1 0 0),(4,.ptr 0 0 0),(8,.ptr 2 0 0),(9,vL ls),(10,.int .i64 n),(11,.int .i64 i),(12,.ptr 4 0 0),(13,.int .i64 j),(73,.bool true)],(0,rrB B a e)::(1,some (.cells [QK .nils 0 .nils] false))::(2,some (.cells [QK (vF s) c sl] false))::(4,some (.cells [Zw nn sl2] false))::tl,6⟩
def pmG(ls:List Lf)(n i:Nat)(B:List UInt8)(a:Nat)(e:Int)(s:List Fd)(c:Int)(sl:AVal)(nn:Int)(cs:List Ck)(tl:Heap):St:=⟨[(2,.ptr 1 0 0),(4,.ptr 0 0 0),(8,.ptr 2 0 0),(9,vL ls),(10,.int .i64 n),(11,.int .i64 i),(12,.ptr 4 0 0),(73,.bool false)],(0,rrB B a e)::(1,some (.cells [QK .nils 0 .nils] false))::(2,some (.cells [QK (vF s) c sl] false))::(4,some (.cells [encR ⟨nn,cs⟩] false))::tl,6⟩
def pmZ(ls:List Lf)(B:List UInt8)(a:Nat)(e:Int)(m:Mt):St:=⟨[(2,.ptr 1 0 0),(4,.ptr 0 0 0),(8,.ptr 2 0 0),(9,vL ls),(57,.bool false)],[(0,rrB B a e),(1,some (.cells [QK .nils 0 .nils] false)),(2,some (.cells [Qv m] false))],4⟩
theorem Jj{ls:List Lf}{i:Nat}(hi:i<ls.length){B:List UInt8}{a a':Nat}{e':Int}{s:List Ck}{p:Ck}(h:VZ (ls.getD i default).kind B a 0=(p,a',e')):Y4 ((Q5 ls).drop i) s B a 0=Y4 ((Q5 ls).drop (i+1)) (s++[p]) B a' e':=by
 have:(Q5 ls).drop i=(ls.getD i default).kind::(Q5 ls).drop (i+1):=by
  rw[List.drop_eq_getElem_cons (by simpa using hi)]
  simp[hi]
 rw[this]
 exact(VE s (Zl (VZ (ls.getD i default).kind) fun c=>Y4 ((Q5 ls).drop (i+1)) (s++[c])) B a).trans (Qb h)
theorem Ji(k:List Int)(s:List Ck)(B:List UInt8)(a:Nat)(e:Int)(h:e≠0):Y4 k s B a e=(s,a,e):=by
 cases k with
 |nil=>rfl
 |cons k ks=>exact if_pos h
theorem Bt(ks:List Int)(k:Nat)(s:List Rw)(B:List UInt8)(a:Nat)(e:Int)(h:e≠0):XA ks k s B a e=(s,a,e):=by
 cases k with
 |zero=>rfl
 |succ k=>exact if_pos h
theorem VX[Syms]{Post:AVal→Heap→Nat→Prop}{N nx:Nat}{x:Int}{e:Env}{H:Heap}{row:List AVal}{m:Mt}{p:Mt×Int}{rs:List ResultVar}(h2:e.get 2= .ptr 1 0 0)(h3:e.get 3= .int .i64 x)(H1:H.get 1=some (.cells [row] false))(hrow:Wf row (Qv m))(hn:QJ 0 nx [0,1]=true)(hp:p=(m,x))
 (hrs:Ze (Qo tys) ⟨[(2,.ptr 1 0 0),(3,.int .i64 x)],[(1,some (.cells [Qv m] false))],2⟩ rs=some (.tup [.agg (Qv m),.int .i64 x])) (hP:Post (.tup [.agg (Qv p.1),.int .i64 p.2]) [] 2):
 ∃s3,Reb 0 N ⟨e,H,nx⟩ s3∧ ∃v,Ze (Qo tys) s3 rs=some v∧Vv Post v s3.heap s3.nx:=by
 subst hp
 exact⟨⟨[(2,.ptr 1 0 0),(3,.int .i64 x)],[(1,some (.cells [Qv m] false))],2⟩,Q0 [0,1] hn ⟨by rw[h2];exact .refl _,by rw[h3];exact .refl _,trivial⟩ ⟨⟨Nat.lt_succ_self _,_,H1,Qs hrow (eM m)⟩,trivial⟩,_,hrs,[],fun n b h=>(by rw[Heap.get_nil]at h;cases h),hP⟩
theorem Ta[Syms]{N nx:Nat}{en:Env}{H:Heap}{ls:List Lf}{n i:Nat}{B:List UInt8}{a:Nat}{e:Int}{s:List Fd}{c nn:Int}{cs:List Ck}{b:Bool}(hp:0<cs.length)(hn:QJ 0 nx [0,1,2,3,4,5]=true)(h2:en.get 2= .ptr 1 0 0)(h4:en.get 4= .ptr 0 0 0)(h8:en.get 8= .ptr 2 0 0)(h9:en.get 9=vL ls)(h10:en.get 10= .int .i64 n)(h11:en.get 11= .int .i64 i)(h12:en.get 12= .ptr 4 0 0)(h73:en.get 73= .bool b)(hb:b=false)
 (H0:H.get 0=rrB B a e) (H1:H.get 1=some (.cells [QK .nils 0 .nils] false)) (H2:H.get 2=some (.cells [QK (vF s) c .nils] false)) (H4:H.get 4=some (.cells [Zw nn (.slice 5 0 cs.length 11 none)] false)) (H5:H.get 5=some (.cells (cs.map encC) false)):Reb 0 N ⟨en,H,nx⟩ (pmG ls n i B a e s c .nils nn cs []):=by
 subst hb
 have hcut:((cs.map encC).drop 0).take cs.length=cs.map encC:=by rw[List.drop_zero,List.take_of_length_le (by simp)]
 have hs:FzV 5 (cs.map encC) (.slice 5 0 cs.length 11 none) (.vs 11 (cs.map encC)):=by
  have:=FzV.sl (n:=5) (rows:=cs.map encC) 0 cs.length 11 none hp (by simp)
  rwa [hcut]at this
 refine(Q0 (e3:=[(2,.ptr 1 0 0),(4,.ptr 0 0 0),(8,.ptr 2 0 0),(9,vL ls),(10,.int .i64 n),(11,.int .i64 i),(12,.ptr 4 0 0),(73,.bool false)]) (H3:=[(0,rrB B a e),(1,some (.cells [QK .nils 0 .nils] false)),(2,some (.cells [QK (vF s) c .nils] false)),(4,some (.cells [Zw nn (.slice 5 0 cs.length 11 none)] false)),(5,some (.cells (cs.map encC) false))]) [0,1,2,3,4,5] hn ⟨by rw[h2];exact .refl _,by rw[h4];exact .refl _,by rw[h8];exact .refl _,by rw[h9];exact .refl _,by rw[h10];exact .refl _,by rw[h11];exact .refl _,by rw[h12];exact .refl _,by rw[h73];exact .refl _,trivial⟩
  ⟨⟨by decide,_,H0,.refl _⟩,⟨by decide,_,H1,.refl _⟩,⟨by decide,_,H2,.refl _⟩,⟨by decide,_,H4,.refl _⟩,⟨by decide,_,H5,Qa (fC _)⟩,trivial⟩).trans ?_
 refine QH (n:=5) rfl (fC cs) ⟨.same _,.same _,.same _,.same _,.same _,.same _,.same _,.same _,trivial⟩
  ⟨⟨by decide,_,rfl,.same _⟩,⟨by decide,_,rfl,.same _⟩,⟨by decide,_,rfl,.same _⟩,⟨by decide,_,rfl,.cells [Zw nn (.slice 5 0 cs.length 11 none)] [encR ⟨nn,cs⟩] false rfl (fun j r r' h h'=>?_)⟩,trivial⟩
 cases j with
 |zero=>
  cases h;cases h'
  exact⟨.same _,hs,trivial⟩
 |succ j=>simp at h
theorem T9[Syms]{N nx:Nat}{en:Env}{H:Heap}{ls:List Lf}{n i:Nat}{B:List UInt8}{a:Nat}{e:Int}{s:List Fd}{c nn:Int}{cs:List Ck}{gs:List Rw}{b:Bool}(hp:0<cs.length)(hn:QJ 0 nx [0,1,2,3,4,5]=true)(h2:en.get 2= .ptr 1 0 0)(h4:en.get 4= .ptr 0 0 0)(h8:en.get 8= .ptr 2 0 0)(h9:en.get 9=vL ls)(h10:en.get 10= .int .i64 n)(h11:en.get 11= .int .i64 i)(h12:en.get 12= .ptr 4 0 0)(h73:en.get 73= .bool b)(hb:b=false)
 (H0:H.get 0=rrB B a e) (H1:H.get 1=some (.cells [QK .nils 0 .nils] false)) (H2:H.get 2=some (.cells [QK (vF s) c (.slice 3 0 gs.length 2 none)] false)) (H4:H.get 4=some (.cells [Zw nn (.slice 5 0 cs.length 11 none)] false)) (H5:H.get 5=some (.cells (cs.map encC) false)) (H3:H.get 3=some (.cells (gs.map encR) false)):Reb 0 N ⟨en,H,nx⟩ (pmG ls n i B a e s c (.slice 3 0 gs.length 2 none) nn cs [(3,some (.cells (gs.map encR) false))]):=by
 subst hb
 have hcut:((cs.map encC).drop 0).take cs.length=cs.map encC:=by rw[List.drop_zero,List.take_of_length_le (by simp)]
 have hs:FzV 5 (cs.map encC) (.slice 5 0 cs.length 11 none) (.vs 11 (cs.map encC)):=by
  have:=FzV.sl (n:=5) (rows:=cs.map encC) 0 cs.length 11 none hp (by simp)
  rwa [hcut]at this
 refine(Q0 (e3:=[(2,.ptr 1 0 0),(4,.ptr 0 0 0),(8,.ptr 2 0 0),(9,vL ls),(10,.int .i64 n),(11,.int .i64 i),(12,.ptr 4 0 0),(73,.bool false)]) (H3:=[(0,rrB B a e),(1,some (.cells [QK .nils 0 .nils] false)),(2,some (.cells [QK (vF s) c (.slice 3 0 gs.length 2 none)] false)),(4,some (.cells [Zw nn (.slice 5 0 cs.length 11 none)] false)),(3,some (.cells (gs.map encR) false)),(5,some (.cells (cs.map encC) false))]) [0,1,2,3,4,5] hn ⟨by rw[h2];exact .refl _,by rw[h4];exact .refl _,by rw[h8];exact .refl _,by rw[h9];exact .refl _,by rw[h10];exact .refl _,by rw[h11];exact .refl _,by rw[h12];exact .refl _,by rw[h73];exact .refl _,trivial⟩
  ⟨⟨by decide,_,H0,.refl _⟩,⟨by decide,_,H1,.refl _⟩,⟨by decide,_,H2,.refl _⟩,⟨by decide,_,H4,.refl _⟩,⟨by decide,_,H3,Qa (fR _)⟩,⟨by decide,_,H5,Qa (fC _)⟩,trivial⟩).trans ?_
 refine QH (n:=5) rfl (fC cs) ⟨.same _,.same _,.same _,.same _,.same _,.same _,.same _,.same _,trivial⟩
  ⟨⟨by decide,_,rfl,.same _⟩,⟨by decide,_,rfl,.same _⟩,⟨by decide,_,rfl,.same _⟩,⟨by decide,_,rfl,.cells [Zw nn (.slice 5 0 cs.length 11 none)] [encR ⟨nn,cs⟩] false rfl (fun j r r' h h'=>?_)⟩,⟨by decide,_,rfl,.same _⟩,trivial⟩
 cases j with
 |zero=>
  cases h;cases h'
  exact⟨.same _,hs,trivial⟩
 |succ j=>simp at h
theorem Q0n[Syms]{N nx:Nat}{en:Env}{H:Heap}{ls:List Lf}{B:List UInt8}{a:Nat}{e:Int}{s:List Fd}{c:Int}{gs:List Rw}{b:Bool}(hp:0<gs.length)(hn:QJ 0 nx [0,1,2,3]=true)(h2:en.get 2= .ptr 1 0 0)(h4:en.get 4= .ptr 0 0 0)(h8:en.get 8= .ptr 2 0 0)(h9:en.get 9=vL ls)(h57:en.get 57= .bool b)(hb:b=false)
 (H0:H.get 0=rrB B a e) (H1:H.get 1=some (.cells [QK .nils 0 .nils] false)) (H2:H.get 2=some (.cells [QK (vF s) c (.slice 3 0 gs.length 2 none)] false)) (H3:H.get 3=some (.cells (gs.map encR) false)):Reb 0 N ⟨en,H,nx⟩ (pmZ ls B a e ⟨s,c,gs⟩):=by
 subst hb
 have hcut:((gs.map encR).drop 0).take gs.length=gs.map encR:=by rw[List.drop_zero,List.take_of_length_le (by simp)]
 have hs:FzV 3 (gs.map encR) (.slice 3 0 gs.length 2 none) (.vs 2 (gs.map encR)):=by
  have:=FzV.sl (n:=3) (rows:=gs.map encR) 0 gs.length 2 none hp (by simp)
  rwa [hcut]at this
 refine(Q0 (e3:=[(2,.ptr 1 0 0),(4,.ptr 0 0 0),(8,.ptr 2 0 0),(9,vL ls),(57,.bool false)]) (H3:=[(0,rrB B a e),(1,some (.cells [QK .nils 0 .nils] false)),(2,some (.cells [QK (.vs 4 (s.map encF)) c (.slice 3 0 gs.length 2 none)] false)),(3,some (.cells (gs.map encR) false))]) [0,1,2,3] hn ⟨by rw[h2];exact .refl _,by rw[h4];exact .refl _,by rw[h8];exact .refl _,by rw[h9];exact .refl _,by rw[h57];exact .refl _,trivial⟩
  ⟨⟨by decide,_,H0,.refl _⟩,⟨by decide,_,H1,.refl _⟩,⟨by decide,_,H2,QE (row':=QK (vF s) c (.slice 3 0 gs.length 2 none)) (row:=QK (.vs 4 (s.map encF)) c (.slice 3 0 gs.length 2 none)) ⟨.un rfl,.refl _,.refl _,trivial⟩⟩,⟨by decide,_,H3,Qa (fR _)⟩,trivial⟩).trans ?_
 refine QH (n:=3) rfl (fR gs) ⟨.same _,.same _,.same _,.same _,.same _,trivial⟩
  ⟨⟨by decide,_,rfl,.same _⟩,⟨by decide,_,rfl,.same _⟩,⟨by decide,_,rfl,.cells [QK (.vs 4 (s.map encF)) c (.slice 3 0 gs.length 2 none)] [Qv ⟨s,c,gs⟩] false rfl (fun j r r' h h'=>?_)⟩,trivial⟩
 cases j with
 |zero=>
  cases h;cases h'
  exact⟨.same _,.same _,hs,trivial⟩
 |succ j=>simp at h
theorem NK[Syms]{N nx:Nat}{en:Env}{H:Heap}{ls:List Lf}{n i:Nat}{B:List UInt8}{a:Nat}{e i1:Int}{s:List Fd}{c:Int}(hn:QJ 0 nx [0,1,2,3]=true)(h2:en.get 2= .ptr 1 0 0)(h4:en.get 4= .ptr 0 0 0)(h8:en.get 8= .ptr 2 0 0)(h9:en.get 9=vL ls)(h10:en.get 10= .int .i64 n)(h11:en.get 11= .int .i64 i1)(hi:i1=i)
 (H0:H.get 0=rrB B a e) (H1:H.get 1=some (.cells [QK .nils 0 .nils] false)) (H2:H.get 2=some (.cells [QK (vF s) c .nils] false)):Reb 0 N ⟨en,H,nx⟩ (pmS ls n i B a e s c .nils []):=by
 subst hi
 exact Q0 [0,1,2,3] hn ⟨by rw[h2];exact .refl _,by rw[h4];exact .refl _,by rw[h8];exact .refl _,by rw[h9];exact .refl _,by rw[h10];exact .refl _,by rw[h11];exact .refl _,trivial⟩
  ⟨⟨show 0<4 by decide,_,H0,.refl _⟩,⟨show 1<4 by decide,_,H1,.refl _⟩,⟨show 2<4 by decide,_,H2,.refl _⟩,trivial⟩
theorem Dq[Syms]{N nx G F:Nat}{en:Env}{H:Heap}{ls:List Lf}{n i j:Nat}{B:List UInt8}{a:Nat}{e j1 nn:Int}{s:List Fd}{c:Int}(hn:QJ 0 nx [0,1,2,3,G,F]=true)(h2:en.get 2= .ptr 1 0 0)(h4:en.get 4= .ptr 0 0 0)(h8:en.get 8= .ptr 2 0 0)(h9:en.get 9=vL ls)(h10:en.get 10= .int .i64 n)(h11:en.get 11= .int .i64 i)(h12:en.get 12= .ptr G 0 0)(h13:en.get 13= .int .i64 j1)(hj:j1=j)
 (H0:H.get 0=rrB B a e) (H1:H.get 1=some (.cells [QK .nils 0 .nils] false)) (H2:H.get 2=some (.cells [QK (vF s) c .nils] false)) (H4:H.get G=some (.cells [Zw nn .nils] false)):Reb 0 N ⟨en,H,nx⟩ (pmI ls n i B a e s c .nils nn j .nils []):=by
 subst hj
 exact Q0 [0,1,2,3,G,F] hn ⟨by rw[h2];exact .refl _,by rw[h4];exact .refl _,by rw[h8];exact .refl _,by rw[h9];exact .refl _,by rw[h10];exact .refl _,by rw[h11];exact .refl _,by rw[h12];exact .refl _,by rw[h13];exact .refl _,trivial⟩
  ⟨⟨show 0<6 by decide,_,H0,.refl _⟩,⟨show 1<6 by decide,_,H1,.refl _⟩,⟨show 2<6 by decide,_,H2,.refl _⟩,⟨show 4<6 by decide,_,H4,.refl _⟩,trivial⟩
theorem XI[Syms]{N nx G K:Nat}{en:Env}{H:Heap}{ls:List Lf}{n i j:Nat}{B:List UInt8}{a:Nat}{e j1 nn:Int}{s:List Fd}{c:Int}{cs:List Ck}{rows2:List (List AVal)}{len2:Nat}(hn:QJ 0 nx [0,1,2,3,G,K]=true)(h2:en.get 2= .ptr 1 0 0)(h4:en.get 4= .ptr 0 0 0)(h8:en.get 8= .ptr 2 0 0)(h9:en.get 9=vL ls)(h10:en.get 10= .int .i64 n)(h11:en.get 11= .int .i64 i)(h12:en.get 12= .ptr G 0 0)(h13:en.get 13= .int .i64 j1)(hj:j1=j)
 (H0:H.get 0=rrB B a e) (H1:H.get 1=some (.cells [QK .nils 0 .nils] false)) (H2:H.get 2=some (.cells [QK (vF s) c .nils] false)) (H4:H.get G=some (.cells [Zw nn (.slice K 0 len2 11 none)] false)) (HK:H.get K=some (.cells rows2 false)) (hr2:rows2=cs.map encC) (hl2:len2=cs.length):Reb 0 N ⟨en,H,nx⟩ (pmI ls n i B a e s c .nils nn j (.slice 5 0 cs.length 11 none) [(5,some (.cells (cs.map encC) false))]):=by
 subst hj hr2 hl2
 exact Q0 [0,1,2,3,G,K] hn ⟨by rw[h2];exact .refl _,by rw[h4];exact .refl _,by rw[h8];exact .refl _,by rw[h9];exact .refl _,by rw[h10];exact .refl _,by rw[h11];exact .refl _,by rw[h12];exact .refl _,by rw[h13];exact .refl _,trivial⟩
  ⟨⟨show 0<6 by decide,_,H0,.refl _⟩,⟨show 1<6 by decide,_,H1,.refl _⟩,⟨show 2<6 by decide,_,H2,.refl _⟩,⟨show 4<6 by decide,_,H4,.refl _⟩,⟨show 5<6 by decide,_,HK,Qa (fC _)⟩,trivial⟩
theorem Zy[Syms]{N nx K:Nat}{en:Env}{H:Heap}{ls:List Lf}{n i:Nat}{B:List UInt8}{a:Nat}{e i1:Int}{s:List Fd}{c:Int}{gs:List Rw}{rows:List (List AVal)}{len:Nat}(hn:QJ 0 nx [0,1,2,K]=true)(h2:en.get 2= .ptr 1 0 0)(h4:en.get 4= .ptr 0 0 0)(h8:en.get 8= .ptr 2 0 0)(h9:en.get 9=vL ls)(h10:en.get 10= .int .i64 n)(h11:en.get 11= .int .i64 i1)(hi:i1=i)
 (H0:H.get 0=rrB B a e) (H1:H.get 1=some (.cells [QK .nils 0 .nils] false)) (H2:H.get 2=some (.cells [QK (vF s) c (.slice K 0 len 2 none)] false)) (HK:H.get K=some (.cells rows false)) (hr:rows=gs.map encR) (hl:len=gs.length):Reb 0 N ⟨en,H,nx⟩ (pmS ls n i B a e s c (.slice 3 0 gs.length 2 none) [(3,some (.cells (gs.map encR) false))]):=by
 subst hi hr hl
 exact Q0 [0,1,2,K] hn ⟨by rw[h2];exact .refl _,by rw[h4];exact .refl _,by rw[h8];exact .refl _,by rw[h9];exact .refl _,by rw[h10];exact .refl _,by rw[h11];exact .refl _,trivial⟩
  ⟨⟨show 0<4 by decide,_,H0,.refl _⟩,⟨show 1<4 by decide,_,H1,.refl _⟩,⟨show 2<4 by decide,_,H2,.refl _⟩,⟨show 3<4 by decide,_,HK,Qa (fR _)⟩,trivial⟩
theorem Dp[Syms]{N nx G F:Nat}{en:Env}{H:Heap}{ls:List Lf}{n i j:Nat}{B:List UInt8}{a:Nat}{e j1 nn:Int}{s:List Fd}{c:Int}{gs:List Rw}(hn:QJ 0 nx [0,1,2,3,G,F]=true)(h2:en.get 2= .ptr 1 0 0)(h4:en.get 4= .ptr 0 0 0)(h8:en.get 8= .ptr 2 0 0)(h9:en.get 9=vL ls)(h10:en.get 10= .int .i64 n)(h11:en.get 11= .int .i64 i)(h12:en.get 12= .ptr G 0 0)(h13:en.get 13= .int .i64 j1)(hj:j1=j)
 (H0:H.get 0=rrB B a e) (H1:H.get 1=some (.cells [QK .nils 0 .nils] false)) (H2:H.get 2=some (.cells [QK (vF s) c (.slice 3 0 gs.length 2 none)] false)) (H4:H.get G=some (.cells [Zw nn .nils] false)) (H3:H.get 3=some (.cells (gs.map encR) false)):Reb 0 N ⟨en,H,nx⟩ (pmI ls n i B a e s c (.slice 3 0 gs.length 2 none) nn j .nils [(3,some (.cells (gs.map encR) false))]):=by
 subst hj
 exact Q0 [0,1,2,3,G,F] hn ⟨by rw[h2];exact .refl _,by rw[h4];exact .refl _,by rw[h8];exact .refl _,by rw[h9];exact .refl _,by rw[h10];exact .refl _,by rw[h11];exact .refl _,by rw[h12];exact .refl _,by rw[h13];exact .refl _,trivial⟩
  ⟨⟨show 0<6 by decide,_,H0,.refl _⟩,⟨show 1<6 by decide,_,H1,.refl _⟩,⟨show 2<6 by decide,_,H2,.refl _⟩,⟨show 4<6 by decide,_,H4,.refl _⟩,⟨show 3<6 by decide,_,H3,Qa (fR _)⟩,trivial⟩
theorem XH[Syms]{N nx G K:Nat}{en:Env}{H:Heap}{ls:List Lf}{n i j:Nat}{B:List UInt8}{a:Nat}{e j1 nn:Int}{s:List Fd}{c:Int}{gs:List Rw}{cs:List Ck}{rows2:List (List AVal)}{len2:Nat}(hn:QJ 0 nx [0,1,2,3,G,K]=true)(h2:en.get 2= .ptr 1 0 0)(h4:en.get 4= .ptr 0 0 0)(h8:en.get 8= .ptr 2 0 0)(h9:en.get 9=vL ls)(h10:en.get 10= .int .i64 n)(h11:en.get 11= .int .i64 i)(h12:en.get 12= .ptr G 0 0)(h13:en.get 13= .int .i64 j1)(hj:j1=j)
 (H0:H.get 0=rrB B a e) (H1:H.get 1=some (.cells [QK .nils 0 .nils] false)) (H2:H.get 2=some (.cells [QK (vF s) c (.slice 3 0 gs.length 2 none)] false)) (H4:H.get G=some (.cells [Zw nn (.slice K 0 len2 11 none)] false)) (H3:H.get 3=some (.cells (gs.map encR) false)) (HK:H.get K=some (.cells rows2 false)) (hr2:rows2=cs.map encC) (hl2:len2=cs.length):Reb 0 N ⟨en,H,nx⟩ (pmI ls n i B a e s c (.slice 3 0 gs.length 2 none) nn j (.slice 5 0 cs.length 11 none) [(3,some (.cells (gs.map encR) false)),(5,some (.cells (cs.map encC) false))]):=by
 subst hj hr2 hl2
 exact Q0 [0,1,2,3,G,K] hn ⟨by rw[h2];exact .refl _,by rw[h4];exact .refl _,by rw[h8];exact .refl _,by rw[h9];exact .refl _,by rw[h10];exact .refl _,by rw[h11];exact .refl _,by rw[h12];exact .refl _,by rw[h13];exact .refl _,trivial⟩
  ⟨⟨show 0<6 by decide,_,H0,.refl _⟩,⟨show 1<6 by decide,_,H1,.refl _⟩,⟨show 2<6 by decide,_,H2,.refl _⟩,⟨show 4<6 by decide,_,H4,.refl _⟩,⟨show 3<6 by decide,_,H3,Qa (fR _)⟩,⟨show 5<6 by decide,_,HK,Qa (fC _)⟩,trivial⟩
theorem Q0h[Syms]{Post:AVal→Heap→Nat→Prop}(B:List UInt8)(hB:B.length≤1000000)(p:Mt×Int)(hp:p=M1 B)(hP:Post (.tup [.agg (Qv p.1),.int .i64 p.2]) [] 2):
 fnT Q7 cPm (Qx fns) (Qo tys) plPm 100 16 [vB B] [] 0 (Vv Post):=by
 obtain⟨⟨x,a0,e0⟩,g0⟩:∃g,X5 2000 5 B 0 0=g:=⟨_,rfl⟩
 have l0:a0≤B.length:=by have:=(Yk (most:=2000) (w:=5) (by decide) B 0 0 (Nat.zero_le _)).1;rwa [g0]at this
 have n0:x≤2000:=by have:=Wv 2000 5 B 0 0;rwa [g0]at this
 obtain⟨⟨t,a1,e1⟩,g1⟩:∃g,ZN x B a0 e0=g:=⟨_,rfl⟩
 have l1:a1≤B.length:=by have:=(KI x B a0 e0 l0).1;rwa [g1]at this
 have n1:t.length≤2000:=by
  have:=UG x B a0 e0
  rw[g1]at this
  rcases this with h|h
  ·have h:t.length=x:=h
   omega
  ·have h:t=[]:=h
   subst h;exact Nat.zero_le _
 have hhd:hdP B 0 0=(t,a1,e1):=(Qb g0).trans g1
 unfold M1 at hp
 rw[hhd]at hp
 dsimp only at hp
 repeat' first|refine And.intro ?_ ?_|(intro h;try first|exact dz|replace h:=cv)
 all_goals try exact cz
 refine⟨[],[vB B],[],by exact rfl,⟨.refl _,trivial⟩,trivial,B,rfl,rfl,rfl,hB,?_⟩
 repeat' first|refine And.intro ?_ ?_|(intro h;try first|exact dz|replace h:=cv)
 all_goals try exact cz
 refine⟨⟨[(2,.ptr 1 0 0),(4,.ptr 0 0 0)],[(0,rrB B 0 0),(1,some (.cells [QK .nils 0 .nils] false))],2⟩,by first|exact Q0 [1,0] (by first|rfl|kernel_rfl) ⟨.refl _,.refl _,trivial⟩ ⟨⟨by decide,_,rfl,.refl _⟩,⟨by decide,_,rfl,.refl _⟩,trivial⟩|exact Q0 [2,0] (by first|rfl|kernel_rfl) ⟨.refl _,.refl _,trivial⟩ ⟨⟨by decide,_,rfl,.refl _⟩,⟨by decide,_,rfl,.refl _⟩,trivial⟩,?_⟩
 refine⟨[0],[.ptr 0 0 0,.int .i64 ((2000:Nat):Int),.int .i64 5],[(0,rrB B 0 0)],by exact rfl,⟨.refl _,.refl _,.refl _,trivial⟩,⟨⟨by decide,_,rfl,.refl _⟩,trivial⟩,B,0,0,2000,5,x,a0,e0,rfl,rfl,rfl,⟨hB,Nat.zero_le _,by decide,by decide⟩,g0,?_⟩
 repeat' first|refine And.intro ?_ ?_|(intro h;try first|exact dz|replace h:=cv)
 all_goals try exact cz
 refine⟨[0],[.ptr 0 0 0,.int .i64 (x:Nat)],[(0,rrB B a0 e0)],by exact rfl,⟨.refl _,.refl _,trivial⟩,⟨⟨by decide,_,rfl,.refl _⟩,trivial⟩,B,a0,e0,x,t,a1,e1,rfl,rfl,rfl,⟨hB,l0,by omega⟩,g1,?_⟩
 repeat' first|refine And.intro ?_ ?_|(intro h;try first|exact dz|replace h:=cv)
 all_goals try exact cz
 refine⟨⟨[(2,.ptr 1 0 0),(4,.ptr 0 0 0),(5,vB t)],[(0,rrB B a1 e1),(1,some (.cells [QK .nils 0 .nils] false))],2⟩,Q0 [0,1] (by exact rfl) ⟨.refl _,.refl _,.refl _,trivial⟩ ⟨⟨by decide,_,rfl,.refl _⟩,⟨by decide,_,rfl,.refl _⟩,trivial⟩,?_⟩
 by_cases h1:e1=0
 ·subst h1
  rw[if_neg (fun k=>k rfl)]at hp
  repeat' first|refine And.intro ?_ ?_|(intro h;try first|exact dz|replace h:=cv)
  all_goals try exact cz
  refine⟨t,rfl,by omega,?_⟩
  have hok:=Kf t
  generalize ZD t=y at *
  obtain⟨s,z⟩:=y
  dsimp only at hp hok
  by_cases hz:z=0
  ·subst hz
   rw[if_neg (fun k=>k rfl)]at hp
   have hfs:=hok.1.fs hok.2
   have hkin:QS s=Q5 (Qt s):=rfl
   have hll:(Qt s).length≤1000:=by have:(Qt s).length≤s.length:=Zf _ _ _;omega
   obtain⟨⟨c,a2,e2⟩,g2⟩:∃g,plainP B a1 0=g:=⟨_,rfl⟩
   have l2:a2≤B.length:=by have:=(Z3 B a1 0 l1).1;rwa [g2]at this
   obtain⟨⟨n,a3,e3⟩,g3⟩:∃g,X5 200 4 B a2 e2=g:=⟨_,rfl⟩
   have l3:a3≤B.length:=by have:=(Yk (most:=200) (w:=4) (by decide) B a2 e2 l2).1;rwa [g3]at this
   have n3:n≤200:=by have:=Wv 200 4 B a2 e2;rwa [g3]at this
   have htl:Mp s B a1 0=Zl (XA (QS s) n []) (fun g=>U7 ⟨s,c,g⟩) B a3 e3:=(Qb g2).trans ((Qb g3).trans rfl)
   have hwo:=Pz hok l1
   rw[htl]at hp hwo
   have hdef:Qt s=Qt s:=rfl
   repeat' first|refine And.intro ?_ ?_|(intro h;try first|exact dz|replace h:=cv)
   all_goals try exact cz
   refine⟨s,rfl,hfs,?_⟩
   rw[hkin]at hp hwo
   generalize hls:Qt s=ls at *
   repeat' first|refine And.intro ?_ ?_|(intro h;try first|exact dz|replace h:=cv)
   all_goals try exact cz
   refine⟨[0],[.ptr 0 0 0],[(0,rrB B a1 0)],by first|rfl|kernel_rfl,⟨.refl _,trivial⟩,⟨⟨by decide,_,rfl,.refl _⟩,trivial⟩,B,a1,0,c,a2,e2,rfl,rfl,rfl,⟨hB,l1⟩,g2,?_⟩
   repeat' first|refine And.intro ?_ ?_|(intro h;try first|exact dz|replace h:=cv)
   all_goals try exact cz
   refine⟨[0],[.ptr 0 0 0,.int .i64 ((200:Nat):Int),.int .i64 4],[(0,rrB B a2 e2)],by first|rfl|kernel_rfl,⟨.refl _,.refl _,.refl _,trivial⟩,⟨⟨by decide,_,rfl,.refl _⟩,trivial⟩,B,a2,e2,200,4,n,a3,e3,rfl,rfl,rfl,⟨hB,l2,by decide,by decide⟩,g3,?_⟩
   repeat' first|refine And.intro ?_ ?_|(intro h;try first|exact dz|replace h:=cv)
   all_goals try exact cz
   refine⟨fun m st=>∃(i aq:Nat) (eq:Int) (gs:List Rw),(i≤n∧m=n-i∧gs.length=i∧aq≤B.length∧XA (Q5 ls) (n-i) gs B aq eq=XA (Q5 ls) n [] B a3 e3)∧(st=pmS ls n i B aq eq s c (.slice 3 0 gs.length 2 none) [(3,some (.cells (gs.map encR) false))]∧0<gs.length∨st=pmS ls n i B aq eq s c .nils []∧gs=[]),⟨_,pmS ls n 0 B a3 e3 s c .nils [],NK (by first|rfl|kernel_rfl) rfl rfl rfl rfl rfl rfl rfl rfl rfl rfl,0,a3,e3,[],⟨by omega,rfl,rfl,l3,rfl⟩,.inr ⟨rfl,rfl⟩⟩,?_⟩
   rintro m st ⟨i,aq,eq,gs,⟨hi,rfl,hgl,hql,hfr⟩,hs⟩
   by_cases h1:i<n∧eq=0
   ·obtain⟨h1,rfl⟩:=h1
    have hst:n-i=n-(i+1)+1:=by omega
    obtain⟨⟨nn,b1,f1⟩,q1⟩:∃g,plainP B aq 0=g:=⟨_,rfl⟩
    have m1:b1≤B.length:=by have:=(Z3 B aq 0 hql).1;rwa [q1]at this
    rcases hs with⟨rfl,hp0⟩|⟨rfl,rfl⟩
    · repeat' first|refine And.intro ?_ ?_|(intro h;try first|exact dz|replace h:=cv)
      all_goals try exact cz
      refine⟨pmB ls n i B aq 0 s c (.slice 3 0 gs.length 2 none) [(3,some (.cells (gs.map encR) false))],Q0 [0,1,2,3] (by exact rfl) ⟨.refl _,.refl _,.refl _,.refl _,.refl _,.refl _,ZK rfl,trivial⟩ ⟨⟨by decide,_,rfl,.refl _⟩,⟨by decide,_,rfl,.refl _⟩,⟨by decide,_,rfl,.refl _⟩,⟨by decide,_,rfl,Qa (fR _)⟩,trivial⟩,?_⟩
      repeat' first|refine And.intro ?_ ?_|(intro h;try first|exact dz|replace h:=cv)
      all_goals try exact cz
      refine⟨[0],[.ptr 0 0 0],[(0,rrB B aq 0)],by first|rfl|kernel_rfl,⟨.refl _,trivial⟩,⟨⟨by decide,_,rfl,.refl _⟩,trivial⟩,B,aq,0,nn,b1,f1,rfl,rfl,rfl,⟨hB,hql⟩,q1,?_⟩
      repeat' first|refine And.intro ?_ ?_|(intro h;try first|exact dz|replace h:=cv)
      all_goals try exact cz
      refine⟨fun m st=>∃(j ar:Nat) (er:Int) (cs:List Ck),(j≤ls.length∧m=ls.length-j∧cs.length=j∧ar≤B.length∧Y4 ((Q5 ls).drop j) cs B ar er=Y4 (Q5 ls) [] B b1 f1)∧(st=pmI ls n i B ar er s c (.slice 3 0 gs.length 2 none) nn j (.slice 5 0 cs.length 11 none) [(3,some (.cells (gs.map encR) false)),(5,some (.cells (cs.map encC) false))]∧0<cs.length∨st=pmI ls n i B ar er s c (.slice 3 0 gs.length 2 none) nn j .nils [(3,some (.cells (gs.map encR) false))]∧cs=[]),⟨_,pmI ls n i B b1 f1 s c (.slice 3 0 gs.length 2 none) nn 0 .nils [(3,some (.cells (gs.map encR) false))],by first|exact Dp (G:=5) (F:=4) (by first|rfl|kernel_rfl) rfl rfl rfl rfl rfl rfl rfl rfl rfl rfl rfl rfl rfl rfl|exact Dp (G:=6) (F:=4) (by first|rfl|kernel_rfl) rfl rfl rfl rfl rfl rfl rfl rfl rfl rfl rfl rfl rfl rfl,0,b1,f1,[],⟨by omega,rfl,rfl,m1,rfl⟩,.inr ⟨rfl,rfl⟩⟩,?_⟩
      skip
      rintro m st ⟨j,ar,er,cs,⟨hj,rfl,hcl,hrl,hfr2⟩,hs⟩
      by_cases h2:j<ls.length∧er=0
      ·obtain⟨h2,rfl⟩:=h2
       obtain⟨⟨ck,b2,f2⟩,q2⟩:∃g,VZ (ls.getD j default).kind B ar 0=g:=⟨_,rfl⟩
       have m2:b2≤B.length:=by have:=(Ga (ls.getD j default).kind B ar 0 hrl).1;rwa [q2]at this
       have hcs:=Jj (s:=cs) h2 q2
       rcases hs with⟨rfl,hc0⟩|⟨rfl,rfl⟩
       · repeat' first|refine And.intro ?_ ?_|(intro h;try first|exact dz|replace h:=cv)
         all_goals try exact cz
         refine⟨pmJ ls n i B ar 0 s c (.slice 3 0 gs.length 2 none) nn j (.slice 5 0 cs.length 11 none) [(3,some (.cells (gs.map encR) false)),(5,some (.cells (cs.map encC) false))],Q0 [0,1,2,3,4,5] (by exact rfl) ⟨.refl _,.refl _,.refl _,.refl _,.refl _,.refl _,.refl _,.refl _,ZK rfl,trivial⟩ ⟨⟨by decide,_,rfl,.refl _⟩,⟨by decide,_,rfl,.refl _⟩,⟨by decide,_,rfl,.refl _⟩,⟨by decide,_,rfl,.refl _⟩,⟨by decide,_,rfl,Qa (fR _)⟩,⟨by decide,_,rfl,Qa (fC _)⟩,trivial⟩,?_⟩
         repeat' first|refine And.intro ?_ ?_|(intro h;try first|exact dz|replace h:=cv)
         all_goals try exact cz
         refine⟨pmI ls n i B b2 f2 s c (.slice 3 0 gs.length 2 none) nn j (.slice 5 0 (cs++[ck]).length 11 none) [(3,some (.cells (gs.map encR) false)),(5,some (.cells ((cs++[ck]).map encC) false))],?_,?_⟩
         · repeat' first|refine And.intro ?_ ?_|(intro h;try first|exact dz|replace h:=cv)
           all_goals try exact cz
           --DRAW
           all_goals refine⟨[0],[.ptr 0 0 0,.int .i64 (ls.getD j default).kind],[(0,rrB B ar 0)],by first|rfl|kernel_rfl,⟨.refl _,.refl _,trivial⟩,⟨⟨by decide,_,rfl,.refl _⟩,trivial⟩,_,B,ar,0,ck,b2,f2,rfl,rfl,rfl,⟨hB,hrl⟩,q2,?_⟩
           repeat' first|refine And.intro ?_ ?_|(intro h;try first|exact dz|replace h:=cv)
           all_goals try exact cz
           all_goals(refine Exists.intro () ?_;first|exact XH (G:=4) (K:=8) (by first|rfl|kernel_rfl) rfl rfl rfl rfl rfl rfl rfl rfl rfl rfl rfl rfl rfl rfl rfl (Xb _ _) (by simp)|exact XH (G:=4) (K:=9) (by first|rfl|kernel_rfl) rfl rfl rfl rfl rfl rfl rfl rfl rfl rfl rfl rfl rfl rfl rfl (Xb _ _) (by simp)|exact XH (G:=4) (K:=7) (by first|rfl|kernel_rfl) rfl rfl rfl rfl rfl rfl rfl rfl rfl rfl rfl rfl rfl rfl rfl (Xb _ _) (by simp)|exact XH (G:=4) (K:=10) (by first|rfl|kernel_rfl) rfl rfl rfl rfl rfl rfl rfl rfl rfl rfl rfl rfl rfl rfl rfl (Xb _ _) (by simp))
         · repeat' first|refine And.intro ?_ ?_|(intro h;try first|exact dz|replace h:=cv)
           all_goals try exact cz
           exact⟨_,pmI ls n i B b2 f2 s c (.slice 3 0 gs.length 2 none) nn (j+1) (.slice 5 0 (cs++[ck]).length 11 none) [(3,some (.cells (gs.map encR) false)),(5,some (.cells ((cs++[ck]).map encC) false))],XH (G:=4) (K:=5) (by first|rfl|kernel_rfl) rfl rfl rfl rfl rfl rfl rfl rfl (by omega) rfl rfl rfl rfl rfl rfl rfl rfl,⟨j+1,b2,f2,cs++[ck],⟨by omega,rfl,by simp<;>omega,m2,by rw[←hcs];exact hfr2⟩,.inl ⟨rfl,by simp⟩⟩,by omega⟩
       ·have hj0:(0:Nat)=j:=hcl
        repeat' first|refine And.intro ?_ ?_|(intro h;try first|exact dz|replace h:=cv)
        all_goals try exact cz
        refine⟨pmJ ls n i B ar 0 s c (.slice 3 0 gs.length 2 none) nn j .nils [(3,some (.cells (gs.map encR) false))],Q0 [0,1,2,3,4,5] (by exact rfl) ⟨.refl _,.refl _,.refl _,.refl _,.refl _,.refl _,.refl _,.refl _,ZK rfl,trivial⟩ ⟨⟨by decide,_,rfl,.refl _⟩,⟨by decide,_,rfl,.refl _⟩,⟨by decide,_,rfl,.refl _⟩,⟨by decide,_,rfl,.refl _⟩,⟨by decide,_,rfl,Qa (fR _)⟩,trivial⟩,?_⟩
        repeat' first|refine And.intro ?_ ?_|(intro h;try first|exact dz|replace h:=cv)
        all_goals try exact cz
        refine⟨pmI ls n i B b2 f2 s c (.slice 3 0 gs.length 2 none) nn j (.slice 5 0 (([]:List Ck)++[ck]).length 11 none) [(3,some (.cells (gs.map encR) false)),(5,some (.cells ((([]:List Ck)++[ck]).map encC) false))],?_,?_⟩
        · repeat' first|refine And.intro ?_ ?_|(intro h;try first|exact dz|replace h:=cv)
          all_goals try exact cz
          --DRAW
          all_goals refine⟨[0],[.ptr 0 0 0,.int .i64 (ls.getD j default).kind],[(0,rrB B ar 0)],by first|rfl|kernel_rfl,⟨.refl _,.refl _,trivial⟩,⟨⟨by decide,_,rfl,.refl _⟩,trivial⟩,_,B,ar,0,ck,b2,f2,rfl,rfl,rfl,⟨hB,hrl⟩,q2,?_⟩
          repeat' first|refine And.intro ?_ ?_|(intro h;try first|exact dz|replace h:=cv)
          all_goals try exact cz
          all_goals(refine Exists.intro () ?_;first|exact XH (G:=4) (K:=8) (by first|rfl|kernel_rfl) rfl rfl rfl rfl rfl rfl rfl rfl rfl rfl rfl rfl rfl rfl rfl rfl (by simp)|exact XH (G:=4) (K:=9) (by first|rfl|kernel_rfl) rfl rfl rfl rfl rfl rfl rfl rfl rfl rfl rfl rfl rfl rfl rfl rfl (by simp)|exact XH (G:=4) (K:=7) (by first|rfl|kernel_rfl) rfl rfl rfl rfl rfl rfl rfl rfl rfl rfl rfl rfl rfl rfl rfl rfl (by simp)|exact XH (G:=4) (K:=10) (by first|rfl|kernel_rfl) rfl rfl rfl rfl rfl rfl rfl rfl rfl rfl rfl rfl rfl rfl rfl rfl (by simp))
        · repeat' first|refine And.intro ?_ ?_|(intro h;try first|exact dz|replace h:=cv)
          all_goals try exact cz
          exact⟨_,pmI ls n i B b2 f2 s c (.slice 3 0 gs.length 2 none) nn (j+1) (.slice 5 0 (([]:List Ck)++[ck]).length 11 none) [(3,some (.cells (gs.map encR) false)),(5,some (.cells ((([]:List Ck)++[ck]).map encC) false))],XH (G:=4) (K:=5) (by first|rfl|kernel_rfl) rfl rfl rfl rfl rfl rfl rfl rfl (by omega) rfl rfl rfl rfl rfl rfl rfl rfl,⟨j+1,b2,f2,([]:List Ck)++[ck],⟨by omega,rfl,by simp<;>omega,m2,by rw[←hcs];exact hfr2⟩,.inl ⟨rfl,by simp⟩⟩,by omega⟩
      ·have hfe:Y4 (Q5 ls) [] B b1 f1=(cs,ar,er):=by
        rw[←hfr2]
        by_cases h3:er=0
        ·have:(Q5 ls).drop j=[]:=List.drop_of_length_le (by simp;omega)
         rw[this];rfl
        ·exact Ji _ _ _ _ _ h3
       have hgr:G0 (Q5 ls) B aq 0=(⟨nn,cs⟩,ar,er):=(Qb q1).trans ((Qb hfe).trans rfl)
       have hgs:XA (Q5 ls) (n-i) gs B aq 0=XA (Q5 ls) (n-(i+1)) (gs++[⟨nn,cs⟩]) B ar er:=by
        rw[hst]
        exact(VE gs (Zl (G0 (Q5 ls)) fun q=>XA (Q5 ls) (n-(i+1)) (gs++[q])) B aq).trans (Qb hgr)
       have hbt:(if decide (j<ls.length)=true then decide (er=0)else false)=false:=by
        by_cases h3:j<ls.length
        ·rw[if_pos (decide_eq_true h3)];exact decide_eq_false (fun h4=>h2 ⟨h3,h4⟩)
        ·rw[if_neg (by rw[decide_eq_true_eq];exact h3)]
       rcases hs with⟨rfl,hc0⟩|⟨rfl,rfl⟩
       · repeat' first|refine And.intro ?_ ?_|(intro h;try first|exact dz|replace h:=cv)
         all_goals try exact cz
         all_goals refine⟨_,T9 hc0 (by first|rfl|kernel_rfl) rfl rfl rfl rfl rfl rfl rfl rfl (by first|rfl|exact decide_eq_false (show ¬er=0 by omega)) rfl rfl rfl rfl rfl rfl,?_⟩
         all_goals(
          repeat' first|refine And.intro ?_ ?_|(intro h;try first|exact dz|replace h:=cv)
          all_goals try exact cz
          exact⟨_,pmS ls n (i+1) B ar er s c (.slice 3 0 (gs++[(⟨nn,cs⟩:Rw)]).length 2 none) [(3,some (.cells ((gs++[(⟨nn,cs⟩:Rw)]).map encR) false))],by first|exact Zy (K:=6) (by first|rfl|kernel_rfl) rfl rfl rfl rfl rfl rfl (by omega) rfl rfl rfl rfl (U6 _ _) (by simp)|exact Zy (K:=7) (by first|rfl|kernel_rfl) rfl rfl rfl rfl rfl rfl (by omega) rfl rfl rfl rfl (U6 _ _) (by simp)|exact Zy (K:=8) (by first|rfl|kernel_rfl) rfl rfl rfl rfl rfl rfl (by omega) rfl rfl rfl rfl (U6 _ _) (by simp)|exact Zy (K:=9) (by first|rfl|kernel_rfl) rfl rfl rfl rfl rfl rfl (by omega) rfl rfl rfl rfl (U6 _ _) (by simp)|exact Zy (K:=5) (by first|rfl|kernel_rfl) rfl rfl rfl rfl rfl rfl (by omega) rfl rfl rfl rfl (U6 _ _) (by simp),⟨i+1,ar,er,gs++[⟨nn,cs⟩],⟨by omega,rfl,by simp<;>omega,hrl,by rw[←hgs];exact hfr⟩,.inl ⟨rfl,by simp⟩⟩,by omega⟩)
       · repeat' first|refine And.intro ?_ ?_|(intro h;try first|exact dz|replace h:=cv)
         all_goals try exact cz
         all_goals refine⟨pmG ls n i B ar er s c (.slice 3 0 gs.length 2 none) nn [] [(3,some (.cells (gs.map encR) false))],Q0 [0,1,2,3,4,5] (by first|rfl|kernel_rfl) ⟨.refl _,.refl _,.refl _,.refl _,.refl _,.refl _,.refl _,ZK (by first|rfl|exact decide_eq_false (show ¬er=0 by omega)),trivial⟩ ⟨⟨by decide,_,rfl,.refl _⟩,⟨by decide,_,rfl,.refl _⟩,⟨by decide,_,rfl,.refl _⟩,⟨by decide,_,rfl,QE (row:=encR ⟨nn,[]⟩) ⟨.refl _,.zero _ _ rfl,trivial⟩⟩,⟨by decide,_,rfl,Qa (fR _)⟩,trivial⟩,?_⟩
         all_goals(
          repeat' first|refine And.intro ?_ ?_|(intro h;try first|exact dz|replace h:=cv)
          all_goals try exact cz
          exact⟨_,pmS ls n (i+1) B ar er s c (.slice 3 0 (gs++[(⟨nn,([]:List Ck)⟩:Rw)]).length 2 none) [(3,some (.cells ((gs++[(⟨nn,([]:List Ck)⟩:Rw)]).map encR) false))],by first|exact Zy (K:=6) (by first|rfl|kernel_rfl) rfl rfl rfl rfl rfl rfl (by omega) rfl rfl rfl rfl (U6 _ _) (by simp)|exact Zy (K:=7) (by first|rfl|kernel_rfl) rfl rfl rfl rfl rfl rfl (by omega) rfl rfl rfl rfl (U6 _ _) (by simp)|exact Zy (K:=8) (by first|rfl|kernel_rfl) rfl rfl rfl rfl rfl rfl (by omega) rfl rfl rfl rfl (U6 _ _) (by simp)|exact Zy (K:=9) (by first|rfl|kernel_rfl) rfl rfl rfl rfl rfl rfl (by omega) rfl rfl rfl rfl (U6 _ _) (by simp)|exact Zy (K:=5) (by first|rfl|kernel_rfl) rfl rfl rfl rfl rfl rfl (by omega) rfl rfl rfl rfl (U6 _ _) (by simp),⟨i+1,ar,er,gs++[⟨nn,([]:List Ck)⟩],⟨by omega,rfl,by simp<;>omega,hrl,by rw[←hgs];exact hfr⟩,.inl ⟨rfl,by simp⟩⟩,by omega⟩)
    ·have hi0:(0:Nat)=i:=hgl
     repeat' first|refine And.intro ?_ ?_|(intro h;try first|exact dz|replace h:=cv)
     all_goals try exact cz
     refine⟨pmB ls n i B aq 0 s c .nils [],Q0 [0,1,2,3] (by exact rfl) ⟨.refl _,.refl _,.refl _,.refl _,.refl _,.refl _,ZK rfl,trivial⟩ ⟨⟨by decide,_,rfl,.refl _⟩,⟨by decide,_,rfl,.refl _⟩,⟨by decide,_,rfl,.refl _⟩,trivial⟩,?_⟩
     repeat' first|refine And.intro ?_ ?_|(intro h;try first|exact dz|replace h:=cv)
     all_goals try exact cz
     refine⟨[0],[.ptr 0 0 0],[(0,rrB B aq 0)],by first|rfl|kernel_rfl,⟨.refl _,trivial⟩,⟨⟨by decide,_,rfl,.refl _⟩,trivial⟩,B,aq,0,nn,b1,f1,rfl,rfl,rfl,⟨hB,hql⟩,q1,?_⟩
     repeat' first|refine And.intro ?_ ?_|(intro h;try first|exact dz|replace h:=cv)
     all_goals try exact cz
     refine⟨fun m st=>∃(j ar:Nat) (er:Int) (cs:List Ck),(j≤ls.length∧m=ls.length-j∧cs.length=j∧ar≤B.length∧Y4 ((Q5 ls).drop j) cs B ar er=Y4 (Q5 ls) [] B b1 f1)∧(st=pmI ls n i B ar er s c .nils nn j (.slice 5 0 cs.length 11 none) [(5,some (.cells (cs.map encC) false))]∧0<cs.length∨st=pmI ls n i B ar er s c .nils nn j .nils []∧cs=[]),⟨_,pmI ls n i B b1 f1 s c .nils nn 0 .nils [],by first|exact Dq (G:=5) (F:=4) (by first|rfl|kernel_rfl) rfl rfl rfl rfl rfl rfl rfl rfl rfl rfl rfl rfl rfl|exact Dq (G:=6) (F:=4) (by first|rfl|kernel_rfl) rfl rfl rfl rfl rfl rfl rfl rfl rfl rfl rfl rfl rfl,0,b1,f1,[],⟨by omega,rfl,rfl,m1,rfl⟩,.inr ⟨rfl,rfl⟩⟩,?_⟩
     skip
     rintro m st ⟨j,ar,er,cs,⟨hj,rfl,hcl,hrl,hfr2⟩,hs⟩
     by_cases h2:j<ls.length∧er=0
     ·obtain⟨h2,rfl⟩:=h2
      obtain⟨⟨ck,b2,f2⟩,q2⟩:∃g,VZ (ls.getD j default).kind B ar 0=g:=⟨_,rfl⟩
      have m2:b2≤B.length:=by have:=(Ga (ls.getD j default).kind B ar 0 hrl).1;rwa [q2]at this
      have hcs:=Jj (s:=cs) h2 q2
      rcases hs with⟨rfl,hc0⟩|⟨rfl,rfl⟩
      · repeat' first|refine And.intro ?_ ?_|(intro h;try first|exact dz|replace h:=cv)
        all_goals try exact cz
        refine⟨pmJ ls n i B ar 0 s c .nils nn j (.slice 5 0 cs.length 11 none) [(5,some (.cells (cs.map encC) false))],Q0 [0,1,2,3,4,5] (by exact rfl) ⟨.refl _,.refl _,.refl _,.refl _,.refl _,.refl _,.refl _,.refl _,ZK rfl,trivial⟩ ⟨⟨by decide,_,rfl,.refl _⟩,⟨by decide,_,rfl,.refl _⟩,⟨by decide,_,rfl,.refl _⟩,⟨by decide,_,rfl,.refl _⟩,⟨by decide,_,rfl,Qa (fC _)⟩,trivial⟩,?_⟩
        repeat' first|refine And.intro ?_ ?_|(intro h;try first|exact dz|replace h:=cv)
        all_goals try exact cz
        refine⟨pmI ls n i B b2 f2 s c .nils nn j (.slice 5 0 (cs++[ck]).length 11 none) [(5,some (.cells ((cs++[ck]).map encC) false))],?_,?_⟩
        · repeat' first|refine And.intro ?_ ?_|(intro h;try first|exact dz|replace h:=cv)
          all_goals try exact cz
          --DRAW
          all_goals refine⟨[0],[.ptr 0 0 0,.int .i64 (ls.getD j default).kind],[(0,rrB B ar 0)],by first|rfl|kernel_rfl,⟨.refl _,.refl _,trivial⟩,⟨⟨by decide,_,rfl,.refl _⟩,trivial⟩,_,B,ar,0,ck,b2,f2,rfl,rfl,rfl,⟨hB,hrl⟩,q2,?_⟩
          repeat' first|refine And.intro ?_ ?_|(intro h;try first|exact dz|replace h:=cv)
          all_goals try exact cz
          all_goals(refine Exists.intro () ?_;first|exact XI (G:=4) (K:=8) (by first|rfl|kernel_rfl) rfl rfl rfl rfl rfl rfl rfl rfl rfl rfl rfl rfl rfl rfl (Xb _ _) (by simp)|exact XI (G:=4) (K:=9) (by first|rfl|kernel_rfl) rfl rfl rfl rfl rfl rfl rfl rfl rfl rfl rfl rfl rfl rfl (Xb _ _) (by simp)|exact XI (G:=4) (K:=7) (by first|rfl|kernel_rfl) rfl rfl rfl rfl rfl rfl rfl rfl rfl rfl rfl rfl rfl rfl (Xb _ _) (by simp)|exact XI (G:=4) (K:=10) (by first|rfl|kernel_rfl) rfl rfl rfl rfl rfl rfl rfl rfl rfl rfl rfl rfl rfl rfl (Xb _ _) (by simp))
        · repeat' first|refine And.intro ?_ ?_|(intro h;try first|exact dz|replace h:=cv)
          all_goals try exact cz
          exact⟨_,pmI ls n i B b2 f2 s c .nils nn (j+1) (.slice 5 0 (cs++[ck]).length 11 none) [(5,some (.cells ((cs++[ck]).map encC) false))],XI (G:=4) (K:=5) (by first|rfl|kernel_rfl) rfl rfl rfl rfl rfl rfl rfl rfl (by omega) rfl rfl rfl rfl rfl rfl rfl,⟨j+1,b2,f2,cs++[ck],⟨by omega,rfl,by simp<;>omega,m2,by rw[←hcs];exact hfr2⟩,.inl ⟨rfl,by simp⟩⟩,by omega⟩
      ·have hj0:(0:Nat)=j:=hcl
       repeat' first|refine And.intro ?_ ?_|(intro h;try first|exact dz|replace h:=cv)
       all_goals try exact cz
       refine⟨pmJ ls n i B ar 0 s c .nils nn j .nils [],Q0 [0,1,2,3,4,5] (by exact rfl) ⟨.refl _,.refl _,.refl _,.refl _,.refl _,.refl _,.refl _,.refl _,ZK rfl,trivial⟩ ⟨⟨by decide,_,rfl,.refl _⟩,⟨by decide,_,rfl,.refl _⟩,⟨by decide,_,rfl,.refl _⟩,⟨by decide,_,rfl,.refl _⟩,trivial⟩,?_⟩
       repeat' first|refine And.intro ?_ ?_|(intro h;try first|exact dz|replace h:=cv)
       all_goals try exact cz
       refine⟨pmI ls n i B b2 f2 s c .nils nn j (.slice 5 0 (([]:List Ck)++[ck]).length 11 none) [(5,some (.cells ((([]:List Ck)++[ck]).map encC) false))],?_,?_⟩
       · repeat' first|refine And.intro ?_ ?_|(intro h;try first|exact dz|replace h:=cv)
         all_goals try exact cz
         --DRAW
         all_goals refine⟨[0],[.ptr 0 0 0,.int .i64 (ls.getD j default).kind],[(0,rrB B ar 0)],by first|rfl|kernel_rfl,⟨.refl _,.refl _,trivial⟩,⟨⟨by decide,_,rfl,.refl _⟩,trivial⟩,_,B,ar,0,ck,b2,f2,rfl,rfl,rfl,⟨hB,hrl⟩,q2,?_⟩
         repeat' first|refine And.intro ?_ ?_|(intro h;try first|exact dz|replace h:=cv)
         all_goals try exact cz
         all_goals(refine Exists.intro () ?_;first|exact XI (G:=4) (K:=8) (by first|rfl|kernel_rfl) rfl rfl rfl rfl rfl rfl rfl rfl rfl rfl rfl rfl rfl rfl rfl (by simp)|exact XI (G:=4) (K:=9) (by first|rfl|kernel_rfl) rfl rfl rfl rfl rfl rfl rfl rfl rfl rfl rfl rfl rfl rfl rfl (by simp)|exact XI (G:=4) (K:=7) (by first|rfl|kernel_rfl) rfl rfl rfl rfl rfl rfl rfl rfl rfl rfl rfl rfl rfl rfl rfl (by simp)|exact XI (G:=4) (K:=10) (by first|rfl|kernel_rfl) rfl rfl rfl rfl rfl rfl rfl rfl rfl rfl rfl rfl rfl rfl rfl (by simp))
       · repeat' first|refine And.intro ?_ ?_|(intro h;try first|exact dz|replace h:=cv)
         all_goals try exact cz
         exact⟨_,pmI ls n i B b2 f2 s c .nils nn (j+1) (.slice 5 0 (([]:List Ck)++[ck]).length 11 none) [(5,some (.cells ((([]:List Ck)++[ck]).map encC) false))],XI (G:=4) (K:=5) (by first|rfl|kernel_rfl) rfl rfl rfl rfl rfl rfl rfl rfl (by omega) rfl rfl rfl rfl rfl rfl rfl,⟨j+1,b2,f2,([]:List Ck)++[ck],⟨by omega,rfl,by simp<;>omega,m2,by rw[←hcs];exact hfr2⟩,.inl ⟨rfl,by simp⟩⟩,by omega⟩
     ·have hfe:Y4 (Q5 ls) [] B b1 f1=(cs,ar,er):=by
       rw[←hfr2]
       by_cases h3:er=0
       ·have:(Q5 ls).drop j=[]:=List.drop_of_length_le (by simp;omega)
        rw[this];rfl
       ·exact Ji _ _ _ _ _ h3
      have hgr:G0 (Q5 ls) B aq 0=(⟨nn,cs⟩,ar,er):=(Qb q1).trans ((Qb hfe).trans rfl)
      have hgs:XA (Q5 ls) (n-i) ([]:List Rw) B aq 0=XA (Q5 ls) (n-(i+1)) (([]:List Rw)++[⟨nn,cs⟩]) B ar er:=by
       rw[hst]
       exact(VE ([]:List Rw) (Zl (G0 (Q5 ls)) fun q=>XA (Q5 ls) (n-(i+1)) (([]:List Rw)++[q])) B aq).trans (Qb hgr)
      have hbt:(if decide (j<ls.length)=true then decide (er=0)else false)=false:=by
       by_cases h3:j<ls.length
       ·rw[if_pos (decide_eq_true h3)];exact decide_eq_false (fun h4=>h2 ⟨h3,h4⟩)
       ·rw[if_neg (by rw[decide_eq_true_eq];exact h3)]
      rcases hs with⟨rfl,hc0⟩|⟨rfl,rfl⟩
      · repeat' first|refine And.intro ?_ ?_|(intro h;try first|exact dz|replace h:=cv)
        all_goals try exact cz
        all_goals refine⟨_,Ta hc0 (by first|rfl|kernel_rfl) rfl rfl rfl rfl rfl rfl rfl rfl (by first|rfl|exact decide_eq_false (show ¬er=0 by omega)) rfl rfl rfl rfl rfl,?_⟩
        all_goals(
         repeat' first|refine And.intro ?_ ?_|(intro h;try first|exact dz|replace h:=cv)
         all_goals try exact cz
         exact⟨_,pmS ls n (i+1) B ar er s c (.slice 3 0 (([]:List Rw)++[(⟨nn,cs⟩:Rw)]).length 2 none) [(3,some (.cells ((([]:List Rw)++[(⟨nn,cs⟩:Rw)]).map encR) false))],by first|exact Zy (K:=6) (by first|rfl|kernel_rfl) rfl rfl rfl rfl rfl rfl (by omega) rfl rfl rfl rfl rfl (by simp)|exact Zy (K:=7) (by first|rfl|kernel_rfl) rfl rfl rfl rfl rfl rfl (by omega) rfl rfl rfl rfl rfl (by simp)|exact Zy (K:=8) (by first|rfl|kernel_rfl) rfl rfl rfl rfl rfl rfl (by omega) rfl rfl rfl rfl rfl (by simp)|exact Zy (K:=9) (by first|rfl|kernel_rfl) rfl rfl rfl rfl rfl rfl (by omega) rfl rfl rfl rfl rfl (by simp)|exact Zy (K:=5) (by first|rfl|kernel_rfl) rfl rfl rfl rfl rfl rfl (by omega) rfl rfl rfl rfl rfl (by simp),⟨i+1,ar,er,([]:List Rw)++[⟨nn,cs⟩],⟨by omega,rfl,by simp<;>omega,hrl,by rw[←hgs];exact hfr⟩,.inl ⟨rfl,by simp⟩⟩,by omega⟩)
      · repeat' first|refine And.intro ?_ ?_|(intro h;try first|exact dz|replace h:=cv)
        all_goals try exact cz
        all_goals refine⟨pmG ls n i B ar er s c .nils nn [] [],Q0 [0,1,2,3,4,5] (by first|rfl|kernel_rfl) ⟨.refl _,.refl _,.refl _,.refl _,.refl _,.refl _,.refl _,ZK (by first|rfl|exact decide_eq_false (show ¬er=0 by omega)),trivial⟩ ⟨⟨by decide,_,rfl,.refl _⟩,⟨by decide,_,rfl,.refl _⟩,⟨by decide,_,rfl,.refl _⟩,⟨by decide,_,rfl,QE (row:=encR ⟨nn,[]⟩) ⟨.refl _,.zero _ _ rfl,trivial⟩⟩,trivial⟩,?_⟩
        all_goals(
         repeat' first|refine And.intro ?_ ?_|(intro h;try first|exact dz|replace h:=cv)
         all_goals try exact cz
         exact⟨_,pmS ls n (i+1) B ar er s c (.slice 3 0 (([]:List Rw)++[(⟨nn,([]:List Ck)⟩:Rw)]).length 2 none) [(3,some (.cells ((([]:List Rw)++[(⟨nn,([]:List Ck)⟩:Rw)]).map encR) false))],by first|exact Zy (K:=6) (by first|rfl|kernel_rfl) rfl rfl rfl rfl rfl rfl (by omega) rfl rfl rfl rfl rfl (by simp)|exact Zy (K:=7) (by first|rfl|kernel_rfl) rfl rfl rfl rfl rfl rfl (by omega) rfl rfl rfl rfl rfl (by simp)|exact Zy (K:=8) (by first|rfl|kernel_rfl) rfl rfl rfl rfl rfl rfl (by omega) rfl rfl rfl rfl rfl (by simp)|exact Zy (K:=9) (by first|rfl|kernel_rfl) rfl rfl rfl rfl rfl rfl (by omega) rfl rfl rfl rfl rfl (by simp)|exact Zy (K:=5) (by first|rfl|kernel_rfl) rfl rfl rfl rfl rfl rfl (by omega) rfl rfl rfl rfl rfl (by simp),⟨i+1,ar,er,([]:List Rw)++[⟨nn,([]:List Ck)⟩],⟨by omega,rfl,by simp<;>omega,hrl,by rw[←hgs];exact hfr⟩,.inl ⟨rfl,by simp⟩⟩,by omega⟩)
   ·have hfe:XA (Q5 ls) n [] B a3 e3=(gs,aq,eq):=by
     rw[←hfr]
     by_cases h2:eq=0
     ·have:n-i=0:=by omega
      rw[this];rfl
     ·exact Bt _ _ _ _ _ _ h2
    have htq:Zl (XA (Q5 ls) n []) (fun g=>U7 (⟨s,c,g⟩:Mt)) B a3 e3=(⟨s,c,gs⟩,aq,eq):=(Qb hfe).trans rfl
    rw[htq]at hp hwo
    dsimp only at hwo
    clear hfr hfe htq
    rcases hs with⟨rfl,hp0⟩|⟨rfl,rfl⟩
    rotate_left
    · repeat' first|refine And.intro ?_ ?_|(intro h;try first|exact dz|replace h:=cv)
      all_goals try exact cz
      all_goals refine⟨pmZ ls B aq eq ⟨s,c,[]⟩,Q0 [0,1,2,3] (by exact rfl) ⟨.refl _,.refl _,.refl _,.refl _,ZK (by first|rfl|exact decide_eq_false (show ¬eq=0 by omega)),trivial⟩ ⟨⟨by decide,_,rfl,.refl _⟩,⟨by decide,_,rfl,.refl _⟩,⟨by decide,_,rfl,QE (row:=Qv ⟨s,c,[]⟩) ⟨.un rfl,.refl _,.zero _ _ rfl,trivial⟩⟩,trivial⟩,?_⟩
      repeat' first|refine And.intro ?_ ?_|(intro h;try first|exact dz|replace h:=cv)
      all_goals try exact cz
      all_goals(
       refine⟨[0],[.ptr 0 0 0],[(0,rrB B aq eq)],by first|rfl|kernel_rfl,⟨.refl _,trivial⟩,⟨⟨by decide,_,rfl,.refl _⟩,trivial⟩,B,aq,eq,rfl,rfl,rfl,⟨hB,hql⟩,?_⟩
       by_cases he:eq=0
       ·subst he
        by_cases hl:aq<B.length
        ·rw[Kt hl]at hp
         rw[show WW B aq 0=9 from if_pos ⟨rfl,hl⟩]
         repeat' first|refine And.intro ?_ ?_|(intro h;try first|exact dz|replace h:=cv)
         all_goals try exact cz
         all_goals exact VX (row:=QK .nils 0 .nils) (m:=mt0) rfl rfl rfl ⟨.zero _ _ rfl,.refl _,.zero _ _ rfl,trivial⟩ (by first|rfl|kernel_rfl) hp rfl hP
        ·rw[G7 hl]at hp
         rw[show WW B aq 0=0 from if_neg (fun k=>hl k.2)]
         obtain hw|hw:ZL ⟨s,c,[]⟩=false∨ZL ⟨s,c,[]⟩=true:=by cases ZL ⟨s,c,[]⟩<;>simp
         ·rw[if_pos hw]at hp
          have hx1:=hw
          have hx2:=hw
          have hx3:=hw
          have hx4:=hw
          repeat' first|refine And.intro ?_ ?_|(intro h;try first|exact dzi|replace h:=cvi)
          all_goals try exact cz
          all_goals refine⟨⟨s,c,[]⟩,by rw[hls];rfl,hwo rfl,?_⟩
          repeat' first|refine And.intro ?_ ?_|(intro h;try first|exact dzi|replace h:=cvi)
          all_goals try exact cz
          all_goals exact VX (row:=QK .nils 0 .nils) (m:=mt0) rfl rfl rfl ⟨.zero _ _ rfl,.refl _,.zero _ _ rfl,trivial⟩ (by first|rfl|kernel_rfl) hp rfl hP
         ·rw[if_neg (by rw[hw];decide)]at hp
          have hx1:=hw
          have hx2:=hw
          have hx3:=hw
          have hx4:=hw
          repeat' first|refine And.intro ?_ ?_|(intro h;try first|exact dzi|replace h:=cvi)
          all_goals try exact cz
          all_goals refine⟨⟨s,c,[]⟩,by rw[hls];rfl,hwo rfl,?_⟩
          repeat' first|refine And.intro ?_ ?_|(intro h;try first|exact dzi|replace h:=cvi)
          all_goals try exact cz
          all_goals exact VX (row:=Qv ⟨s,c,[]⟩) (m:=⟨s,c,[]⟩) rfl rfl rfl ⟨.refl _,.refl _,.refl _,trivial⟩ (by first|rfl|kernel_rfl) hp rfl hP
       ·rw[G8 he]at hp
        rw[show WW B aq eq=eq from if_neg (fun k=>he k.1)]
        repeat' first|refine And.intro ?_ ?_|(intro h;try first|exact dz|replace h:=cv)
        all_goals try exact cz
        all_goals exact VX (row:=QK .nils 0 .nils) (m:=mt0) rfl rfl rfl ⟨.zero _ _ rfl,.refl _,.zero _ _ rfl,trivial⟩ (by first|rfl|kernel_rfl) hp rfl hP)
    · repeat' first|refine And.intro ?_ ?_|(intro h;try first|exact dz|replace h:=cv)
      all_goals try exact cz
      all_goals refine⟨_,Q0n hp0 (by exact rfl) rfl rfl rfl rfl rfl (by first|rfl|exact decide_eq_false (show ¬eq=0 by omega)) rfl rfl rfl rfl,?_⟩
      repeat' first|refine And.intro ?_ ?_|(intro h;try first|exact dz|replace h:=cv)
      all_goals try exact cz
      all_goals(
       refine⟨[0],[.ptr 0 0 0],[(0,rrB B aq eq)],by first|rfl|kernel_rfl,⟨.refl _,trivial⟩,⟨⟨by decide,_,rfl,.refl _⟩,trivial⟩,B,aq,eq,rfl,rfl,rfl,⟨hB,hql⟩,?_⟩
       by_cases he:eq=0
       ·subst he
        by_cases hl:aq<B.length
        ·rw[Kt hl]at hp
         rw[show WW B aq 0=9 from if_pos ⟨rfl,hl⟩]
         repeat' first|refine And.intro ?_ ?_|(intro h;try first|exact dz|replace h:=cv)
         all_goals try exact cz
         all_goals exact VX (row:=QK .nils 0 .nils) (m:=mt0) rfl rfl rfl ⟨.zero _ _ rfl,.refl _,.zero _ _ rfl,trivial⟩ (by first|rfl|kernel_rfl) hp rfl hP
        ·rw[G7 hl]at hp
         rw[show WW B aq 0=0 from if_neg (fun k=>hl k.2)]
         obtain hw|hw:ZL ⟨s,c,gs⟩=false∨ZL ⟨s,c,gs⟩=true:=by cases ZL ⟨s,c,gs⟩<;>simp
         ·rw[if_pos hw]at hp
          have hx1:=hw
          have hx2:=hw
          have hx3:=hw
          have hx4:=hw
          repeat' first|refine And.intro ?_ ?_|(intro h;try first|exact dzi|replace h:=cvi)
          all_goals try exact cz
          all_goals refine⟨⟨s,c,gs⟩,by rw[hls];rfl,hwo rfl,?_⟩
          repeat' first|refine And.intro ?_ ?_|(intro h;try first|exact dzi|replace h:=cvi)
          all_goals try exact cz
          all_goals exact VX (row:=QK .nils 0 .nils) (m:=mt0) rfl rfl rfl ⟨.zero _ _ rfl,.refl _,.zero _ _ rfl,trivial⟩ (by first|rfl|kernel_rfl) hp rfl hP
         ·rw[if_neg (by rw[hw];decide)]at hp
          have hx1:=hw
          have hx2:=hw
          have hx3:=hw
          have hx4:=hw
          repeat' first|refine And.intro ?_ ?_|(intro h;try first|exact dzi|replace h:=cvi)
          all_goals try exact cz
          all_goals refine⟨⟨s,c,gs⟩,by rw[hls];rfl,hwo rfl,?_⟩
          repeat' first|refine And.intro ?_ ?_|(intro h;try first|exact dzi|replace h:=cvi)
          all_goals try exact cz
          all_goals exact VX (row:=Qv ⟨s,c,gs⟩) (m:=⟨s,c,gs⟩) rfl rfl rfl ⟨.refl _,.refl _,.refl _,trivial⟩ (by first|rfl|kernel_rfl) hp rfl hP
       ·rw[G8 he]at hp
        rw[show WW B aq eq=eq from if_neg (fun k=>he k.1)]
        repeat' first|refine And.intro ?_ ?_|(intro h;try first|exact dz|replace h:=cv)
        all_goals try exact cz
        all_goals exact VX (row:=QK .nils 0 .nils) (m:=mt0) rfl rfl rfl ⟨.zero _ _ rfl,.refl _,.zero _ _ rfl,trivial⟩ (by first|rfl|kernel_rfl) hp rfl hP)
  ·rw[if_pos hz]at hp
   repeat' first|refine And.intro ?_ ?_|(intro h;try first|exact dz|replace h:=cv)
   all_goals try exact cz
   all_goals exact VX (row:=QK .nils 0 .nils) (m:=mt0) rfl rfl rfl ⟨.zero _ _ rfl,.refl _,.zero _ _ rfl,trivial⟩ (by first|rfl|kernel_rfl) hp rfl hP
 ·rw[if_pos h1]at hp
  repeat' first|refine And.intro ?_ ?_|(intro h;try first|exact dz|replace h:=cv)
  all_goals try exact cz
  have hx1:=h1
  have hx2:=h1
  have hx3:=h1
  have hx4:=h1
  refine⟨fpZ (e1),?_,?_⟩
  · repeat' first|refine And.intro ?_ ?_|(intro h;try first|exact Z8|replace h:=Z9)
    all_goals try exact cz
    all_goals exact Exists.intro () (J5 rfl rfl rfl rfl (by exact rfl))
  ·exact G4 (row:=Qv mt0) (m:=mt0) rfl rfl rfl ⟨.refl _,.refl _,.refl _,trivial⟩ (by exact rfl) hp (by exact rfl) hP
def Eo:SpecT:=fun args H nx Post=>∃b,args=[vB b]∧H=[]∧nx=0∧b.length≤1000000∧Post (.tup [.agg (Qv (YD b).1),.int .i64 (YD b).2]) [] 2
theorem Cm[Syms]:Eo.ok Try.prog 16:=by
 rintro args H nx Post ⟨b,rfl,rfl,rfl,h1,h⟩
 exact XF.forget (Qj Qf Qg Q3 Q00 Qw (Q0h b h1 _ (EP b).symm h))
end
section
set_option maxRecDepth 100000
set_option maxHeartbeats 4000000
abbrev cLr[Syms]:CallT:=Q6 10 (X0 S_known19) (Q6 11 (X0 S_makeM) (Q6 13 (B8 G_wi) (Q6 14 (X0 S_turned) (Q6 12 (U8 S_rfbytes) (Q6 15 (rebT (Q6 15 (QG FW) Q7)) (Q6 16 (QG Eo) (Q6 17 (X0 S_mtSame) Q7)))))))
theorem Q03[Syms]:cLr.ok Try.prog:=Qh EY (Qh O6 (VS GV (Qh Da (Wu MG (Xn (R6 (Q4 DF Q9)) (Q4 Cm (Qh T1 Q9)))))))
abbrev dLr[Syms]:CallT:=Q6 13 (B8 G_wi) (Q6 14 (X0 S_turned) (Q6 12 (U8 S_rfbytes) Q7))
theorem RI[Syms]:dLr.det Try.prog:=VA GV (Zz Da (Xc MG Q3))
noncomputable def plLr:Nat→Nat→Pl:=XD [(3,6),(3,12),(3,14),(3,18),(3,19)] (Qz plt)
def lr6(a:List Int)(y:List UInt8)(cut w n:Int)(raw b:List UInt8)(m:Mt):St:=⟨[(3,vI a),(4,vB y),(5,.int .i64 cut),(6,.int .i64 w),(7,.int .i64 n),(8,vB raw),(19,.vp (Qv m) 0),(20,vB b)],[],0⟩
def lrS(a:List Int)(y:List UInt8)(cut w n:Int)(raw b:List UInt8)(m:Mt)(B:List UInt8)(i:Nat):St:=⟨[(3,vI a),(4,vB y),(5,.int .i64 cut),(6,.int .i64 w),(7,.int .i64 n),(8,vB raw),(19,.vp (Qv m) 0),(20,vB b),(21,.slice 0 0 b.length 1 none),(22,.int .i64 i)],[(0,some (.cells (B.map encB) false))],1⟩
theorem lr_a[Syms]{N nx K len:Nat}{e:Env}{H:Heap}{a:List Int}{y:List UInt8}{cut w n:Int}{raw b:List UInt8}{m:Mt}{rows:List (List AVal)}{cap:Option Nat}(h3:e.get 3=vI a)(h4:e.get 4=vB y)(h5:e.get 5= .int .i64 cut)(h6:e.get 6= .int .i64 w)(h7:e.get 7= .int .i64 n)(h8:e.get 8=vB raw)(h19:e.get 19= .ptr 0 0 0)(h20:e.get 20= .slice K 0 len 1 cap)
 (hK:K≠0) (H0:H.get 0=some (.cells [Qv m] false)) (HK:H.get K=some (.cells rows false)) (hr:rows=b.map encB) (hl:len=b.length):Reb 0 N ⟨e,H,nx⟩ (lr6 a y cut w n raw b m):=by
 subst hr hl
 have r1:Reb 0 N ⟨e,H,nx⟩ ⟨[(3,vI a),(4,vB y),(5,.int .i64 cut),(6,.int .i64 w),(7,.int .i64 n),(8,vB raw),(19,.vp (Qv m) 0),(20,.slice K 0 b.length 1 cap)],[(K,some (.cells (b.map encB) false))],nx⟩:=by
  refine QH (n:=0) (rows:=[Qv m]) H0 (ZM (eM m) QL) ⟨?_,?_,?_,?_,?_,?_,?_,?_,trivial⟩ ⟨⟨hK,_,HK,.same _⟩,trivial⟩
  ·rw[h3];exact .same _
  ·rw[h4];exact .same _
  ·rw[h5];exact .same _
  ·rw[h6];exact .same _
  ·rw[h7];exact .same _
  ·rw[h8];exact .same _
  ·rw[h19];exact .pt 0 0 (Qv m) (Qv m) rfl ⟨.same _,.same _,.same _,trivial⟩
  ·rw[h20];exact .same _
 refine r1.trans ((Xy (k:=20) (n:=K) (enc:=encB) 0 (l:=b) [(3,vI a),(4,vB y),(5,.int .i64 cut),(6,.int .i64 w),(7,.int .i64 n),(8,vB raw),(19,.vp (Qv m) 0)] [] rfl (by rw[Heap.get_cons,Nat.beq_refl];rfl) (fB b) (List.take_of_length_le (by simp)) (by simp) (fun p hp=>?_) (fun n c h=>by rw[Heap.get_nil]at h;cases h)).trans (Q1 [3,4,5,6,7,8,19,20] rfl))
 simp only[List.mem_cons,List.not_mem_nil,or_false]at hp
 rcases hp with rfl|rfl|rfl|rfl|rfl|rfl|rfl<;>exact⟨Nat.ne_of_beq_eq_false rfl,rfl⟩
theorem wr8c(x:Int):∃c:UInt8,wr .u8 x=(c.toNat:Nat):=by
 have h:0≤wr .u8 x∧wr .u8 x≤255:=by
  unfold wr
  split
  ·rename_i h;exact h
  ·have e:IntKind.wrap .u8 x=x%256:=rfl
   rw[e]
   omega
 refine⟨UInt8.ofNat (wr .u8 x).toNat,?_⟩
 rw[UInt8.toNat_ofNat']
 omega
theorem C1{x y:AVal}(h:WkV x y):[y].length=[x].length∧ ∀(j:Nat) (a b:AVal),[x][j]?=some a→[y][j]?=some b→WkV a b:=⟨rfl,fun j a b h1 h2=>by
 cases j with
 |zero=>cases h1;cases h2;exact h
 |succ j=>simp at h1⟩
abbrev U9(x:List UInt8):List AVal:=[.vs 1 (x.map encB)]
theorem fY(l:List (List UInt8)):Qp (l.map U9):=XV (fun a x hx=>by simp[U9]at hx;subst hx;rfl) l
abbrev vY(l:List (List UInt8)):AVal:=vT 1 U9 [] l
theorem M4[Syms]{N nx T D A C kd la lc:Nat}{cT c1 c2 c3:Option Nat}{e:Env}{H:Heap}{B a raw c:List UInt8}{rT rA rC:List (List AVal)}(h23:e.get 23= .slice T 0 4 1 cT)(HT:H.get T=some (.cells rT false))(hT:rT=[[.slice D 0 kd 1 c1],[.slice A 0 la 1 c2],[vB raw],[.slice C 0 lc 1 c3]])(HD:H.get D=some (.cells (B.map encB) false))(HA:H.get A=some (.cells rA false))(HC:H.get C=some (.cells rC false))
 (hA:rA=a.map encB) (hC:rC=c.map encB) (hkd:kd≤B.length) (hla:la=a.length) (hlc:lc=c.length) (ha0:0<a.length) (hc0:0<c.length) (hn:QJ 0 nx [T,D,A,C]=true):Reb 0 N ⟨e,H,nx⟩ ⟨[(23,vY [B.take kd,a,raw,c])],[],0⟩:=by
 subst hT hA hC hla hlc
 have rest:∀r0:List AVal,(r0=[.slice 1 0 kd 1 none]∧0<kd∨r0=[.vs 1 []]∧kd=0)→Reb 0 N ⟨[(23,.slice 0 0 4 1 none)],[(0,some (.cells [r0,[.slice 2 0 a.length 1 none],[.vs 1 (raw.map encB)],[.slice 3 0 c.length 1 none]] false)),(1,some (.cells (B.map encB) false)),(2,some (.cells (a.map encB) false)),(3,some (.cells (c.map encB) false))],4⟩ ⟨[(23,vY [B.take kd,a,raw,c])],[],0⟩:=by
  intro r0 h0
  have ea:FzV 2 (a.map encB) (.slice 2 0 a.length 1 none) (.vs 1 (a.map encB)):=by
   have:=FzV.sl (n:=2) (rows:=a.map encB) 0 a.length 1 none ha0 (by simp)
   rwa [Ug (by simp)]at this
  have ec:FzV 3 (c.map encB) (.slice 3 0 c.length 1 none) (.vs 1 (c.map encB)):=by
   have:=FzV.sl (n:=3) (rows:=c.map encB) 0 c.length 1 none hc0 (by simp)
   rwa [Ug (by simp)]at this
  have r1:Reb 0 N ⟨[(23,.slice 0 0 4 1 none)],[(0,some (.cells [r0,[.slice 2 0 a.length 1 none],[.vs 1 (raw.map encB)],[.slice 3 0 c.length 1 none]] false)),(1,some (.cells (B.map encB) false)),(2,some (.cells (a.map encB) false)),(3,some (.cells (c.map encB) false))],4⟩ ⟨[(23,.slice 0 0 4 1 none)],[(0,some (.cells [U9 (B.take kd),[.slice 2 0 a.length 1 none],[.vs 1 (raw.map encB)],[.slice 3 0 c.length 1 none]] false)),(2,some (.cells (a.map encB) false)),(3,some (.cells (c.map encB) false))],4⟩:=by
   rcases h0 with⟨rfl,hk⟩|⟨rfl,rfl⟩
   ·have ed:FzV 1 (B.map encB) (.slice 1 0 kd 1 none) (.vs 1 ((B.take kd).map encB)):=by
     have:=FzV.sl (n:=1) (rows:=B.map encB) 0 kd 1 none hk (by simpa using hkd)
     rwa [List.drop_zero,←List.map_take]at this
    refine QH (n:=1) rfl (fB B) ⟨.same _,trivial⟩ ⟨⟨by decide,_,rfl,.cells _ _ false rfl (fun j r r' h h'=>?_)⟩,⟨by decide,_,rfl,.same _⟩,⟨by decide,_,rfl,.same _⟩,trivial⟩
    match j,h,h' with
    |0,h,h'=>cases h;cases h';exact⟨ed,trivial⟩
    |1,h,h'=>cases h;cases h';exact XU _
    |2,h,h'=>cases h;cases h';exact XU _
    |3,h,h'=>cases h;cases h';exact XU _
   ·exact Wt (fun j=>.inr rfl) (fun n b h=>by
     rw[Heap.get_cons]at h ⊢
     by_cases h0:n=0
     ·subst h0;exact h
     ·rw[QP h0]at h ⊢
      rw[cond_false,Heap.get_cons]at h ⊢
      by_cases h1:n=1
      ·subst h1;cases h
      ·rw[QP h1,cond_false]
       rw[Heap.get_cons];exact h)
  have r2:Reb 0 N ⟨[(23,.slice 0 0 4 1 none)],[(0,some (.cells [U9 (B.take kd),[.slice 2 0 a.length 1 none],[.vs 1 (raw.map encB)],[.slice 3 0 c.length 1 none]] false)),(2,some (.cells (a.map encB) false)),(3,some (.cells (c.map encB) false))],4⟩ ⟨[(23,.slice 0 0 4 1 none)],[(0,some (.cells [U9 (B.take kd),U9 a,[.vs 1 (raw.map encB)],[.slice 3 0 c.length 1 none]] false)),(3,some (.cells (c.map encB) false))],4⟩:=by
   refine QH (n:=2) rfl (fB a) ⟨.same _,trivial⟩ ⟨⟨by decide,_,rfl,.cells _ _ false rfl (fun j r r' h h'=>?_)⟩,⟨by decide,_,rfl,.same _⟩,trivial⟩
   match j,h,h' with
   |0,h,h'=>cases h;cases h';exact XU _
   |1,h,h'=>cases h;cases h';exact⟨ea,trivial⟩
   |2,h,h'=>cases h;cases h';exact XU _
   |3,h,h'=>cases h;cases h';exact XU _
  have r3:Reb 0 N ⟨[(23,.slice 0 0 4 1 none)],[(0,some (.cells [U9 (B.take kd),U9 a,[.vs 1 (raw.map encB)],[.slice 3 0 c.length 1 none]] false)),(3,some (.cells (c.map encB) false))],4⟩ ⟨[(23,.slice 0 0 4 1 none)],[(0,some (.cells [U9 (B.take kd),U9 a,U9 raw,U9 c] false))],4⟩:=by
   refine QH (n:=3) rfl (fB c) ⟨.same _,trivial⟩ ⟨⟨by decide,_,rfl,.cells _ _ false rfl (fun j r r' h h'=>?_)⟩,trivial⟩
   match j,h,h' with
   |0,h,h'=>cases h;cases h';exact XU _
   |1,h,h'=>cases h;cases h';exact XU _
   |2,h,h'=>cases h;cases h';exact XU _
   |3,h,h'=>cases h;cases h';exact⟨ec,trivial⟩
  exact r1.trans (r2.trans (r3.trans ((YS (k:=23) (sz:=1) (enc:=U9) [] (rows:=[U9 (B.take kd),U9 a,U9 raw,U9 c]) (l:=[B.take kd,a,raw,c]) (len:=4) rfl rfl (fY [B.take kd,a,raw,c]) rfl (Nat.le_refl 4)).trans (Q1 [23] rfl))))
 by_cases hk:kd=0
 ·refine(Q0 (e3:=[(23,.slice 0 0 4 1 none)]) (H3:=[(0,some (.cells [[.vs 1 []],[.slice 2 0 a.length 1 none],[.vs 1 (raw.map encB)],[.slice 3 0 c.length 1 none]] false)),(1,some (.cells (B.map encB) false)),(2,some (.cells (a.map encB) false)),(3,some (.cells (c.map encB) false))]) [T,D,A,C] hn ⟨by rw[h23];exact .cap _ _ _ _ _,trivial⟩ ⟨⟨show 0<4 by decide,.cells [[.slice D 0 kd 1 c1],[.slice A 0 a.length 1 c2],[vB raw],[.slice C 0 c.length 1 c3]] false,HT,.each _ _ _ rfl (fun j r r' h h'=>?_)⟩,⟨show 1<4 by decide,_,HD,Qa (fB _)⟩,⟨show 2<4 by decide,_,HA,Qa (fB _)⟩,⟨show 3<4 by decide,_,HC,Qa (fB _)⟩,trivial⟩).trans (rest _ (.inr ⟨rfl,hk⟩))
  match j,h,h' with
  |0,h,h'=>cases h;cases h';exact C1 (.zero _ _ (by rw[hk];rfl))
  |1,h,h'=>cases h;cases h';exact C1 (.cap _ _ _ _ _)
  |2,h,h'=>cases h;cases h';exact C1 (.un rfl)
  |3,h,h'=>cases h;cases h';exact C1 (.cap _ _ _ _ _)
 ·refine(Q0 (e3:=[(23,.slice 0 0 4 1 none)]) (H3:=[(0,some (.cells [[.slice 1 0 kd 1 none],[.slice 2 0 a.length 1 none],[.vs 1 (raw.map encB)],[.slice 3 0 c.length 1 none]] false)),(1,some (.cells (B.map encB) false)),(2,some (.cells (a.map encB) false)),(3,some (.cells (c.map encB) false))]) [T,D,A,C] hn ⟨by rw[h23];exact .cap _ _ _ _ _,trivial⟩ ⟨⟨show 0<4 by decide,.cells [[.slice D 0 kd 1 c1],[.slice A 0 a.length 1 c2],[vB raw],[.slice C 0 c.length 1 c3]] false,HT,.each _ _ _ rfl (fun j r r' h h'=>?_)⟩,⟨show 1<4 by decide,_,HD,Qa (fB _)⟩,⟨show 2<4 by decide,_,HA,Qa (fB _)⟩,⟨show 3<4 by decide,_,HC,Qa (fB _)⟩,trivial⟩).trans (rest _ (.inl ⟨rfl,by omega⟩))
  match j,h,h' with
  |0,h,h'=>cases h;cases h';exact C1 (.cap _ _ _ _ _)
  |1,h,h'=>cases h;cases h';exact C1 (.cap _ _ _ _ _)
  |2,h,h'=>cases h;cases h';exact C1 (.un rfl)
  |3,h,h'=>cases h;cases h';exact C1 (.cap _ _ _ _ _)
theorem MO[Syms]{nx n len:Nat}{c:Option Nat}{H H3:Heap}{rows:List (List AVal)}{b:List UInt8}(hb:H.get n=some (.cells rows false))(hr:rows=b.map encB)(hl:len=b.length)(hp:0<b.length)(hh:FzH n (b.map encB) H H3):
 Reb nx 0 ⟨Vj 0 [.slice n 0 len 1 c],H,nx⟩ ⟨Vj 0 [.vs 1 (b.map encB)],H3,nx⟩:=by
 subst hr hl
 refine ND hb (fB b) ⟨?_,trivial⟩ hh
 have:=FzV.sl (n:=n) (rows:=b.map encB) 0 b.length 1 c hp (by simp)
 rwa [List.drop_zero,List.take_of_length_le (by simp)]at this
theorem MP[Syms]{nx n:Nat}{c:Option Nat}{H:Heap}:Reb nx 0 ⟨Vj 0 [.slice n 0 0 1 c],H,nx⟩ ⟨Vj 0 [vB []],H,nx⟩:=
 (Xm (k:=0) (y:=vB []) fun ι v hv=>.vt _ _ _ _ (RelV.isZ (sz:=1) rfl hv)).trans (Wt (fun j=>by
   show Env.get [(0,vB [])] j= .any∨_
   by_cases hj:j=0
   ·subst hj;exact .inr rfl
   ·rw[Env.get_cons,QP hj];exact .inl (Env.get_nil j)) (fun n b h=>h))
theorem I1(x:List UInt8):MtS (YD x).1:=by
 have hok:=CE ⟨x,0⟩
 have key:MtS (W5 ⟨x,0⟩).1:=by
  obtain⟨h1,h2,h3⟩:=hok
  have h4:=h1.len
  have h5:(Qt (W5 ⟨x,0⟩).1.s).length≤(W5 ⟨x,0⟩).1.s.length:=Zf _ _ _
  refine⟨by omega,by omega,fun g hg=>?_⟩
  obtain⟨k1,k2,k3⟩:=h3 g hg
  exact⟨by omega,fun c hc=>by have:=(k3 c hc).2;omega⟩
 show MtS (Gy (W5 ⟨x,0⟩)).1
 generalize W5 ⟨x,0⟩=q at *
 have key2:∀r2:BR,MtS (if r2.e≠0 then(mt0,r2.e)else(q.1,0)).1:=fun r2=>by
  split
  ·exact⟨Nat.zero_le _,Nat.zero_le _,fun g hg=>nomatch hg⟩
  ·exact key
 exact key2 _
def CH(L:List (List UInt8))(i:Nat):St:=⟨[(23,vY L),(24,.int .i64 i)],[],0⟩
def Rn(L:List (List UInt8))(i:Nat)(p:Mt×Int):St:=⟨[(23,vY L),(24,.int .i64 i),(25,.ptr 0 0 0),(26,.int .i64 p.2)],[(0,some (.cells [Qv p.1] false))],1⟩
def Rm(L:List (List UInt8))(i:Nat)(p:Mt×Int):St:=⟨[(23,vY L),(24,.int .i64 i),(25,.ptr 0 0 0),(26,.int .i64 p.2),(27,.ptr 2 0 0),(28,.int .i64 p.2)],[(0,some (.cells [Qv p.1] false)),(2,some (.cells [Qv p.1] false))],3⟩
def lr12(cut w n:Int)(raw b:List UInt8)(m:Mt)(B:List UInt8)(t:Bool):St:=⟨[(5,.int .i64 cut),(6,.int .i64 w),(7,.int .i64 n),(8,vB raw),(19,.vp (Qv m) 0),(20,vB b),(21,.slice 0 0 b.length 1 none),(77,.bool t)],[(0,some (.cells (B.map encB) false))],1⟩
theorem Bc(b:List UInt8):Yo 1 (Zq b.length fun i=>encB (b.getD i 0))=true:=by rw[Zx encB 0 b];exact Z0 (enc:=encB) (z:=1) (fun _=>rfl) b
theorem O8[Syms](ns gs:List Int)(l:List Vl)(a:List Int)(y:List UInt8)(cut w n:Int)(raw:List UInt8)(hn:ns.length≤9223372036854775807)(hgl:gs.length≤9223372036854775807)(hll:l.length≤9223372036854775807)(hg:∀g∈gs,I64 g)(hl:∀v∈l,I64 v.n)(ha:a.length≤9223372036854775807)(hy:y.length≤9223372036854775807)(hwi:I64 w)(hni:I64 n)(hcut:I64 cut):
 fnT dLr cLr (Qx fns) (Qo tys) plLr 100 3 [vI ns,vI gs,vV l,vI a,vB y,.int .i64 cut,.int .i64 w,.int .i64 n,vB raw] [] 0 (fun v H _=>v= .bool true∧H=[]):=by
 by_cases hraw:200<raw.length
 · repeat' first|refine And.intro ?_ ?_|(intro h;try first|exact dz|replace h:=cv)
   all_goals try exact cz
   exact⟨_,Q1 [18] rfl,_,rfl,rfl,rfl⟩
 have ht:=EW ns gs hl
 have hb:=Id ns gs hl
 have hq:=KX ns gs hl
 have hlen:=Rl ns gs hl
 repeat' first|refine And.intro ?_ ?_|(intro h;try first|exact dz|replace h:=cv)
 all_goals try exact cz
 refine⟨ns,gs,l,rfl,⟨hn,hgl,hll,hg⟩,?_⟩
 generalize Yt ns gs l=m at *
 have hgc:∀g∈m.groups,g.chunks.length=(Qt m.s).length:=fun g hgm=>((hq.groups g hgm).len).trans (List.length_map ..)
 have hcall:∀K:List UInt8→Prop,K (mtB m)→S_rfbytes [.agg (Qv m)] K:=fun K hk=>⟨m,rfl,⟨hb,hgc,by omega⟩,hk⟩
 have hl4:=Pt ht (wi w 9) (wi n 9)
 have hcall2:∀K:List UInt8→Prop,K (mtB (Ya (wi w 9) (wi n 9) m))→S_rfbytes [.agg (Qv (Ya (wi w 9) (wi n 9) m))] K:=fun K hk=>⟨Ya (wi w 9) (wi n 9) m,rfl,⟨Pv ht (Y8 (by decide)),Pu ht _ _,by omega⟩,hk⟩
 have hpos:0<(mtB m).length:=by
  have h2:0<(Y9 (sbF m.s).length).length:=MS 9 (sbF m.s).length
  unfold mtB
  rw[nuB,nuB,List.append_nil,Int.toNat_natCast]
  simp only[List.length_append];omega
 have hpos4:0<(mtB (Ya (wi w 9) (wi n 9) m)).length:=by
  have h2:0<(Y9 (sbF (Ya (wi w 9) (wi n 9) m).s).length).length:=MS 9 (sbF (Ya (wi w 9) (wi n 9) m).s).length
  unfold mtB
  rw[nuB,nuB,List.append_nil,Int.toNat_natCast]
  simp only[List.length_append];omega
 generalize mtB (Ya (wi w 9) (wi n 9) m)=t4 at *
 generalize mtB m=b at *
 repeat' first|refine And.intro ?_ ?_|(intro h;try first|exact dz|replace h:=cv)
 all_goals try exact cz
 refine⟨[.agg (Qv m)],⟨.imm _ rfl,trivial⟩,?_⟩
 refine hcall _ ?_
 repeat' first|refine And.intro ?_ ?_|(intro h;try first|exact dz|replace h:=cv)
 all_goals try exact cz
 refine⟨lr6 a y cut w n raw b m,by first|exact lr_a (K:=2) rfl rfl rfl rfl rfl rfl rfl rfl (by decide) rfl rfl rfl rfl|exact lr_a (K:=1) rfl rfl rfl rfl rfl rfl rfl rfl (by decide) rfl rfl rfl rfl,?_⟩
 repeat' first|refine And.intro ?_ ?_|(intro h;try first|exact dz|replace h:=cv)
 all_goals try exact cz
 ·rw[Zx encB 0 b];exact Z0 (enc:=encB) (z:=1) (fun _=>rfl) b
 ·show(0+(Zq b.length fun i=>encB (b.getD i 0)).length)*1≤_;rw[Ql];omega
 ·show 0+(Zq b.length fun i=>encB (b.getD i 0)).length≤_;rw[Ql];omega
 ·rw[Ql]at h;omega
 refine⟨fun q st=>∃(i:Nat) (B:List UInt8),(i≤3∧q=3-i∧B.length=b.length)∧st=lrS a y cut w n raw b m B i,⟨_,lrS a y cut w n raw b m b 0,Q0 [1] (by exact rfl) ⟨.refl _,.refl _,.refl _,.refl _,.refl _,.refl _,.refl _,.refl _,Q8 (by rw[Ql,Nat.zero_add]),.refl _,trivial⟩ ⟨⟨by decide,_,rfl,Q2 (Zx encB 0 b) (fB b)⟩,trivial⟩,0,b,⟨by omega,rfl,rfl⟩,rfl⟩,?_⟩
 rintro q st ⟨i,B,⟨hi,rfl,hBl⟩,rfl⟩
 have hBm:(B.map encB).length=b.length:=by rw[List.length_map];exact hBl
 by_cases hin:i<a.length∧i<y.length∧i<3
 · repeat' first|refine And.intro ?_ ?_|(intro h;try first|exact dz|replace h:=cv)
   all_goals try exact cz
   refine⟨a.getD i 0,b.length,rfl,by omega,?_⟩
   obtain⟨hw1,hw2⟩:=Y8 (a:=a.getD i 0) (n:=(b.length:Int)) (by omega)
   obtain⟨k,hk⟩:=Int.eq_ofNat_of_zero_le hw1
   rw[hk]at hw2 ⊢
   clear hw1 hk
   have hkt:k<b.length:=by omega
   repeat' first|refine And.intro ?_ ?_|(intro h;try first|exact dz|replace h:=cv)
   all_goals try exact cz
   ·show isC _ _ (((B.map encB).getD (0+k) []).getD 0 .any)=true
    rw[Nat.zero_add,Xx encB 0 (by omega)];rfl
   ·show 0+1≤((B.map encB).getD (0+k) []).length
    rw[Nat.zero_add k,Xx encB 0 (by omega)];exact Nat.le_refl 1
   ·obtain⟨c,hc⟩:=wr8c ((((B.getD k 0).toNat:Nat):Int)+(((y.getD i 0).toNat:Nat):Int))
    refine⟨_,lrS a y cut w n raw b m (B.set k c) (i+1),Q0 [0] (by first|rfl|kernel_rfl) ⟨.refl _,.refl _,.refl _,.refl _,.refl _,.refl _,.refl _,.refl _,.refl _,Qm (by omega),trivial⟩ ⟨⟨by decide,_,rfl,Q2 ?_ (fB _)⟩,trivial⟩,⟨i+1,B.set k c,⟨by omega,rfl,by rw[List.length_set];exact hBl⟩,rfl⟩,by omega⟩
    show(B.map encB).set (0+k) (QI ((B.map encB).getD (0+k) []) 0 [.int .u8 (wr .u8 (asI (((B.map encB).getD (0+k) []).getD 0 .any)+(((y.getD i 0).toNat:Nat):Int)))])=_
    rw[Nat.zero_add,Xx encB 0 (by omega),List.map_set]
    show(B.map encB).set k [.int .u8 (wr .u8 ((((B.getD k 0).toNat:Nat):Int)+(((y.getD i 0).toNat:Nat):Int)))]=_
    rw[hc];rfl
 · repeat' first|refine And.intro ?_ ?_|(intro h;try first|exact dz|replace h:=cv)
   all_goals try exact cz
   all_goals(
    by_cases hc:cut.tmod 3=1
    ·refine⟨lr12 cut w n raw b m B true,Q0 [0] (by exact rfl) ⟨.refl _,.refl _,.refl _,.refl _,.refl _,.refl _,.refl _,ZG (decide_eq_true hc),trivial⟩ ⟨⟨by decide,_,rfl,Qa (fB _)⟩,trivial⟩,?_⟩
     clear hc
     repeat' first|refine And.intro ?_ ?_|(intro h;try first|exact dz|replace h:=cv)
     all_goals try exact cz
     refine⟨wr .i64 (cut.tdiv 3),(b.length:Int)+1,rfl,by omega,?_⟩
     obtain⟨hw1,hw2⟩:=Y8 (a:=wr .i64 (cut.tdiv 3)) (n:=(b.length:Int)+1) (by omega)
     obtain⟨L,hk⟩:=Int.eq_ofNat_of_zero_le hw1
     rw[hk]at hw2 ⊢
     clear hw1 hk
     have hL:L≤b.length:=by omega
     have hx1:=@Ql
     have hx2:=@Ql
     have hx3:=@Ql
     have hx4:=@Ql
     repeat' first|refine And.intro ?_ ?_|(intro h;try first|exact dzi|replace h:=cvi)
     all_goals try exact cz
     refine⟨⟨[(23,vY [B.take L,b++raw,raw,t4])],[],0⟩,?_,?_⟩
     ·by_cases hr0:raw.length=0
      ·have hrn:raw=[]:=List.eq_nil_of_length_eq_zero hr0
       repeat' first|refine And.intro ?_ ?_|(intro h;try first|exact dzi|replace h:=cvi)
       all_goals try exact cz
       all_goals(try exact Bc _)
       all_goals(try((with_reducible show(_:Nat)≤_);first|(simp only[Ql];omega)|(simp only[List.length_append,List.take_zero,List.length_nil,Ql];omega)))
       all_goals refine⟨m,w,n,rfl,⟨ht,hwi,hni⟩,?_⟩
       repeat' first|refine And.intro ?_ ?_|(intro h;try first|exact dzi|replace h:=cvi)
       all_goals try exact cz
       all_goals refine⟨[.agg (Qv (Ya (wi w 9) (wi n 9) m))],⟨.imm _ rfl,trivial⟩,?_⟩
       all_goals refine hcall2 _ ?_
       repeat' first|refine And.intro ?_ ?_|(intro h;try first|exact dzi|replace h:=cvi)
       all_goals try exact cz
       all_goals exact Exists.intro () (M4 rfl rfl rfl rfl rfl rfl (by show Zq b.length (fun i=>encB (b.getD i 0))=_;rw[Zx encB 0 b,hrn,List.append_nil]) rfl (by show _≤B.length;omega) (by show 0+(Zq b.length (fun i=>encB (b.getD i 0))).length=_;rw[Ql,hrn,List.append_nil,Nat.zero_add]) rfl (by rw[List.length_append];omega) hpos4 (by first|rfl|kernel_rfl))
      ·skip
       repeat' first|refine And.intro ?_ ?_|(intro h;try first|exact dzi|replace h:=cvi)
       all_goals try exact cz
       all_goals(try exact Bc _)
       all_goals(try((with_reducible show(_:Nat)≤_);first|(simp only[Ql];omega)|(simp only[List.length_append,List.take_zero,List.length_nil,Ql];omega)))
       all_goals refine⟨m,w,n,rfl,⟨ht,hwi,hni⟩,?_⟩
       repeat' first|refine And.intro ?_ ?_|(intro h;try first|exact dzi|replace h:=cvi)
       all_goals try exact cz
       all_goals refine⟨[.agg (Qv (Ya (wi w 9) (wi n 9) m))],⟨.imm _ rfl,trivial⟩,?_⟩
       all_goals refine hcall2 _ ?_
       repeat' first|refine And.intro ?_ ?_|(intro h;try first|exact dzi|replace h:=cvi)
       all_goals try exact cz
       all_goals exact Exists.intro () (M4 rfl rfl rfl rfl rfl rfl (by show List.take (0+(Zq b.length (fun i=>encB (b.getD i 0))).length) (List.drop 0 (Zq b.length (fun i=>encB (b.getD i 0))))++Zq raw.length (fun i=>encB (raw.getD i 0))=_;rw[Zx encB 0 b,Zx encB 0 raw,List.drop_zero,List.take_of_length_le (by simp),List.map_append]) rfl (by show _≤B.length;omega) (by show 0+(Zq b.length (fun i=>encB (b.getD i 0))).length+(Zq raw.length (fun i=>encB (raw.getD i 0))).length=_;rw[Ql,Ql,List.length_append,Nat.zero_add]) rfl (by rw[List.length_append];omega) hpos4 (by first|rfl|kernel_rfl))
     ·skip
      have hL:∀x∈[B.take L,b++raw,raw,t4],x.length≤1000000:=by
       intro x hx
       simp only[List.mem_cons,List.not_mem_nil,or_false]at hx
       rcases hx with rfl|rfl|rfl|rfl
       ·rw[List.length_take];omega
       ·rw[List.length_append];omega
       ·omega
       ·omega
      clear hx1 hx2 hx3 hx4 hcall hcall2 ht hb hq hgc
      have hLl:[B.take L,b++raw,raw,t4].length=4:=rfl
      generalize[B.take L,b++raw,raw,t4]=L4 at *
      refine⟨fun q st=>∃i:Nat,(i≤4∧q=4-i)∧st=CH L4 i,⟨_,CH L4 0,Q0 [] (by exact rfl) ⟨.refl _,.refl _,trivial⟩ trivial,0,⟨by omega,rfl⟩,rfl⟩,?_⟩
      clear hBl hBm hin
      rintro q st ⟨i,⟨hi4,rfl⟩,rfl⟩
      by_cases hi:i<4
      ·have hbd:=hL (L4.getD i []) (by rw[List.getD_eq_getElem?_getD,List.getElem?_eq_getElem (by omega)];exact List.getElem_mem _)
       have hms:=I1 (L4.getD i [])
       obtain⟨p,hp⟩:∃p,YD (L4.getD i [])=p:=⟨_,rfl⟩
       rw[hp]at hms
       have hx1:(asR (AVal.vs 1 (List.map encB (L4.getD i [])))).length=(L4.getD i []).length:=List.length_map ..
       have hx2:(p.2=p.2)=True:=eq_self p.2
       have hx3:=hx1
       have hx4:=hx2
       by_cases h0:(L4.getD i []).length=0
       ·have hnil:L4.getD i []=[]:=List.eq_nil_of_length_eq_zero h0
        repeat' first|refine And.intro ?_ ?_|(intro h;try first|exact dzi|replace h:=cvi)
        all_goals try exact cz
        ·exact Z0 (enc:=encB) (z:=1) (fun _=>rfl) (L4.getD i [])
        refine⟨[vB []],[],MP.trans (Wt (fun j=>.inr rfl) (fun n b h=>by rw[Heap.get_nil]at h;cases h)),rfl,?_⟩
        rw[show vB []=vB (L4.getD i []) from by rw[hnil]]
        refine⟨[],[vB (L4.getD i [])],[],rfl,⟨by first|exact .refl _|exact .tab rfl,trivial⟩,trivial,L4.getD i [],rfl,rfl,rfl,hbd,?_⟩
        rw[hp]
        repeat' first|refine And.intro ?_ ?_|(intro h;try first|exact dzi|replace h:=cvi)
        all_goals try exact cz
        refine⟨Rn L4 i p,by first|exact Q0 [3] (by exact rfl) ⟨.refl _,.refl _,.refl _,.refl _,trivial⟩ ⟨⟨by decide,_,rfl,Qs (row:=Qv p.1) ⟨.refl _,.refl _,.refl _,trivial⟩ (eM _)⟩,trivial⟩|exact Q0 [4] (by exact rfl) ⟨.refl _,.refl _,.refl _,.refl _,trivial⟩ ⟨⟨by decide,_,rfl,Qs (row:=Qv p.1) ⟨.refl _,.refl _,.refl _,trivial⟩ (eM _)⟩,trivial⟩,?_⟩
        repeat' first|refine And.intro ?_ ?_|(intro h;try first|exact dzi|replace h:=cvi)
        all_goals try exact cz
        refine⟨[],[vB (L4.getD i [])],[],rfl,⟨.tab rfl,trivial⟩,trivial,L4.getD i [],rfl,rfl,rfl,hbd,?_⟩
        rw[hp]
        repeat' first|refine And.intro ?_ ?_|(intro h;try first|exact dzi|replace h:=cvi)
        all_goals try exact cz
        refine⟨Rm L4 i p,by first|exact Q0 [0,1,3] (by exact rfl) ⟨.refl _,.refl _,.refl _,.refl _,.refl _,.refl _,trivial⟩ ⟨⟨by decide,_,rfl,.refl _⟩,⟨by decide,_,rfl,Qs (row:=Qv p.1) ⟨.refl _,.refl _,.refl _,trivial⟩ (eM _)⟩,trivial⟩|exact Q0 [0,1,2] (by exact rfl) ⟨.refl _,.refl _,.refl _,.refl _,.refl _,.refl _,trivial⟩ ⟨⟨by decide,_,rfl,.refl _⟩,⟨by decide,_,rfl,Qs (row:=Qv p.1) ⟨.refl _,.refl _,.refl _,trivial⟩ (eM _)⟩,trivial⟩,?_⟩
        repeat' first|refine And.intro ?_ ?_|(intro h;try first|exact dzi|replace h:=cvi)
        all_goals try exact cz
        refine⟨p.1,p.1,rfl,hms,?_⟩
        rw[UK]
        repeat' first|refine And.intro ?_ ?_|(intro h;try first|exact dzi|replace h:=cvi)
        all_goals try exact cz
        exact⟨_,CH L4 (i+1),Q0 [] (by first|rfl|kernel_rfl) ⟨.refl _,Qm (by omega),trivial⟩ trivial,⟨i+1,⟨by omega,rfl⟩,rfl⟩,by omega⟩
       · repeat' first|refine And.intro ?_ ?_|(intro h;try first|exact dzi|replace h:=cvi)
         all_goals try exact cz
         ·exact Z0 (enc:=encB) (z:=1) (fun _=>rfl) (L4.getD i [])
         refine⟨[.vs 1 ((L4.getD i []).map encB)],[],MO (b:=L4.getD i []) rfl rfl (by show 0+(List.map encB (L4.getD i [])).length=_;rw[List.length_map,Nat.zero_add]) (by omega) trivial,rfl,?_⟩
         refine⟨[],[vB (L4.getD i [])],[],rfl,⟨by first|exact .refl _|exact .tab rfl,trivial⟩,trivial,L4.getD i [],rfl,rfl,rfl,hbd,?_⟩
         rw[hp]
         repeat' first|refine And.intro ?_ ?_|(intro h;try first|exact dzi|replace h:=cvi)
         all_goals try exact cz
         refine⟨Rn L4 i p,by first|exact Q0 [3] (by exact rfl) ⟨.refl _,.refl _,.refl _,.refl _,trivial⟩ ⟨⟨by decide,_,rfl,Qs (row:=Qv p.1) ⟨.refl _,.refl _,.refl _,trivial⟩ (eM _)⟩,trivial⟩|exact Q0 [4] (by exact rfl) ⟨.refl _,.refl _,.refl _,.refl _,trivial⟩ ⟨⟨by decide,_,rfl,Qs (row:=Qv p.1) ⟨.refl _,.refl _,.refl _,trivial⟩ (eM _)⟩,trivial⟩,?_⟩
         repeat' first|refine And.intro ?_ ?_|(intro h;try first|exact dzi|replace h:=cvi)
         all_goals try exact cz
         refine⟨[],[vB (L4.getD i [])],[],rfl,⟨.tab rfl,trivial⟩,trivial,L4.getD i [],rfl,rfl,rfl,hbd,?_⟩
         rw[hp]
         repeat' first|refine And.intro ?_ ?_|(intro h;try first|exact dzi|replace h:=cvi)
         all_goals try exact cz
         refine⟨Rm L4 i p,by first|exact Q0 [0,1,3] (by exact rfl) ⟨.refl _,.refl _,.refl _,.refl _,.refl _,.refl _,trivial⟩ ⟨⟨by decide,_,rfl,.refl _⟩,⟨by decide,_,rfl,Qs (row:=Qv p.1) ⟨.refl _,.refl _,.refl _,trivial⟩ (eM _)⟩,trivial⟩|exact Q0 [0,1,2] (by exact rfl) ⟨.refl _,.refl _,.refl _,.refl _,.refl _,.refl _,trivial⟩ ⟨⟨by decide,_,rfl,.refl _⟩,⟨by decide,_,rfl,Qs (row:=Qv p.1) ⟨.refl _,.refl _,.refl _,trivial⟩ (eM _)⟩,trivial⟩,?_⟩
         repeat' first|refine And.intro ?_ ?_|(intro h;try first|exact dzi|replace h:=cvi)
         all_goals try exact cz
         refine⟨p.1,p.1,rfl,hms,?_⟩
         rw[UK]
         repeat' first|refine And.intro ?_ ?_|(intro h;try first|exact dzi|replace h:=cvi)
         all_goals try exact cz
         exact⟨_,CH L4 (i+1),Q0 [] (by first|rfl|kernel_rfl) ⟨.refl _,Qm (by omega),trivial⟩ trivial,⟨i+1,⟨by omega,rfl⟩,rfl⟩,by omega⟩
      · repeat' first|refine And.intro ?_ ?_|(intro h;try first|exact dzi|replace h:=cvi)
        all_goals try exact cz
        exact⟨_,Q1 [18] rfl,_,rfl,rfl,rfl⟩
    ·refine⟨lr12 cut w n raw b m B false,Q0 [0] (by exact rfl) ⟨.refl _,.refl _,.refl _,.refl _,.refl _,.refl _,.refl _,ZG (decide_eq_false hc),trivial⟩ ⟨⟨by decide,_,rfl,Qa (fB _)⟩,trivial⟩,?_⟩
     clear hc
     have hx1:=@Ql
     have hx2:=@Ql
     have hx3:=@Ql
     have hx4:=@Ql
     repeat' first|refine And.intro ?_ ?_|(intro h;try first|exact dzi|replace h:=cvi)
     all_goals try exact cz
     refine⟨⟨[(23,vY [B.take b.length,b++raw,raw,t4])],[],0⟩,?_,?_⟩
     ·by_cases hr0:raw.length=0
      ·have hrn:raw=[]:=List.eq_nil_of_length_eq_zero hr0
       repeat' first|refine And.intro ?_ ?_|(intro h;try first|exact dzi|replace h:=cvi)
       all_goals try exact cz
       all_goals(try exact Bc _)
       all_goals(try((with_reducible show(_:Nat)≤_);first|(simp only[Ql];omega)|(simp only[List.length_append,List.take_zero,List.length_nil,Ql];omega)))
       all_goals refine⟨m,w,n,rfl,⟨ht,hwi,hni⟩,?_⟩
       repeat' first|refine And.intro ?_ ?_|(intro h;try first|exact dzi|replace h:=cvi)
       all_goals try exact cz
       all_goals refine⟨[.agg (Qv (Ya (wi w 9) (wi n 9) m))],⟨.imm _ rfl,trivial⟩,?_⟩
       all_goals refine hcall2 _ ?_
       repeat' first|refine And.intro ?_ ?_|(intro h;try first|exact dzi|replace h:=cvi)
       all_goals try exact cz
       all_goals exact Exists.intro () (M4 rfl rfl rfl rfl rfl rfl (by show Zq b.length (fun i=>encB (b.getD i 0))=_;rw[Zx encB 0 b,hrn,List.append_nil]) rfl (by show _≤B.length;omega) (by show 0+(Zq b.length (fun i=>encB (b.getD i 0))).length=_;rw[Ql,hrn,List.append_nil,Nat.zero_add]) rfl (by rw[List.length_append];omega) hpos4 (by first|rfl|kernel_rfl))
      ·skip
       repeat' first|refine And.intro ?_ ?_|(intro h;try first|exact dzi|replace h:=cvi)
       all_goals try exact cz
       all_goals(try exact Bc _)
       all_goals(try((with_reducible show(_:Nat)≤_);first|(simp only[Ql];omega)|(simp only[List.length_append,List.take_zero,List.length_nil,Ql];omega)))
       all_goals refine⟨m,w,n,rfl,⟨ht,hwi,hni⟩,?_⟩
       repeat' first|refine And.intro ?_ ?_|(intro h;try first|exact dzi|replace h:=cvi)
       all_goals try exact cz
       all_goals refine⟨[.agg (Qv (Ya (wi w 9) (wi n 9) m))],⟨.imm _ rfl,trivial⟩,?_⟩
       all_goals refine hcall2 _ ?_
       repeat' first|refine And.intro ?_ ?_|(intro h;try first|exact dzi|replace h:=cvi)
       all_goals try exact cz
       all_goals exact Exists.intro () (M4 rfl rfl rfl rfl rfl rfl (by show List.take (0+(Zq b.length (fun i=>encB (b.getD i 0))).length) (List.drop 0 (Zq b.length (fun i=>encB (b.getD i 0))))++Zq raw.length (fun i=>encB (raw.getD i 0))=_;rw[Zx encB 0 b,Zx encB 0 raw,List.drop_zero,List.take_of_length_le (by simp),List.map_append]) rfl (by show _≤B.length;omega) (by show 0+(Zq b.length (fun i=>encB (b.getD i 0))).length+(Zq raw.length (fun i=>encB (raw.getD i 0))).length=_;rw[Ql,Ql,List.length_append,Nat.zero_add]) rfl (by rw[List.length_append];omega) hpos4 (by first|rfl|kernel_rfl))
     ·skip
      have hL:∀x∈[B.take b.length,b++raw,raw,t4],x.length≤1000000:=by
       intro x hx
       simp only[List.mem_cons,List.not_mem_nil,or_false]at hx
       rcases hx with rfl|rfl|rfl|rfl
       ·rw[List.length_take];omega
       ·rw[List.length_append];omega
       ·omega
       ·omega
      clear hx1 hx2 hx3 hx4 hcall hcall2 ht hb hq hgc
      have hLl:[B.take b.length,b++raw,raw,t4].length=4:=rfl
      generalize[B.take b.length,b++raw,raw,t4]=L4 at *
      refine⟨fun q st=>∃i:Nat,(i≤4∧q=4-i)∧st=CH L4 i,⟨_,CH L4 0,Q0 [] (by exact rfl) ⟨.refl _,.refl _,trivial⟩ trivial,0,⟨by omega,rfl⟩,rfl⟩,?_⟩
      clear hBl hBm hin
      rintro q st ⟨i,⟨hi4,rfl⟩,rfl⟩
      by_cases hi:i<4
      ·have hbd:=hL (L4.getD i []) (by rw[List.getD_eq_getElem?_getD,List.getElem?_eq_getElem (by omega)];exact List.getElem_mem _)
       have hms:=I1 (L4.getD i [])
       obtain⟨p,hp⟩:∃p,YD (L4.getD i [])=p:=⟨_,rfl⟩
       rw[hp]at hms
       have hx1:(asR (AVal.vs 1 (List.map encB (L4.getD i [])))).length=(L4.getD i []).length:=List.length_map ..
       have hx2:(p.2=p.2)=True:=eq_self p.2
       have hx3:=hx1
       have hx4:=hx2
       by_cases h0:(L4.getD i []).length=0
       ·have hnil:L4.getD i []=[]:=List.eq_nil_of_length_eq_zero h0
        repeat' first|refine And.intro ?_ ?_|(intro h;try first|exact dzi|replace h:=cvi)
        all_goals try exact cz
        ·exact Z0 (enc:=encB) (z:=1) (fun _=>rfl) (L4.getD i [])
        refine⟨[vB []],[],MP.trans (Wt (fun j=>.inr rfl) (fun n b h=>by rw[Heap.get_nil]at h;cases h)),rfl,?_⟩
        rw[show vB []=vB (L4.getD i []) from by rw[hnil]]
        refine⟨[],[vB (L4.getD i [])],[],rfl,⟨by first|exact .refl _|exact .tab rfl,trivial⟩,trivial,L4.getD i [],rfl,rfl,rfl,hbd,?_⟩
        rw[hp]
        repeat' first|refine And.intro ?_ ?_|(intro h;try first|exact dzi|replace h:=cvi)
        all_goals try exact cz
        refine⟨Rn L4 i p,by first|exact Q0 [3] (by exact rfl) ⟨.refl _,.refl _,.refl _,.refl _,trivial⟩ ⟨⟨by decide,_,rfl,Qs (row:=Qv p.1) ⟨.refl _,.refl _,.refl _,trivial⟩ (eM _)⟩,trivial⟩|exact Q0 [4] (by exact rfl) ⟨.refl _,.refl _,.refl _,.refl _,trivial⟩ ⟨⟨by decide,_,rfl,Qs (row:=Qv p.1) ⟨.refl _,.refl _,.refl _,trivial⟩ (eM _)⟩,trivial⟩,?_⟩
        repeat' first|refine And.intro ?_ ?_|(intro h;try first|exact dzi|replace h:=cvi)
        all_goals try exact cz
        refine⟨[],[vB (L4.getD i [])],[],rfl,⟨.tab rfl,trivial⟩,trivial,L4.getD i [],rfl,rfl,rfl,hbd,?_⟩
        rw[hp]
        repeat' first|refine And.intro ?_ ?_|(intro h;try first|exact dzi|replace h:=cvi)
        all_goals try exact cz
        refine⟨Rm L4 i p,by first|exact Q0 [0,1,3] (by exact rfl) ⟨.refl _,.refl _,.refl _,.refl _,.refl _,.refl _,trivial⟩ ⟨⟨by decide,_,rfl,.refl _⟩,⟨by decide,_,rfl,Qs (row:=Qv p.1) ⟨.refl _,.refl _,.refl _,trivial⟩ (eM _)⟩,trivial⟩|exact Q0 [0,1,2] (by exact rfl) ⟨.refl _,.refl _,.refl _,.refl _,.refl _,.refl _,trivial⟩ ⟨⟨by decide,_,rfl,.refl _⟩,⟨by decide,_,rfl,Qs (row:=Qv p.1) ⟨.refl _,.refl _,.refl _,trivial⟩ (eM _)⟩,trivial⟩,?_⟩
        repeat' first|refine And.intro ?_ ?_|(intro h;try first|exact dzi|replace h:=cvi)
        all_goals try exact cz
        refine⟨p.1,p.1,rfl,hms,?_⟩
        rw[UK]
        repeat' first|refine And.intro ?_ ?_|(intro h;try first|exact dzi|replace h:=cvi)
        all_goals try exact cz
        exact⟨_,CH L4 (i+1),Q0 [] (by first|rfl|kernel_rfl) ⟨.refl _,Qm (by omega),trivial⟩ trivial,⟨i+1,⟨by omega,rfl⟩,rfl⟩,by omega⟩
       · repeat' first|refine And.intro ?_ ?_|(intro h;try first|exact dzi|replace h:=cvi)
         all_goals try exact cz
         ·exact Z0 (enc:=encB) (z:=1) (fun _=>rfl) (L4.getD i [])
         refine⟨[.vs 1 ((L4.getD i []).map encB)],[],MO (b:=L4.getD i []) rfl rfl (by show 0+(List.map encB (L4.getD i [])).length=_;rw[List.length_map,Nat.zero_add]) (by omega) trivial,rfl,?_⟩
         refine⟨[],[vB (L4.getD i [])],[],rfl,⟨by first|exact .refl _|exact .tab rfl,trivial⟩,trivial,L4.getD i [],rfl,rfl,rfl,hbd,?_⟩
         rw[hp]
         repeat' first|refine And.intro ?_ ?_|(intro h;try first|exact dzi|replace h:=cvi)
         all_goals try exact cz
         refine⟨Rn L4 i p,by first|exact Q0 [3] (by exact rfl) ⟨.refl _,.refl _,.refl _,.refl _,trivial⟩ ⟨⟨by decide,_,rfl,Qs (row:=Qv p.1) ⟨.refl _,.refl _,.refl _,trivial⟩ (eM _)⟩,trivial⟩|exact Q0 [4] (by exact rfl) ⟨.refl _,.refl _,.refl _,.refl _,trivial⟩ ⟨⟨by decide,_,rfl,Qs (row:=Qv p.1) ⟨.refl _,.refl _,.refl _,trivial⟩ (eM _)⟩,trivial⟩,?_⟩
         repeat' first|refine And.intro ?_ ?_|(intro h;try first|exact dzi|replace h:=cvi)
         all_goals try exact cz
         refine⟨[],[vB (L4.getD i [])],[],rfl,⟨.tab rfl,trivial⟩,trivial,L4.getD i [],rfl,rfl,rfl,hbd,?_⟩
         rw[hp]
         repeat' first|refine And.intro ?_ ?_|(intro h;try first|exact dzi|replace h:=cvi)
         all_goals try exact cz
         refine⟨Rm L4 i p,by first|exact Q0 [0,1,3] (by exact rfl) ⟨.refl _,.refl _,.refl _,.refl _,.refl _,.refl _,trivial⟩ ⟨⟨by decide,_,rfl,.refl _⟩,⟨by decide,_,rfl,Qs (row:=Qv p.1) ⟨.refl _,.refl _,.refl _,trivial⟩ (eM _)⟩,trivial⟩|exact Q0 [0,1,2] (by exact rfl) ⟨.refl _,.refl _,.refl _,.refl _,.refl _,.refl _,trivial⟩ ⟨⟨by decide,_,rfl,.refl _⟩,⟨by decide,_,rfl,Qs (row:=Qv p.1) ⟨.refl _,.refl _,.refl _,trivial⟩ (eM _)⟩,trivial⟩,?_⟩
         repeat' first|refine And.intro ?_ ?_|(intro h;try first|exact dzi|replace h:=cvi)
         all_goals try exact cz
         refine⟨p.1,p.1,rfl,hms,?_⟩
         rw[UK]
         repeat' first|refine And.intro ?_ ?_|(intro h;try first|exact dzi|replace h:=cvi)
         all_goals try exact cz
         exact⟨_,CH L4 (i+1),Q0 [] (by first|rfl|kernel_rfl) ⟨.refl _,Qm (by omega),trivial⟩ trivial,⟨i+1,⟨by omega,rfl⟩,rfl⟩,by omega⟩
      · repeat' first|refine And.intro ?_ ?_|(intro h;try first|exact dzi|replace h:=cvi)
        all_goals try exact cz
        exact⟨_,Q1 [18] rfl,_,rfl,rfl,rfl⟩
     skip)
theorem Tk[Syms](ns gs:List Int)(l:List Vl)(a:List Int)(y:List UInt8)(cut w n:Int)(raw:List UInt8)(hn:ns.length≤9223372036854775807)(_:∀g∈ns,I64 g)(hgl:gs.length≤9223372036854775807)(hg:∀g∈gs,I64 g)(hll:l.length≤9223372036854775807)(hl:∀v∈l,I64 v.n)(ha:a.length≤9223372036854775807)(_:∀g∈a,I64 g)(hy:y.length≤9223372036854775807)(hcut:I64 cut)(hwi:I64 w)(hni:I64 n)(_:raw.length≤9223372036854775807):
 XF Try.prog 3 [vI ns,vI gs,vV l,vI a,vB y,.int .i64 cut,.int .i64 w,.int .i64 n,vB raw] [] 0 (fun v H _=>v= .bool true∧H=[]):=
 Qj Qf Qg RI Q03 Qw (O8 ns gs l a y cut w n raw hn hgl hll hg hl ha hy hwi hni hcut)
end
abbrev kI:Shp:=.slice (.int .i64)
abbrev kB:Shp:=.slice (.int .u8)
abbrev kV:Shp:=.slice (.struct (.pair (.int .i64) (.pair .str .unit)))
theorem Q13[Syms]{ι:Inj}{x:AVal}{v:Value}(h:kI.ok [x])(hr:RelV ι x v):∃l:List Int,RelV ι (vI l) v∧l.length≤9223372036854775807∧ ∀a∈l,I64 a:=
 Shp.slice_of (enc:=Qr) (G:=I64) 0 (fun r h=>by obtain⟨z,rfl,hz⟩:=h;exact⟨z,rfl,Eu hz⟩) h hr
theorem Q0g[Syms]{ι:Inj}{x:AVal}{v:Value}(h:kB.ok [x])(hr:RelV ι x v):∃l:List UInt8,RelV ι (vB l) v∧l.length≤9223372036854775807:=by
 obtain⟨l,h1,h2,_⟩:=Shp.slice_of (enc:=encB) (G:=fun _=>True) 0 (fun r h=>by
  obtain⟨z,rfl,hz⟩:=h
  have:=bounds_u8 hz
  refine⟨UInt8.ofNat z.toNat,?_,trivial⟩
  show _=[AVal.int .u8 (((UInt8.ofNat z.toNat).toNat:Nat):Int)]
  rw[KU (by omega),Int.toNat_of_nonneg this.1]) h hr
 exact⟨l,h1,h2⟩
theorem Q12[Syms]{ι:Inj}{x:AVal}{v:Value}(h:kV.ok [x])(hr:RelV ι x v):∃l:List Vl,RelV ι (vV l) v∧l.length≤9223372036854775807∧ ∀a∈l,I64 a.n:=
 Shp.slice_of (enc:=ZX) (G:=fun a=>I64 a.n) default (fun r h=>by
  obtain⟨r1,r2,rfl,⟨z,rfl,hz⟩,r3,r4,rfl,⟨s,rfl,hs⟩,rfl⟩:=h
  exact⟨⟨z,s⟩,rfl,Eu hz⟩) h hr
theorem Q14[Syms]{ι:Inj}{x:AVal}{v:Value}(h:(Shp.int .i64).ok [x])(hr:RelV ι x v):∃z:Int,RelV ι (.int .i64 z) v∧I64 z:=by
 obtain⟨z,h1,hz⟩:=h
 cases h1
 exact⟨z,hr,Eu hz⟩
end Go.Proofs.Ytajieadpaeggcaa
