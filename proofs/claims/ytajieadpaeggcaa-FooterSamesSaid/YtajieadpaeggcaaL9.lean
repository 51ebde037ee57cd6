/-
  The footer's reader:all of it. The program's. What may be of a chunk;the order of values. The program's. What may be of all that is said. The program's.
-/
import Derived.Test.YtajieadpaeggcaaL7
import Derived.Test.YtajieadpaeggcaaL8
set_option linter.unusedVariables false
set_option linter.unusedSimpArgs false
namespace Go.Proofs.Ytajieadpaeggcaa
open Go Go.Av
section
set_option maxRecDepth 100000
set_option maxHeartbeats 4000000
theorem Gv:∀(k:Nat) (r:BR) (s:List Fd),Ve s→Ve (ZB k r s).1∧(ZB k r s).1.length≤s.length+k
 |0,r,s,h=>⟨h,Nat.le_refl _⟩
 |k+1,r,s,h=>by
  rw[ZB]
  split
  ·exact⟨h,by dsimp only;omega⟩
  ·obtain⟨h1,h2⟩:=Gv k (Zz r).2 (s++[(Zz r).1]) (h.snoc r)
   exact⟨h1,by rw[List.length_append]at h2;simp at h2;omega⟩
theorem G7(b:List UInt8):Ve (Xn b).1∧(Xn b).1.length≤40:=by
 show Ve (WO _ _).1∧(WO _ _).1.length≤40
 obtain⟨h1,h2⟩:=Gv (QX 40 4 ⟨b,0⟩).1 (QX 40 4 ⟨b,0⟩).2 [] (fun f hf=>nomatch hf)
 have h3:=Zf (m:=40) (w:=4) (by decide) ⟨b,0⟩
 generalize ZB (QX 40 4 ⟨b,0⟩).1 (QX 40 4 ⟨b,0⟩).2 []=q at *
 have key:∀r':BR,Ve (if r'.e≠0 then(([]:List Fd),r'.e)else(q.1,0)).1∧(if r'.e≠0 then(([]:List Fd),r'.e)else(q.1,0)).1.length≤40:=by
  intro r'
  split
  ·exact⟨fun f hf=>(nomatch hf),Nat.zero_le _⟩
  ·exact⟨h1,by simp at h2 ⊢;omega⟩
 exact key _
abbrev OW[Syms]:CallT:=Qe 55 (Z6 GS) (Qe 54 (Z6 Kj) (Qe 27 (Z6 VV) (Qe 57 (Z6 VF) (Qe 56 (Xw S_prs) (Qe 44 (Xw S_leaves) (Qe 58 (Z6 Kk) (Qe 59 (GE Q9 Q9 (QN fns) (Qz tys) (QV plt) 100) Q9)))))))
theorem LX[Syms]:OW.ok Try.prog:=Qc Jv (Qc UP (Qc Vv (Qc VQ (Qm NG (Qm Mq (Qc Ej (Xi (Xz Qp Qq Q5 Qb QJ) Qb)))))))
noncomputable def Pd:Nat→Nat→Pl:=VZ [(26,14),(26,16),(26,11)] (QV plt)
abbrev QK(s:AVal)(n:Int)(g:AVal):List AVal:=[s,.int .i64 n,g]
def meS(ls:List Lf)(n i:Nat)(q:BR)(s:List Fd)(c:Int)(gs:List Rw):St:=⟨[(0,.ptr 0 0 0),(2,.ptr 1 0 0),(3,.ptr 2 0 0),(8,vL ls),(36,.int .i64 n),(37,.int .i64 i)],[(0,rdB q),(1,some (.cells [QK .nils 0 .nils] false)),(2,some (.cells [QK (vF s) c (.slice 3 0 gs.length 2 none)] false)),(3,some (.cells (gs.map encR) false))],4⟩
def meN(ls:List Lf)(n i:Nat)(q:BR)(s:List Fd)(c:Int):St:=⟨[(0,.ptr 0 0 0),(2,.ptr 1 0 0),(3,.ptr 2 0 0),(8,vL ls),(36,.int .i64 n),(37,.int .i64 i)],[(0,rdB q),(1,some (.cells [QK .nils 0 .nils] false)),(2,some (.cells [QK (vF s) c .nils] false))],3⟩
def meF(q:BR)(s:List Fd)(c:Int)(gs:List Rw):St:=⟨[(0,.ptr 0 0 0),(2,.ptr 1 0 0),(3,.ptr 2 0 0)],[(0,rdB q),(1,some (.cells [QK .nils 0 .nils] false)),(2,some (.cells [QK (vF s) c (.vs 2 (gs.map encR))] false))],3⟩
theorem Uh[Syms]{N K nx:Nat}{e:Env}{H:Heap}{ls:List Lf}{c i1:Int}{n i:Nat}{q:BR}{s:List Fd}{gs:List Rw}{rows:List (List AVal)}{len:Nat}(hn:Zm 1 nx [0,1,2,K]=true)(h0:e.get 0= .ptr 0 0 0)(h2:e.get 2= .ptr 1 0 0)(h3:e.get 3= .ptr 2 0 0)(h8:e.get 8=vL ls)(h36:e.get 36= .int .i64 n)(h37:e.get 37= .int .i64 i1)(hi:i1=i)
 (H0:H.get 0=rdB q) (H1:H.get 1=some (.cells [QK .nils 0 .nils] false)) (H2:H.get 2=some (.cells [QK (vF s) c (.slice K 0 len 2 none)] false)) (HK:H.get K=some (.cells rows false)) (hr:rows=gs.map encR) (hl:len=gs.length):Reb 1 N ⟨e,H,nx⟩ (meS ls n i q s c gs):=by
 subst hr hl hi
 exact Q0 [0,1,2,K] hn ⟨by rw[h0];exact .refl _,by rw[h2];exact .refl _,by rw[h3];exact .refl _,by rw[h8];exact .refl _,by rw[h36];exact .refl _,by rw[h37];exact .refl _,trivial⟩
  ⟨⟨show 0<4 by decide,_,H0,.refl _⟩,⟨show 1<4 by decide,_,H1,.refl _⟩,⟨show 2<4 by decide,_,H2,.refl _⟩,⟨show 3<4 by decide,_,HK,Qd (fR _)⟩,trivial⟩
theorem Lk[Syms]{N K nx:Nat}{e:Env}{H:Heap}{c:Int}{q:BR}{s:List Fd}{gs:List Rw}{rows:List (List AVal)}{len:Nat}(hp:0<gs.length)(hn:Zm 1 nx [0,1,2,K]=true)(h0:e.get 0= .ptr 0 0 0)(h2:e.get 2= .ptr 1 0 0)(h3:e.get 3= .ptr 2 0 0)
 (H0:H.get 0=rdB q) (H1:H.get 1=some (.cells [QK .nils 0 .nils] false)) (H2:H.get 2=some (.cells [QK (vF s) c (.slice K 0 len 2 none)] false)) (HK:H.get K=some (.cells rows false)) (hr:rows=gs.map encR) (hl:len=gs.length):Reb 1 N ⟨e,H,nx⟩ (meF q s c gs):=by
 subst hr hl
 have hcut:((gs.map encR).drop 0).take gs.length=gs.map encR:=by rw[List.drop_zero,List.take_of_length_le (by simp)]
 have hs:FzV 3 (gs.map encR) (.slice 3 0 gs.length 2 none) (.vs 2 (gs.map encR)):=by
  have:=FzV.sl (n:=3) (rows:=gs.map encR) 0 gs.length 2 none hp (by simp)
  rwa [hcut]at this
 refine(Q0 (e3:=[(0,.ptr 0 0 0),(2,.ptr 1 0 0),(3,.ptr 2 0 0)]) (H3:=[(0,rdB q),(1,some (.cells [QK .nils 0 .nils] false)),(2,some (.cells [QK (vF s) c (.slice 3 0 gs.length 2 none)] false)),(3,some (.cells (gs.map encR) false))]) [0,1,2,K] hn ⟨by rw[h0];exact .refl _,by rw[h2];exact .refl _,by rw[h3];exact .refl _,trivial⟩
  ⟨⟨show 0<4 by decide,_,H0,.refl _⟩,⟨show 1<4 by decide,_,H1,.refl _⟩,⟨show 2<4 by decide,_,H2,.refl _⟩,⟨show 3<4 by decide,_,HK,Qd (fR _)⟩,trivial⟩).trans ?_
 refine(ZS (n:=3) (e3:=[(0,.ptr 0 0 0),(2,.ptr 1 0 0),(3,.ptr 2 0 0)]) (H3:=[(0,rdB q),(1,some (.cells [QK .nils 0 .nils] false)),(2,some (.cells [QK (vF s) c (.vs 2 (gs.map encR))] false))]) rfl (fR gs) ⟨.same _,.same _,.same _,trivial⟩
  ⟨⟨by decide,_,rfl,.same _⟩,⟨by decide,_,rfl,.same _⟩,⟨by decide,_,rfl,.cells [QK (vF s) c (.slice 3 0 gs.length 2 none)] [QK (vF s) c (.vs 2 (gs.map encR))] false rfl (fun j r r' h h'=>?_)⟩,trivial⟩).trans (Q0 [0,1,2] rfl ⟨.refl _,.refl _,.refl _,trivial⟩ ⟨⟨by decide,_,rfl,.refl _⟩,⟨by decide,_,rfl,.refl _⟩,⟨by decide,_,rfl,.refl _⟩,trivial⟩)
 cases j with
 |zero=>
  cases h;cases h'
  exact⟨.same _,.same _,hs,trivial⟩
 |succ j=>simp at h
theorem HE[Syms]{N nx:Nat}{e:Env}{H:Heap}{c:Int}{q:BR}{s:List Fd}(hn:Zm 1 nx [0,1,2]=true)(h0:e.get 0= .ptr 0 0 0)(h2:e.get 2= .ptr 1 0 0)(h3:e.get 3= .ptr 2 0 0)
 (H0:H.get 0=rdB q) (H1:H.get 1=some (.cells [QK .nils 0 .nils] false)) (H2:H.get 2=some (.cells [QK (vF s) c .nils] false)):Reb 1 N ⟨e,H,nx⟩ (meF q s c []):=
 Q0 [0,1,2] hn ⟨by rw[h0];exact .refl _,by rw[h2];exact .refl _,by rw[h3];exact .refl _,trivial⟩
  ⟨⟨show 0<3 by decide,_,H0,.refl _⟩,⟨show 1<3 by decide,_,H1,.refl _⟩,⟨show 2<3 by decide,_,H2,Q6 (row:=QK (vF s) c (.vs 2 [])) ⟨.refl _,.refl _,.zero _ _ rfl,trivial⟩⟩,trivial⟩
theorem eM(m:Mt):∀x∈Qv m,x.flat=true:=fun x hx=>by simp[Qv]at hx;rcases hx with rfl|rfl|rfl<;>rfl
theorem Nl(ps:List Rw)(p:Rw):List.take ps.length (List.drop 0 (ps.map encR))++[encR p]=(ps++[p]).map encR:=by
 rw[List.drop_zero,List.take_of_length_le (by simp),List.map_append];rfl
theorem UN(ks:List Int)(k:Nat)(r:BR)(s:List Rw)(h:r.e=0):Xg ks (k+1) r s=Xg ks k (X3 ks r).2 (s++[(X3 ks r).1]):=by
 rw[Xg,if_neg (fun x=>x h)]
theorem YT(ks:List Int)(k:Nat)(r:BR)(s:List Rw)(h:r.e≠0):Xg ks k r s=(s,r):=by
 cases k with
 |zero=>rfl
 |succ k=>rw[Xg,if_pos h]
theorem Lz[Syms]{Post:AVal→Heap→Nat→Prop}(r:BR)(hl:r.b.length≤1000000)(hP:Post (.agg (Qv (U4 r).1)) [(0,rdB (U4 r).2)] 2):
 fnT Q9 OW (QN fns) (Qz tys) Pd 100 26 [.ptr 0 0 0] [(0,rdB r)] 1 (UA Post):=by
 unfold U4 at hP
 dsimp only at hP
 repeat' first|refine And.intro ?_ ?_|(intro h;try first|exact dz|replace h:=cv)
 all_goals try exact cz
 refine⟨[0],[.ptr 0 0 0,.int .i64 ((2000:Nat):Int),.int .i64 5],[(0,rdB r)],rfl,⟨.refl _,.refl _,.refl _,trivial⟩,⟨⟨by decide,_,rfl,.refl _⟩,trivial⟩,r,2000,5,rfl,rfl,rfl,⟨by omega,by omega,by decide⟩,?_⟩
 have l_r1:(QX 2000 5 r).2.b.length≤r.b.length:=QF _ _ _
 have n_v1:(QX 2000 5 r).1≤2000:=Zf (by decide) _
 generalize QX 2000 5 r=q at *
 obtain⟨v1,r1⟩:=q
 replace l_r1:r1.b.length≤r.b.length:=l_r1
 replace n_v1:v1≤2000:=n_v1
 dsimp only at hP
 refine⟨[0],[.ptr 0 0 0,.int .i64 (v1:Nat)],[(0,rdB r1)],rfl,⟨.refl _,.refl _,trivial⟩,⟨⟨by decide,_,rfl,.refl _⟩,trivial⟩,r1,v1,rfl,rfl,rfl,⟨by omega,by omega⟩,?_⟩
 have l_r2:(Z4 v1 r1).2.b.length≤r1.b.length:=WE _ _
 have l_t:(Z4 v1 r1).1.length≤v1:=Uz _ _
 generalize Z4 v1 r1=y at *
 obtain⟨t,r2⟩:=y
 replace l_r2:r2.b.length≤r1.b.length:=l_r2
 replace l_t:t.length≤v1:=l_t
 dsimp only at hP
 have hx1:=fun ρ=>Yb ρ r2.b r2.e
 have hx2:=hx1
 have hx3:=hx1
 have hx4:=hx1
 by_cases h0:r2.e=0
 ·rw[if_neg (fun h=>h h0)]at hP
  repeat' first|refine And.intro ?_ ?_|(intro h;try first|exact dzi|replace h:=cvi)
  all_goals try exact cz
  refine⟨t,rfl,by omega,?_⟩
  have hok:=G7 t
  generalize Xn t=y at *
  obtain⟨s,x⟩:=y
  dsimp only at hP hok
  obtain⟨hok,hs40⟩:=hok
  have hfs:=hok.fs hs40
  have hkin:XZ s=Q2 (QP s):=rfl
  have hll:(QP s).length≤1000:=by have:(QP s).length≤s.length:=Zs _ _ _;omega
  rw[hkin]at hP
  repeat' first|refine And.intro ?_ ?_|(intro h;try first|exact dz|replace h:=cv)
  all_goals try exact cz
  refine⟨[0],[.ptr 0 0 0,.int .i64 x],[(0,rdB r2)],rfl,⟨.refl _,.refl _,trivial⟩,⟨⟨by decide,_,rfl,.refl _⟩,trivial⟩,r2,x,rfl,rfl,rfl,?_⟩
  have l_r3:(QT r2 x).b.length≤r2.b.length:=by rw[Fh];exact Nat.le_refl _
  generalize QT r2 x=r3 at *
  repeat' first|refine And.intro ?_ ?_|(intro h;try first|exact dz|replace h:=cv)
  all_goals try exact cz
  refine⟨[0],[.ptr 0 0 0],[(0,rdB r3)],rfl,⟨.refl _,trivial⟩,⟨⟨by decide,_,rfl,.refl _⟩,trivial⟩,r3,rfl,rfl,rfl,by omega,?_⟩
  have l_r4:(Ql r3).2.b.length≤r3.b.length:=QF _ _ _
  have n_c:(Ql r3).1≤1048576:=Zf (by decide) _
  generalize Ql r3=q at *
  obtain⟨c,r4⟩:=q
  replace l_r4:r4.b.length≤r3.b.length:=l_r4
  replace n_c:c≤1048576:=n_c
  dsimp only at hP
  repeat' first|refine And.intro ?_ ?_|(intro h;try first|exact dz|replace h:=cv)
  all_goals try exact cz
  refine⟨[0],[.ptr 0 0 0,.int .i64 ((200:Nat):Int),.int .i64 4],[(0,rdB r4)],rfl,⟨.refl _,.refl _,.refl _,trivial⟩,⟨⟨by decide,_,rfl,.refl _⟩,trivial⟩,r4,200,4,rfl,rfl,rfl,⟨by omega,by omega,by decide⟩,?_⟩
  have l_r5:(QX 200 4 r4).2.b.length≤r4.b.length:=QF _ _ _
  have n_n:(QX 200 4 r4).1≤200:=Zf (by decide) _
  generalize QX 200 4 r4=q at *
  obtain⟨n,r5⟩:=q
  replace l_r5:r5.b.length≤r4.b.length:=l_r5
  replace n_n:n≤200:=n_n
  dsimp only at hP
  repeat' first|refine And.intro ?_ ?_|(intro h;try first|exact dz|replace h:=cv)
  all_goals try exact cz
  refine⟨s,rfl,hfs,?_⟩
  generalize QP s=ls at *
  repeat' first|refine And.intro ?_ ?_|(intro h;try first|exact dz|replace h:=cv)
  all_goals try exact cz
  refine⟨meN ls n 0 r5 s c,Q0 [0,1,2] (by exact rfl) ⟨.refl _,.refl _,.refl _,.refl _,.refl _,.refl _,trivial⟩ ⟨⟨by decide,_,rfl,.refl _⟩,⟨by decide,_,rfl,.refl _⟩,⟨by decide,_,rfl,.refl _⟩,trivial⟩,?_⟩
  refine⟨fun m st=>∃(i:Nat) (q:BR) (gs:List Rw),(i≤n∧m=n-i∧gs.length≤i∧q.b.length≤r.b.length∧Xg (Q2 ls) (n-i) q gs=Xg (Q2 ls) n r5 [])∧(st=meS ls n i q s c gs∧0<gs.length∨st=meN ls n i q s c∧gs=[]),⟨_,meN ls n 0 r5 s c,.refl _ _ _,0,r5,[],⟨by omega,rfl,by simp,by omega,rfl⟩,.inr ⟨rfl,rfl⟩⟩,?_⟩
  clear l_t hx1 hx2 hx3 hx4
  rintro m st ⟨i,q,gs,⟨hi,rfl,hgl,hql,hfr⟩,⟨rfl,hp0⟩|⟨rfl,rfl⟩⟩
  ·by_cases h1:i<n
   ·by_cases h2:q.e=0
    ·have hst:n-i=n-(i+1)+1:=by omega
     have hgs:=UN (Q2 ls) (n-(i+1)) q gs h2
     have hpl2:=Gm (Q2 ls) q
     have hcall:∀(K:AVal→Heap→Nat→Prop),K (.agg (encR (X3 (Q2 ls) q).1)) [(0,rdB (X3 (Q2 ls) q).2)] 2→Kk [.ptr 0 0 0,vL ls] [(0,rdB q)] 1 K:=fun K hk=>⟨ls,q,rfl,rfl,rfl,⟨by omega,hll⟩,hk⟩
     generalize X3 (Q2 ls) q=y at *
     obtain⟨p,q2⟩:=y
     dsimp only at hgs hpl2 hcall
     repeat' first|refine And.intro ?_ ?_|(intro h;try first|exact dz|replace h:=cv)
     all_goals try exact cz
     refine⟨meS ls n i q2 s c (gs++[p]),?_,?_⟩
     · repeat' first|refine And.intro ?_ ?_|(intro h;try first|exact dz|replace h:=cv)
       all_goals try exact cz
       all_goals(refine⟨[0],[.ptr 0 0 0,vL ls],[(0,rdB q)],rfl,⟨.refl _,.refl _,trivial⟩,⟨⟨by decide,_,rfl,.refl _⟩,trivial⟩,?_⟩;refine hcall _ ?_)
       repeat' first|refine And.intro ?_ ?_|(intro h;try first|exact dz|replace h:=cv)
       all_goals try exact cz
       all_goals(refine Exists.intro () ?_;first|exact Uh (K:=7) (by exact rfl) rfl rfl rfl rfl rfl rfl rfl rfl rfl rfl rfl (Nl _ _) (by simp)|exact Uh (K:=6) (by exact rfl) rfl rfl rfl rfl rfl rfl rfl rfl rfl rfl rfl (Nl _ _) (by simp))
     · repeat' first|refine And.intro ?_ ?_|(intro h;try first|exact dz|replace h:=cv)
       all_goals try exact cz
       exact⟨_,meS ls n (i+1) q2 s c (gs++[p]),Uh (K:=3) rfl rfl rfl rfl rfl rfl rfl (by omega) rfl rfl rfl rfl rfl rfl,⟨i+1,q2,gs++[p],⟨by omega,rfl,by simp;omega,by omega,by rw[←hfr,hst,hgs]⟩,.inl ⟨rfl,by simp⟩⟩,by omega⟩
    · repeat' first|refine And.intro ?_ ?_|(intro h;try first|exact dz|replace h:=cv)
      all_goals try exact cz
      exact⟨_,meS ls n (i+1) q s c gs,Uh (K:=3) rfl rfl rfl rfl rfl rfl rfl (by omega) rfl rfl rfl rfl rfl rfl,⟨i+1,q,gs,⟨by omega,rfl,by omega,hql,by rw[←hfr,YT _ _ _ _ h2,YT _ _ _ _ h2]⟩,.inl ⟨rfl,hp0⟩⟩,by omega⟩
   ·have hfe:Xg (Q2 ls) n r5 []=(gs,q):=by
     rw[←hfr,show n-i=0 by omega];rfl
    rw[hfe]at hP
    dsimp only at hP
    repeat' first|refine And.intro ?_ ?_|(intro h;try first|exact dz|replace h:=cv)
    all_goals try exact cz
    ·show V9 2 (List.take gs.length (List.drop 0 (gs.map encR)))=true
     rw[List.drop_zero,List.take_of_length_le (by simp)];exact We (enc:=encR) (z:=2) (fun _=>rfl) _
    refine⟨_,.refl _ _ _,_,rfl,?_⟩
    repeat' first|refine And.intro ?_ ?_|(intro h;try first|exact dz|replace h:=cv)
    all_goals try exact cz
    refine⟨_,Lk (K:=5) hp0 (by exact rfl) rfl rfl rfl rfl rfl rfl rfl (by show[]++List.take gs.length (List.drop 0 (gs.map encR))=_;rw[List.drop_zero,List.take_of_length_le (by simp)];rfl) (Nat.zero_add _),?_⟩
    repeat' first|refine And.intro ?_ ?_|(intro h;try first|exact dz|replace h:=cv)
    all_goals try exact cz
    exact ZZ (k:=2) (n:=1) (row:=Qv ⟨s,c,gs⟩) rfl rfl rfl ⟨.un rfl,.refl _,.refl _,trivial⟩ (eM _) (by first|rfl|kernel_rfl) rfl hP
  ·by_cases h1:i<n
   ·by_cases h2:q.e=0
    ·have hst:n-i=n-(i+1)+1:=by omega
     have hgs:=UN (Q2 ls) (n-(i+1)) q [] h2
     have hpl2:=Gm (Q2 ls) q
     have hcall:∀(K:AVal→Heap→Nat→Prop),K (.agg (encR (X3 (Q2 ls) q).1)) [(0,rdB (X3 (Q2 ls) q).2)] 2→Kk [.ptr 0 0 0,vL ls] [(0,rdB q)] 1 K:=fun K hk=>⟨ls,q,rfl,rfl,rfl,⟨by omega,hll⟩,hk⟩
     generalize X3 (Q2 ls) q=y at *
     obtain⟨p,q2⟩:=y
     dsimp only at hgs hpl2 hcall
     repeat' first|refine And.intro ?_ ?_|(intro h;try first|exact dz|replace h:=cv)
     all_goals try exact cz
     refine⟨meS ls n i q2 s c ([]++[p]),?_,?_⟩
     · repeat' first|refine And.intro ?_ ?_|(intro h;try first|exact dz|replace h:=cv)
       all_goals try exact cz
       all_goals(refine⟨[0],[.ptr 0 0 0,vL ls],[(0,rdB q)],rfl,⟨.refl _,.refl _,trivial⟩,⟨⟨by decide,_,rfl,.refl _⟩,trivial⟩,?_⟩;refine hcall _ ?_)
       repeat' first|refine And.intro ?_ ?_|(intro h;try first|exact dz|replace h:=cv)
       all_goals try exact cz
       all_goals(refine Exists.intro () ?_;first|exact Uh (K:=6) (by exact rfl) rfl rfl rfl rfl rfl rfl rfl rfl rfl rfl rfl rfl rfl|exact Uh (K:=5) (by exact rfl) rfl rfl rfl rfl rfl rfl rfl rfl rfl rfl rfl rfl rfl)
     · repeat' first|refine And.intro ?_ ?_|(intro h;try first|exact dz|replace h:=cv)
       all_goals try exact cz
       exact⟨_,meS ls n (i+1) q2 s c ([]++[p]),Uh (K:=3) rfl rfl rfl rfl rfl rfl rfl (by omega) rfl rfl rfl rfl rfl rfl,⟨i+1,q2,[]++[p],⟨by omega,rfl,by simp,by omega,by rw[←hfr,hst,hgs]⟩,.inl ⟨rfl,by simp⟩⟩,by omega⟩
    · repeat' first|refine And.intro ?_ ?_|(intro h;try first|exact dz|replace h:=cv)
      all_goals try exact cz
      exact⟨_,meN ls n (i+1) q s c,Q0 [0,1,2] rfl ⟨.refl _,.refl _,.refl _,.refl _,.refl _,Qg (by omega),trivial⟩ ⟨⟨by decide,_,rfl,.refl _⟩,⟨by decide,_,rfl,.refl _⟩,⟨by decide,_,rfl,.refl _⟩,trivial⟩,⟨i+1,q,[],⟨by omega,rfl,by simp,hql,by rw[←hfr,YT _ _ _ _ h2,YT _ _ _ _ h2]⟩,.inr ⟨rfl,rfl⟩⟩,by omega⟩
   ·have hfe:Xg (Q2 ls) n r5 []=([],q):=by
     rw[←hfr,show n-i=0 by omega];rfl
    rw[hfe]at hP
    dsimp only at hP
    repeat' first|refine And.intro ?_ ?_|(intro h;try first|exact dz|replace h:=cv)
    all_goals try exact cz
    refine⟨_,.refl _ _ _,_,rfl,?_⟩
    repeat' first|refine And.intro ?_ ?_|(intro h;try first|exact dz|replace h:=cv)
    all_goals try exact cz
    refine⟨_,HE (by exact rfl) rfl rfl rfl rfl rfl rfl,?_⟩
    repeat' first|refine And.intro ?_ ?_|(intro h;try first|exact dz|replace h:=cv)
    all_goals try exact cz
    exact ZZ (k:=2) (n:=1) (row:=Qv ⟨s,c,[]⟩) rfl rfl rfl ⟨.un rfl,.refl _,.refl _,trivial⟩ (eM _) (by first|rfl|kernel_rfl) rfl hP
 ·rw[if_pos h0]at hP
  repeat' first|refine And.intro ?_ ?_|(intro h;try first|exact dzi|replace h:=cvi)
  all_goals try exact cz
  exact ZZ (k:=2) (n:=1) (row:=Qv mt0) rfl rfl rfl ⟨.zero _ _ rfl,.refl _,.zero _ _ rfl,trivial⟩ (eM _) (by first|rfl|kernel_rfl) rfl hP
def Cw:SpecT:=fun args H nx Post=>∃(r:BR),args=[.ptr 0 0 0]∧H=[(0,rdB r)]∧nx=1∧r.b.length≤1000000∧Post (.agg (Qv (U4 r).1)) [(0,rdB (U4 r).2)] 2
theorem I9[Syms]:Cw.ok Try.prog 26:=by
 rintro args H nx Post ⟨r,rfl,rfl,rfl,h1,h⟩
 exact XI.forget (QC Qp Qq Q5 LX QJ (Lz r h1 h))
end
section
set_option maxRecDepth 100000
set_option maxHeartbeats 4000000
abbrev bN[Syms]:CallT:=GE Q9 Q9 (QN fns) (Qz tys) (QV plt) 100
abbrev Oi[Syms]:CallT:=Qe 115 bN (Qe 116 bN Q9)
theorem Nq[Syms]:bN.ok Try.prog:=Xz Qp Qq Q5 Qb QJ
theorem Cs[Syms]:Oi.ok Try.prog:=Xi Nq (Xi Nq Qb)
theorem UT:∀s:List UInt8,eqb s s=true
 |[]=>rfl
 |a::s=>by rw[eqb,Nat.beq_refl,UT s];rfl
theorem O6[Syms](a b:List UInt8):fnT Q9 Oi (QN fns) (Qz tys) (QV plt) 100 107 [.str a,.str b] [] 0 (fun v H _=>v= .int .i64 (Io a b)∧H=[]):=by
 have hx1:=UT a
 have hx2:=UT b
 refine⟨_,.refl _ _ _,_,rfl,?_⟩
 refine⟨_,.refl _ _ _,_,rfl,?_⟩
 rw[hx1,hx2]
 unfold Io
 cases hl:Op.bytesLess a b
 ·cases he:eqb a b
  all_goals
   have hx3:=hl
   have hx4:=he
   repeat' first|refine And.intro ?_ ?_|(intro h;try first|exact dzi|replace h:=cvi)
   all_goals try exact cz
  all_goals first|exact⟨_,Q4 [4] rfl,_,rfl,rfl,rfl⟩|(exfalso;simp_all)
 ·have hx3:=hl
  have hx4:=hl
  repeat' first|refine And.intro ?_ ?_|(intro h;try first|exact dzi|replace h:=cvi)
  all_goals try exact cz
  all_goals first|exact⟨_,Q4 [4] rfl,_,rfl,rfl,rfl⟩|(exfalso;simp_all)
def S_cmpS:SpecI:=fun args K=>∃a b,args=[.str a,.str b]∧K (.int .i64 (Io a b))
theorem LL[Syms]:Zi Try.prog 107 S_cmpS:=by
 rintro args K ⟨a,b,rfl,hk⟩
 exact⟨rfl,_,rfl,hk,fnI Qp Qq Q5 Cs QJ (O6 a b)⟩
theorem O7[Syms](a b:Int):fnT Q9 Oi (QN fns) (Qz tys) (QV plt) 100 108 [.int .i64 a,.int .i64 b] [] 0 (fun v H _=>v= .int .i64 (In a b)∧H=[]):=by
 refine⟨_,.refl _ _ _,_,rfl,?_⟩
 refine⟨_,.refl _ _ _,_,rfl,?_⟩
 unfold In
 by_cases h1:a<b
 ·rw[if_pos h1]
  repeat' first|refine And.intro ?_ ?_|(intro h;try first|exact dz|replace h:=cv)
  all_goals try exact cz
  all_goals exact⟨_,Q4 [4] rfl,_,rfl,rfl,rfl⟩
 ·rw[if_neg h1]
  by_cases h2:b<a
  ·rw[if_pos h2]
   repeat' first|refine And.intro ?_ ?_|(intro h;try first|exact dz|replace h:=cv)
   all_goals try exact cz
   all_goals exact⟨_,Q4 [4] rfl,_,rfl,rfl,rfl⟩
  ·rw[if_neg h2]
   repeat' first|refine And.intro ?_ ?_|(intro h;try first|exact dz|replace h:=cv)
   all_goals try exact cz
   all_goals exact⟨_,Q4 [4] rfl,_,rfl,rfl,rfl⟩
def S_cmpI:SpecI:=fun args K=>∃a b,args=[.int .i64 a,.int .i64 b]∧K (.int .i64 (In a b))
theorem LM[Syms]:Zi Try.prog 108 S_cmpI:=by
 rintro args K ⟨a,b,rfl,hk⟩
 exact⟨rfl,_,rfl,hk,fnI Qp Qq Q5 Cs QJ (O7 a b)⟩
abbrev P1:CallT:=Qe 107 (Xw S_cmpS) (Qe 108 (Xw S_cmpI) Q9)
theorem N2[Syms]:P1.ok Try.prog:=Qm LL (Qm LM Qb)
theorem OS[Syms](k:Int)(a b:Vl):fnT Q9 P1 (QN fns) (Qz tys) (QV plt) 100 86 [.int .i64 k,.agg (Yi a),.agg (Yi b)] [] 0 (fun v H _=>v= .int .i64 (Fs k a b)∧H=[]):=by
 unfold Fs
 by_cases h4:k=4
 ·rw[if_pos h4]
  repeat' first|refine And.intro ?_ ?_|(intro h;try first|exact dz|replace h:=cv)
  all_goals try exact cz
  refine⟨a.s,b.s,rfl,?_⟩
  exact⟨_,Q4 [6] rfl,_,rfl,rfl,rfl⟩
 ·rw[if_neg h4]
  repeat' first|refine And.intro ?_ ?_|(intro h;try first|exact dz|replace h:=cv)
  all_goals try exact cz
  refine⟨a.n,b.n,rfl,?_⟩
  exact⟨_,Q4 [6] rfl,_,rfl,rfl,rfl⟩
def S_cmp:SpecI:=fun args K=>∃k a b,args=[.int .i64 k,.agg (Yi a),.agg (Yi b)]∧K (.int .i64 (Fs k a b))
theorem O5[Syms]:Zi Try.prog 86 S_cmp:=by
 rintro args K ⟨k,a,b,rfl,hk⟩
 exact⟨rfl,_,rfl,hk,fnI Qp Qq Q5 N2 QJ (OS k a b)⟩
def GU(p:Pg):Prop:=(0≤p.rows∧p.rows≤1048576)∧(0≤p.cells∧p.cells≤1048576)
def sdS(k n:Int)(c:Ck)(i:Nat)(rs cs:Int)(w:Bool):St:=⟨[(0,.int .i64 k),(1,.int .i64 n),(5,.ptr 0 0 0),(7,.int .i64 rs),(8,.int .i64 cs),(9,.bool w),(13,vP c.pages),(14,.int .i64 c.pages.length),(15,.int .i64 i)],[(0,some (.cells [encC c] false))],1⟩
def sdB(k n:Int)(c:Ck)(i:Nat)(rs cs:Int)(w:Bool):St:=⟨[(0,.int .i64 k),(1,.int .i64 n),(5,.ptr 0 0 0),(7,.int .i64 rs),(8,.int .i64 cs),(9,.bool w),(11,.ptr 1 0 0),(13,vP c.pages),(14,.int .i64 c.pages.length),(15,.int .i64 i)],[(0,some (.cells [encC c] false)),(1,some (.cells [encP (c.pages.getD i default)] false))],2⟩
theorem FN(f:Pg→Int):∀(l m:List Pg),Xl f (l++m)=Xl f l+Xl f m
 |[],m=>by rw[List.nil_append,Xl];omega
 |x::l,m=>by rw[List.cons_append,Xl,Xl,FN f l m];omega
theorem M7(f:Pg→Int){l:List Pg}{i:Nat}(h:i<l.length):Xl f (l.take (i+1))=Xl f (l.take i)+f (l.getD i default):=by
 rw[List.take_add_one,FN,List.getD_eq_getElem?_getD,List.getElem?_eq_getElem h]
 simp[Xl]
theorem MW(f:Pg→Int):∀(l:List Pg),(∀p∈l,0≤f p∧f p≤1048576)→0≤Xl f l∧Xl f l≤1048576*l.length
 |[],_=>⟨Int.le_refl _,by simp[Xl]⟩
 |x::l,h=>by
  have h1:=h x (List.mem_cons_self ..)
  have h2:=MW f l fun p hp=>h p (List.mem_cons_of_mem _ hp)
  rw[Xl,List.length_cons]
  omega
theorem DG(f:Pg→Bool){l:List Pg}{i:Nat}(h:i<l.length):(l.take (i+1)).all f=((l.take i).all f&&f (l.getD i default)):=by
 rw[List.take_add_one,List.all_append,List.getD_eq_getElem?_getD,List.getElem?_eq_getElem h]
 simp
noncomputable def Pb:Nat→Nat→Pl:=VZ [(60,4)] (QV plt)
abbrev cSd:CallT:=Qe 86 (Xw S_cmp) Q9
theorem Oe[Syms]:cSd.ok Try.prog:=Qm O5 Qb
theorem IZ[Syms](k n:Int)(c:Ck)(hp:∀p∈c.pages,GU p)(hl:c.pages.length≤200):
 fnT Q9 cSd (QN fns) (Qz tys) Pb 100 60 [.int .i64 k,.int .i64 n,.agg (encC c)] [] 0 (fun v H _=>v= .bool (W2 k n c)∧H=[]):=by
 repeat' first|refine And.intro ?_ ?_|(intro h;try first|exact dzq|replace h:=cvq)
 all_goals try exact cz
 refine⟨fun m s=>∃(i:Nat) (rs cs:Int) (w:Bool),(i≤c.pages.length∧m=c.pages.length-i∧rs=Xl (·.rows) (c.pages.take i)∧cs=Xl (·.cells) (c.pages.take i)∧w=(c.pages.take i).all (fun p=>decide (p.enc=2))∧(c.pages.take i).all (fun p=>decide (p.rows≠0))=true)∧s=sdS k n c i rs cs w,⟨_,sdS k n c 0 0 0 true,Q0 [0] (by exact rfl) ⟨.refl _,.refl _,.refl _,.refl _,.refl _,.refl _,.tab rfl,Qg (by show((List.length _:Nat):Int)=_;rw[List.length_map]),.refl _,trivial⟩ ⟨⟨by decide,_,rfl,.refl _⟩,trivial⟩,0,0,0,true,⟨by omega,rfl,rfl,rfl,rfl,rfl⟩,rfl⟩,?_⟩
 rintro m s ⟨i,rs,cs,w,⟨hi,rfl,hrs,hcs,hw,ha⟩,rfl⟩
 have hin:∀j,j<c.pages.length→GU (c.pages.getD j default):=fun j hj=>by
  rw[List.getD_eq_getElem?_getD,List.getElem?_eq_getElem hj];exact hp _ (List.getElem_mem hj)
 have hb1:=MW (·.rows) (c.pages.take i) fun p hq=>(hp p (List.mem_of_mem_take hq)).1
 have hb2:=MW (·.cells) (c.pages.take i) fun p hq=>(hp p (List.mem_of_mem_take hq)).2
 have htl:(c.pages.take i).length≤200:=by rw[List.length_take];omega
 rw[←hrs]at hb1
 rw[←hcs]at hb2
 by_cases h1:i<c.pages.length
 ·have hpi:=hin i h1
  have e1:=M7 (·.rows) h1
  have e2:=M7 (·.cells) h1
  have e3:=DG (fun p=>decide (p.enc=2)) h1
  have e4:=DG (fun p=>decide (p.rows≠0)) h1
  rw[←hrs]at e1
  rw[←hcs]at e2
  rw[←hw]at e3
  rw[ha]at e4
  obtain⟨hpr,hpc⟩:=hpi
  repeat' first|refine And.intro ?_ ?_|(intro h;try first|exact dzq|replace h:=cvq)
  all_goals try exact cz
  refine⟨sdB k n c i rs cs w,Q0 [0,1] (by exact rfl) ⟨.refl _,.refl _,.refl _,.refl _,.refl _,.refl _,.refl _,.refl _,.refl _,.refl _,trivial⟩ ⟨⟨by decide,_,rfl,.refl _⟩,⟨by decide,_,rfl,Zd (row:=encP (c.pages.getD i default)) ⟨.refl _,.refl _,.refl _,.refl _,.refl _,.refl _,.refl _,trivial⟩ (eP _)⟩,trivial⟩,?_⟩
  by_cases h2:(c.pages.getD i default).rows=0
  · repeat' first|refine And.intro ?_ ?_|(intro h;try first|exact dzq|replace h:=cvq)
    all_goals try exact cz
    have hf:W2 k n c=false:=by
     have:c.pages.all (fun p=>decide (p.rows≠0))=false:=by
      rw[List.all_eq_false]
      exact⟨_,List.getElem_mem h1,by rw[List.getD_eq_getElem?_getD,List.getElem?_eq_getElem h1]at h2;simpa using h2⟩
     unfold W2
     rw[this];rfl
    exact⟨_,Q4 [6] rfl,_,rfl,by rw[hf];rfl,rfl⟩
  ·have hstep:∀(w':Bool) (rs' cs':Int),rs'=rs+(c.pages.getD i default).rows→cs'=cs+(c.pages.getD i default).cells→w'=(w&&decide ((c.pages.getD i default).enc=2))→ ∃(j:Nat) (rs1 cs1:Int) (w1:Bool),(j≤c.pages.length∧c.pages.length-(i+1)=c.pages.length-j∧rs1=Xl (·.rows) (c.pages.take j)∧cs1=Xl (·.cells) (c.pages.take j)∧w1=(c.pages.take j).all (fun p=>decide (p.enc=2))∧(c.pages.take j).all (fun p=>decide (p.rows≠0))=true)∧sdS k n c (i+1) rs' cs' w'=sdS k n c j rs1 cs1 w1:=by
    rintro w' rs' cs' rfl rfl rfl
    exact⟨i+1,_,_,_,⟨by omega,rfl,e1.symm,e2.symm,e3.symm,by rw[e4,decide_eq_true h2];rfl⟩,rfl⟩
   cases w
   · repeat' first|refine And.intro ?_ ?_|(intro h;try first|exact dzq|replace h:=cvq)
     all_goals try exact czq
     exact⟨_,sdS k n c (i+1) (rs+(c.pages.getD i default).rows) (cs+(c.pages.getD i default).cells) false,Q0 [0] (by exact rfl) ⟨.refl _,.refl _,.refl _,.refl _,.refl _,.refl _,.refl _,.refl _,Qg (by omega),trivial⟩ ⟨⟨by decide,_,rfl,.refl _⟩,trivial⟩,hstep _ _ _ rfl rfl rfl,by omega⟩
   · repeat' first|refine And.intro ?_ ?_|(intro h;try first|exact dzq|replace h:=cvq)
     all_goals try exact czq
     exact⟨_,sdS k n c (i+1) (rs+(c.pages.getD i default).rows) (cs+(c.pages.getD i default).cells) (decide ((c.pages.getD i default).enc=2)),Q0 [0] (by exact rfl) ⟨.refl _,.refl _,.refl _,.refl _,.refl _,QY rfl,.refl _,.refl _,Qg (by omega),trivial⟩ ⟨⟨by decide,_,rfl,.refl _⟩,trivial⟩,hstep _ _ _ rfl rfl rfl,by omega⟩
 ·obtain rfl:i=c.pages.length:=by omega
  rw[List.take_length]at hrs hcs hw ha
  have hso:W2 k n c=(decide (rs=n)&&decide (c.words≤256)&&(w||decide (c.words=0∧c.size=0))&&(!c.known||decide (c.st.nulls≤cs)&&decide (0≤Fs k c.st.mx c.st.mn))):=by
   unfold W2
   rw[ha,←hrs,←hcs,←hw];rfl
  rw[hso]
  clear hso hrs hcs hw ha hin htl
  by_cases h2:rs=n
  ·by_cases h3:c.words≤256
   ·cases w
    ·by_cases h4:c.words=0
     ·by_cases h5:c.size=0
      ·cases hk:c.known
       ·have hx1:=hk
        have hx2:=hk
        have hx3:=hk
        have hx4:=hk
        repeat' first|refine And.intro ?_ ?_|(intro h;try first|exact XF|replace h:=XG)
        all_goals try exact cz
        all_goals exact⟨_,Q4 [6] rfl,_,rfl,congrArg AVal.bool (by simp[*]),rfl⟩
       ·have hx1:=hk
        have hx2:=hk
        have hx3:=hk
        have hx4:=hk
        by_cases h6:c.st.nulls≤cs
        · repeat' first|refine And.intro ?_ ?_|(intro h;try first|exact XF|replace h:=XG)
          all_goals try exact cz
          all_goals refine⟨k,c.st.mx,c.st.mn,rfl,?_⟩
          repeat' first|refine And.intro ?_ ?_|(intro h;try first|exact XF|replace h:=XG)
          all_goals try exact cz
          all_goals exact⟨_,Q4 [6] rfl,_,rfl,congrArg AVal.bool (by simp[*]),rfl⟩
        · repeat' first|refine And.intro ?_ ?_|(intro h;try first|exact XF|replace h:=XG)
          all_goals try exact cz
          all_goals exact⟨_,Q4 [6] rfl,_,rfl,congrArg AVal.bool (by simp[*]),rfl⟩
      · repeat' first|refine And.intro ?_ ?_|(intro h;try first|exact dzq|replace h:=cvq)
        all_goals try exact cz
        all_goals exact⟨_,Q4 [6] rfl,_,rfl,congrArg AVal.bool (by simp[*]),rfl⟩
     · repeat' first|refine And.intro ?_ ?_|(intro h;try first|exact dzq|replace h:=cvq)
       all_goals try exact cz
       all_goals exact⟨_,Q4 [6] rfl,_,rfl,congrArg AVal.bool (by simp[*]),rfl⟩
    ·cases hk:c.known
     ·have hx1:=hk
      have hx2:=hk
      have hx3:=hk
      have hx4:=hk
      repeat' first|refine And.intro ?_ ?_|(intro h;try first|exact XF|replace h:=XG)
      all_goals try exact cz
      all_goals exact⟨_,Q4 [6] rfl,_,rfl,congrArg AVal.bool (by simp[*]),rfl⟩
     ·have hx1:=hk
      have hx2:=hk
      have hx3:=hk
      have hx4:=hk
      by_cases h6:c.st.nulls≤cs
      · repeat' first|refine And.intro ?_ ?_|(intro h;try first|exact XF|replace h:=XG)
        all_goals try exact cz
        all_goals refine⟨k,c.st.mx,c.st.mn,rfl,?_⟩
        repeat' first|refine And.intro ?_ ?_|(intro h;try first|exact XF|replace h:=XG)
        all_goals try exact cz
        all_goals exact⟨_,Q4 [6] rfl,_,rfl,congrArg AVal.bool (by simp[*]),rfl⟩
      · repeat' first|refine And.intro ?_ ?_|(intro h;try first|exact XF|replace h:=XG)
        all_goals try exact cz
        all_goals exact⟨_,Q4 [6] rfl,_,rfl,congrArg AVal.bool (by simp[*]),rfl⟩
   · repeat' first|refine And.intro ?_ ?_|(intro h;try first|exact dzq|replace h:=cvq)
     all_goals try exact cz
     all_goals exact⟨_,Q4 [6] rfl,_,rfl,congrArg AVal.bool (by simp[*]),rfl⟩
  · repeat' first|refine And.intro ?_ ?_|(intro h;try first|exact dzq|replace h:=cvq)
    all_goals try exact cz
    all_goals exact⟨_,Q4 [6] rfl,_,rfl,congrArg AVal.bool (by simp[*]),rfl⟩
def S_sound:SpecI:=fun args K=>∃k n c,args=[.int .i64 k,.int .i64 n,.agg (encC c)]∧((∀p∈c.pages,GU p)∧c.pages.length≤200)∧K (.bool (W2 k n c))
theorem ET[Syms]:Zi Try.prog 60 S_sound:=by
 rintro args K ⟨k,n,c,rfl,⟨h1,h2⟩,hk⟩
 exact⟨rfl,_,rfl,hk,fnI Qp Qq Q5 Oe QJ (IZ k n c h1 h2)⟩
end
section
set_option maxRecDepth 100000
set_option maxHeartbeats 4000000
structure RwOk(L:Nat)(g:Rw):Prop where
 n:0≤g.n∧g.n≤1048576
 len:g.chunks.length≤L
 pages:∀c∈g.chunks,(∀p∈c.pages,GU p)∧c.pages.length≤200
structure MtOk(m:Mt):Prop where
 fs:FsOk m.s
 len:m.groups.length≤200
 groups:∀g∈m.groups,RwOk (QP m.s).length g
theorem Vg:∀(l m:List Rw),Z5 (l++m)=Z5 l+Z5 m
 |[],m=>by rw[List.nil_append,Z5];omega
 |x::l,m=>by rw[List.cons_append,Z5,Z5,Vg l m];omega
theorem CE{l:List Rw}{i:Nat}(h:i<l.length):Z5 (l.take (i+1))=Z5 (l.take i)+(l.getD i default).n:=by
 rw[List.take_add_one,Vg,List.getD_eq_getElem?_getD,List.getElem?_eq_getElem h]
 simp[Z5]
theorem BJ:∀(l:List Rw),(∀g∈l,0≤g.n∧g.n≤1048576)→0≤Z5 l∧Z5 l≤1048576*l.length
 |[],_=>⟨Int.le_refl _,by simp[Z5]⟩
 |x::l,h=>by
  have h1:=h x (List.mem_cons_self ..)
  have h2:=BJ l fun p hp=>h p (List.mem_cons_of_mem _ hp)
  rw[Z5,List.length_cons]
  omega
theorem ED(f:Rw→Bool){l:List Rw}{i:Nat}(h:i<l.length):(l.take (i+1)).all f=((l.take i).all f&&f (l.getD i default)):=by
 rw[List.take_add_one,List.all_append,List.getD_eq_getElem?_getD,List.getElem?_eq_getElem h]
 simp
theorem FO{n:Int}{ls:List Lf}{cs:List Ck}{j:Nat}(h1:j<cs.length)(h2:cs.length≤ls.length):XE n ((Q2 ls).drop j) (cs.drop j)=(W2 (ls.getD j default).kind n (cs.getD j default)&&XE n ((Q2 ls).drop (j+1)) (cs.drop (j+1))):=by
 have e1:(Q2 ls).drop j=(ls.getD j default).kind::(Q2 ls).drop (j+1):=by
  rw[List.drop_eq_getElem_cons (by simp;omega)]
  simp[show j<ls.length by omega]
 have e2:cs.drop j=cs.getD j default::cs.drop (j+1):=by
  rw[List.drop_eq_getElem_cons h1]
  simp[h1]
 rw[e1,e2,XE]
noncomputable def Pa:Nat→Nat→Pl:=VZ [(28,5),(28,11)] (QV plt)
abbrev dWh:CallT:=Qe 60 (Xw S_sound) Q9
theorem O3[Syms]:dWh.det Try.prog:=Y2 ET Q5
abbrev cWh:CallT:=Qe 44 (Xw (seeW S_leaves)) Q9
theorem Oa[Syms]:cWh.ok Try.prog:=Qm Mq.seeW Qb
def whS(m:Mt)(ls:List Lf)(i:Nat)(sm:Int):St:=⟨[(1,.ptr 0 0 0),(3,vL ls),(4,.int .i64 sm),(13,vR m.groups),(14,.int .i64 m.groups.length),(15,.int .i64 i)],[(0,some (.cells [Qv m] false))],1⟩
def whB(m:Mt)(ls:List Lf)(i:Nat)(sm:Int)(g:Rw):St:=⟨[(1,.ptr 0 0 0),(3,vL ls),(4,.int .i64 sm),(6,.ptr 1 0 0),(13,vR m.groups),(14,.int .i64 m.groups.length),(15,.int .i64 i)],[(0,some (.cells [Qv m] false)),(1,some (.cells [encR g] false))],2⟩
def whI(m:Mt)(ls:List Lf)(i:Nat)(sm:Int)(g:Rw)(j:Nat):St:=⟨[(1,.ptr 0 0 0),(3,vL ls),(4,.int .i64 sm),(6,.ptr 1 0 0),(13,vR m.groups),(14,.int .i64 m.groups.length),(15,.int .i64 i),(27,vC g.chunks),(28,.int .i64 g.chunks.length),(29,.int .i64 j)],[(0,some (.cells [Qv m] false)),(1,some (.cells [encR g] false))],2⟩
def whC(m:Mt)(ls:List Lf)(i:Nat)(sm:Int)(g:Rw)(j:Nat)(c:Ck):St:=⟨[(1,.ptr 0 0 0),(3,vL ls),(4,.int .i64 sm),(6,.ptr 1 0 0),(7,.int .i64 j),(8,.ptr 2 0 0),(13,vR m.groups),(14,.int .i64 m.groups.length),(15,.int .i64 i),(27,vC g.chunks),(28,.int .i64 g.chunks.length),(29,.int .i64 j)],[(0,some (.cells [Qv m] false)),(1,some (.cells [encR g] false)),(2,some (.cells [encC c] false))],3⟩
theorem IR[Syms](m:Mt)(h:MtOk m):
 fnT dWh cWh (QN fns) (Qz tys) Pa 100 28 [.agg (Qv m)] [] 0 (fun v H _=>v= .bool (W0 m)∧H=[]):=by
 obtain⟨hfs,hgl,hgr⟩:=h
 repeat' first|refine And.intro ?_ ?_|(intro h;try first|exact dzq|replace h:=cvq)
 all_goals try exact cz
 refine⟨[vF m.s],⟨.tab rfl,trivial⟩,m.s,rfl,hfs,?_⟩
 have hll:(QP m.s).length≤1000:=by have h1:(QP m.s).length≤m.s.length:=Zs _ _ _;have h2:=hfs.len;omega
 have hwh:W0 m=((m.groups.all fun g=>decide (g.n≠0)&&XE g.n (Q2 (QP m.s)) g.chunks)&&decide (Z5 m.groups=m.n∧Z5 m.groups≤200)):=rfl
 generalize QP m.s=ls at *
 repeat' first|refine And.intro ?_ ?_|(intro h;try first|exact dzq|replace h:=cvq)
 all_goals try exact cz
 refine⟨fun q s=>∃(i:Nat) (sm:Int),(i≤m.groups.length∧q=m.groups.length-i∧sm=Z5 (m.groups.take i)∧(m.groups.take i).all (fun g=>decide (g.n≠0)&&XE g.n (Q2 ls) g.chunks)=true)∧s=whS m ls i sm,⟨_,whS m ls 0 0,Q0 [0] (by exact rfl) ⟨.refl _,.refl _,.refl _,.tab rfl,Qg (by show((List.length _:Nat):Int)=_;rw[List.length_map]),.refl _,trivial⟩ ⟨⟨by decide,_,rfl,.refl _⟩,trivial⟩,0,0,⟨by omega,rfl,rfl,rfl⟩,rfl⟩,?_⟩
 rintro q s ⟨i,sm,⟨hi,rfl,hsm,hal⟩,rfl⟩
 have hb:=BJ (m.groups.take i) fun p hq=>(hgr p (List.mem_of_mem_take hq)).n
 have htl:(m.groups.take i).length≤200:=by rw[List.length_take];omega
 rw[←hsm]at hb
 by_cases h1:i<m.groups.length
 ·have hgi:RwOk ls.length (m.groups.getD i default):=by
   rw[List.getD_eq_getElem?_getD,List.getElem?_eq_getElem h1];exact hgr _ (List.getElem_mem h1)
  have e1:=CE h1
  have e2:=ED (fun g=>decide (g.n≠0)&&XE g.n (Q2 ls) g.chunks) h1
  have hbad:(decide ((m.groups.getD i default).n≠0)&&XE (m.groups.getD i default).n (Q2 ls) (m.groups.getD i default).chunks)=false→W0 m=false:=by
   intro hb
   have:(m.groups.all fun g=>decide (g.n≠0)&&XE g.n (Q2 ls) g.chunks)=false:=by
    rw[List.all_eq_false]
    refine⟨_,List.getElem_mem h1,?_⟩
    rw[List.getD_eq_getElem?_getD,List.getElem?_eq_getElem h1]at hb
    rw[show m.groups[i]=(some m.groups[i]).getD default from rfl,hb];decide
   rw[hwh,this];rfl
  rw[←hsm]at e1
  rw[hal]at e2
  obtain⟨hn,hcl,hpg⟩:=hgi
  repeat' first|refine And.intro ?_ ?_|(intro h;try first|exact dzq|replace h:=cvq)
  all_goals try exact czq
  refine⟨whB m ls i sm (m.groups.getD i default),Q0 [0,1] (by exact rfl) ⟨.refl _,.refl _,.refl _,.refl _,.refl _,.refl _,.refl _,trivial⟩ ⟨⟨by decide,_,rfl,.refl _⟩,⟨by decide,_,rfl,Zd (row:=encR (m.groups.getD i default)) ⟨.refl _,.refl _,trivial⟩ (eR _)⟩,trivial⟩,?_⟩
  generalize m.groups.getD i default=g at *
  by_cases h2:g.n=0
  · repeat' first|refine And.intro ?_ ?_|(intro h;try first|exact dzq|replace h:=cvq)
    all_goals try exact czq
    exact⟨_,Q4 [2] rfl,_,rfl,by rw[hbad (by rw[h2];rfl)];rfl,rfl⟩
  ·rw[decide_eq_true h2,Bool.true_and]at hbad e2
   repeat' first|refine And.intro ?_ ?_|(intro h;try first|exact dzq|replace h:=cvq)
   all_goals try exact czq
   refine⟨fun q s=>∃(j:Nat),(j≤g.chunks.length∧q=g.chunks.length-j∧XE g.n (Q2 ls) g.chunks=XE g.n ((Q2 ls).drop j) (g.chunks.drop j))∧s=whI m ls i (sm+g.n) g j,⟨_,whI m ls i (sm+g.n) g 0,Q0 [0,1] (by exact rfl) ⟨.refl _,.refl _,.refl _,.refl _,.refl _,.refl _,.refl _,.tab rfl,Qg (by show(((g.chunks.map encC).length:Nat):Int)=_;rw[List.length_map]),.refl _,trivial⟩ ⟨⟨by decide,_,rfl,.refl _⟩,⟨by decide,_,rfl,.refl _⟩,trivial⟩,0,⟨by omega,rfl,rfl⟩,rfl⟩,?_⟩
   rintro q s ⟨j,⟨hj,rfl,hso⟩,rfl⟩
   by_cases h3:j<g.chunks.length
   ·have hd:=FO (n:=g.n) h3 hcl
    have hpj:(∀p∈(g.chunks.getD j default).pages,GU p)∧(g.chunks.getD j default).pages.length≤200:=by
     rw[List.getD_eq_getElem?_getD,List.getElem?_eq_getElem h3];exact hpg _ (List.getElem_mem h3)
    repeat' first|refine And.intro ?_ ?_|(intro h;try first|exact dzq|replace h:=cvq)
    all_goals try exact czq
    refine⟨whC m ls i (sm+g.n) g j (g.chunks.getD j default),Q0 [0,1,2] (by exact rfl) ⟨.refl _,.refl _,.refl _,.refl _,.refl _,.refl _,.refl _,.refl _,.refl _,.refl _,.refl _,.refl _,trivial⟩ ⟨⟨by decide,_,rfl,.refl _⟩,⟨by decide,_,rfl,.refl _⟩,⟨by decide,_,rfl,Zd (row:=encC (g.chunks.getD j default)) ⟨.refl _,.refl _,.refl _,.refl _,.refl _,.refl _,.refl _,.refl _,.refl _,.refl _,.refl _,trivial⟩ (eC _)⟩,trivial⟩,?_⟩
    generalize g.chunks.getD j default=c at *
    repeat' first|refine And.intro ?_ ?_|(intro h;try first|exact dzq|replace h:=cvq)
    all_goals try exact czq
    refine⟨(ls.getD j default).kind,g.n,c,rfl,hpj,?_⟩
    cases hs:W2 (ls.getD j default).kind g.n c
    ·skip
     have hx1:=hs
     have hx2:=hs
     have hx3:=hs
     have hx4:=hs
     repeat' first|refine And.intro ?_ ?_|(intro h;try first|exact XF|replace h:=XG)
     all_goals try exact czq
     exact⟨_,Q4 [2] rfl,_,rfl,by rw[hbad (by rw[hso,hd,hs];rfl)];rfl,rfl⟩
    ·rw[hs,Bool.true_and]at hd
     have hx1:=hs
     have hx2:=hs
     have hx3:=hs
     have hx4:=hs
     repeat' first|refine And.intro ?_ ?_|(intro h;try first|exact XF|replace h:=XG)
     all_goals try exact czq
     exact⟨_,whI m ls i (sm+g.n) g (j+1),Q0 [0,1] (by exact rfl) ⟨.refl _,.refl _,.refl _,.refl _,.refl _,.refl _,.refl _,.refl _,.refl _,Qg (by omega),trivial⟩ ⟨⟨by decide,_,rfl,.refl _⟩,⟨by decide,_,rfl,.refl _⟩,trivial⟩,⟨j+1,⟨by omega,rfl,by rw[hso,hd]⟩,rfl⟩,by omega⟩
   ·obtain rfl:j=g.chunks.length:=by omega
    have hs1:XE g.n (Q2 ls) g.chunks=true:=by
     rw[hso,List.drop_length]
     cases(Q2 ls).drop g.chunks.length<;>rfl
    rw[hs1]at e2
    repeat' first|refine And.intro ?_ ?_|(intro h;try first|exact dzq|replace h:=cvq)
    all_goals try exact czq
    exact⟨_,whS m ls (i+1) (sm+g.n),Q0 [0] (by exact rfl) ⟨.refl _,.refl _,.refl _,.refl _,.refl _,Qg (by omega),trivial⟩ ⟨⟨by decide,_,rfl,.refl _⟩,trivial⟩,⟨i+1,sm+g.n,⟨by omega,rfl,e1.symm,e2⟩,rfl⟩,by omega⟩
 ·obtain rfl:i=m.groups.length:=by omega
  rw[List.take_length]at hsm hal
  rw[hwh,hal,←hsm,Bool.true_and]
  have hx1:(Qv m).getD 1 .any= .int .i64 m.n:=rfl
  have hx2:(Qv m).getD (0+1) .any= .int .i64 m.n:=rfl
  have hx3:=hx1
  have hx4:=hx2
  clear hsm hwh
  by_cases h2:sm=m.n
  ·by_cases h3:sm≤200
   · repeat' first|refine And.intro ?_ ?_|(intro h;try first|exact XF|replace h:=XG)
     all_goals try exact czq
     all_goals exact⟨_,Q4 [2] rfl,_,rfl,congrArg AVal.bool (by simp[*]),rfl⟩
   · repeat' first|refine And.intro ?_ ?_|(intro h;try first|exact XF|replace h:=XG)
     all_goals try exact czq
     all_goals exact⟨_,Q4 [2] rfl,_,rfl,congrArg AVal.bool (by simp[*]),rfl⟩
  · repeat' first|refine And.intro ?_ ?_|(intro h;try first|exact XF|replace h:=XG)
    all_goals try exact czq
    all_goals exact⟨_,Q4 [2] rfl,_,rfl,congrArg AVal.bool (by simp[*]),rfl⟩
def S_whole:SpecI:=fun args K=>∃m,args=[.agg (Qv m)]∧MtOk m∧K (.bool (W0 m))
theorem EJ[Syms]:Zi Try.prog 28 S_whole:=by
 rintro args K ⟨m,rfl,h,hk⟩
 exact⟨rfl,_,rfl,hk,fnI Qp Qq O3 Oa QJ (IR m h)⟩
end
end Go.Proofs.Ytajieadpaeggcaa
