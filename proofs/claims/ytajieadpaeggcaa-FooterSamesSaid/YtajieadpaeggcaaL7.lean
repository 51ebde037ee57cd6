/-
  The footer's reader:a chunk. The program's. The footer's reader:a group of records. The program's.
-/
import Derived.Test.YtajieadpaeggcaaL6
import Derived.Test.YtajieadpaeggcaaSxOne
set_option linter.unusedVariables false
set_option linter.unusedSimpArgs false
namespace Go.Proofs.Ytajieadpaeggcaa
open Go Go.Av
section
set_option maxRecDepth 100000
set_option maxHeartbeats 4000000
abbrev OY[Syms]:CallT:=Qe 57 (Z6 VF) (Qe 102 (Z6 GT) (Qe 55 (Z6 GS) (Qe 103 (Z6 JD) (Qe 105 (Z6 GR) (Qe 106 (Z6 IK) (Qe 104 (GE Q9 Q9 (QN fns) (Qz tys) (QV plt) 100) Q9))))))
theorem LZ[Syms]:OY.ok Try.prog:=Qc VQ (Qc Jx (Qc Jv (Qc I5 (Qc Mu (Qc Lt (Xi (Xz Qp Qq Q5 Qb QJ) Qb))))))
noncomputable def Pi:Nat→Nat→Pl:=VZ [(84,6),(84,8),(84,9),(84,13)] (QV plt)
def Wh(a b c:Int)(v:AVal):List AVal:=[.int .i64 a,.int .i64 b,.int .u32 c,v,.bool false,.int .i64 0,.bool false,.int .i64 0,.str [],.int .i64 0,.str []]
def ckS(k:Int)(n i:Nat)(r:BR)(a b c:Int)(ps:List Pg):St:=⟨[(0,.ptr 0 0 0),(1,.int .i64 k),(4,.ptr 1 0 0),(5,.ptr 2 0 0),(17,.int .i64 n),(18,.int .i64 i)],[(0,rdB r),(1,some (.cells [Wh 0 0 0 .nils] false)),(2,some (.cells [Wh a b c (.slice 3 0 ps.length 7 none)] false)),(3,some (.cells (ps.map encP) false))],4⟩
def ckN(k:Int)(n i:Nat)(r:BR)(a b c:Int):St:=⟨[(0,.ptr 0 0 0),(1,.int .i64 k),(4,.ptr 1 0 0),(5,.ptr 2 0 0),(17,.int .i64 n),(18,.int .i64 i)],[(0,rdB r),(1,some (.cells [Wh 0 0 0 .nils] false)),(2,some (.cells [Wh a b c .nils] false))],3⟩
theorem Kx(r:BR):(Y4 r).2.b.length≤r.b.length:=by
 unfold Y4 Ql
 exact Nat.le_trans (Xy _ _) (Nat.le_trans (QF _ _ _) (Nat.le_trans (QF _ _ _) (Nat.le_trans (QF _ _ _) (Nat.le_trans (QF _ _ _) (Nat.le_trans (QF _ _ _) (QF _ _ _))))))
theorem J3(k:Nat)(r:BR)(s:List Pg)(h:r.e=0):Xt (k+1) r s=Xt k (Y4 r).2 (s++[(Y4 r).1]):=by
 rw[Xt,if_neg (fun x=>x h)]
theorem Wl(k:Nat)(r:BR)(s:List Pg)(h:r.e≠0):Xt k r s=(s,r):=by
 cases k with
 |zero=>rfl
 |succ k=>rw[Xt,if_pos h]
theorem Ux(k:Int)(r:BR):(WW k r).2.b.length≤r.b.length:=by
 unfold WW
 split
 ·exact ZV _
 ·split
  ·exact Xy _ _
  ·split
   ·exact Xy _ _
   ·exact Nat.le_trans (WE _ _) (QF _ _ _)
theorem eC(p:Ck):∀x∈encC p,x.flat=true:=fC [p] _ (List.mem_singleton.2 rfl)
theorem Un[Syms]{N K nx:Nat}{e:Env}{H:Heap}{k a b c i1:Int}{n i:Nat}{q:BR}{ps:List Pg}{rows:List (List AVal)}{len:Nat}(hn:Zm 1 nx [0,1,2,K]=true)(h0:e.get 0= .ptr 0 0 0)(h1:e.get 1= .int .i64 k)(h4:e.get 4= .ptr 1 0 0)(h5:e.get 5= .ptr 2 0 0)(h17:e.get 17= .int .i64 n)(h18:e.get 18= .int .i64 i1)(hi:i1=i)
 (H0:H.get 0=rdB q) (H1:H.get 1=some (.cells [Wh 0 0 0 .nils] false)) (H2:H.get 2=some (.cells [Wh a b c (.slice K 0 len 7 none)] false)) (HK:H.get K=some (.cells rows false)) (hr:rows=ps.map encP) (hl:len=ps.length):Reb 1 N ⟨e,H,nx⟩ (ckS k n i q a b c ps):=by
 subst hr hl hi
 exact Q0 [0,1,2,K] hn ⟨by rw[h0];exact .refl _,by rw[h1];exact .refl _,by rw[h4];exact .refl _,by rw[h5];exact .refl _,by rw[h17];exact .refl _,by rw[h18];exact .refl _,trivial⟩
  ⟨⟨show 0<4 by decide,_,H0,.refl _⟩,⟨show 1<4 by decide,_,H1,.refl _⟩,⟨show 2<4 by decide,_,H2,.refl _⟩,⟨show 3<4 by decide,_,HK,Qd (fP _)⟩,trivial⟩
def ckF(k:Int)(q:BR)(a b c:Int)(ps:List Pg):St:=⟨[(0,.ptr 0 0 0),(1,.int .i64 k),(4,.ptr 1 0 0),(5,.ptr 2 0 0)],[(0,rdB q),(1,some (.cells [Wh 0 0 0 .nils] false)),(2,some (.cells [Wh a b c (.vs 7 (ps.map encP))] false))],3⟩
theorem LN[Syms]{N K nx:Nat}{e:Env}{H:Heap}{k a b c:Int}{q:BR}{ps:List Pg}{rows:List (List AVal)}{len:Nat}(hp:0<ps.length)(hn:Zm 1 nx [0,1,2,K]=true)(h0:e.get 0= .ptr 0 0 0)(h1:e.get 1= .int .i64 k)(h4:e.get 4= .ptr 1 0 0)(h5:e.get 5= .ptr 2 0 0)
 (H0:H.get 0=rdB q) (H1:H.get 1=some (.cells [Wh 0 0 0 .nils] false)) (H2:H.get 2=some (.cells [Wh a b c (.slice K 0 len 7 none)] false)) (HK:H.get K=some (.cells rows false)) (hr:rows=ps.map encP) (hl:len=ps.length):Reb 1 N ⟨e,H,nx⟩ (ckF k q a b c ps):=by
 subst hr hl
 have hcut:((ps.map encP).drop 0).take ps.length=ps.map encP:=by rw[List.drop_zero,List.take_of_length_le (by simp)]
 have hs:FzV 3 (ps.map encP) (.slice 3 0 ps.length 7 none) (.vs 7 (ps.map encP)):=by
  have:=FzV.sl (n:=3) (rows:=ps.map encP) 0 ps.length 7 none hp (by simp)
  rwa [hcut]at this
 refine(Q0 (e3:=[(0,.ptr 0 0 0),(1,.int .i64 k),(4,.ptr 1 0 0),(5,.ptr 2 0 0)]) (H3:=[(0,rdB q),(1,some (.cells [Wh 0 0 0 .nils] false)),(2,some (.cells [Wh a b c (.slice 3 0 ps.length 7 none)] false)),(3,some (.cells (ps.map encP) false))]) [0,1,2,K] hn ⟨by rw[h0];exact .refl _,by rw[h1];exact .refl _,by rw[h4];exact .refl _,by rw[h5];exact .refl _,trivial⟩
  ⟨⟨show 0<4 by decide,_,H0,.refl _⟩,⟨show 1<4 by decide,_,H1,.refl _⟩,⟨show 2<4 by decide,_,H2,.refl _⟩,⟨show 3<4 by decide,_,HK,Qd (fP _)⟩,trivial⟩).trans ?_
 refine(ZS (n:=3) (e3:=[(0,.ptr 0 0 0),(1,.int .i64 k),(4,.ptr 1 0 0),(5,.ptr 2 0 0)]) (H3:=[(0,rdB q),(1,some (.cells [Wh 0 0 0 .nils] false)),(2,some (.cells [Wh a b c (.vs 7 (ps.map encP))] false))]) rfl (fP ps) ⟨.same _,.same _,.same _,.same _,trivial⟩
  ⟨⟨by decide,_,rfl,.same _⟩,⟨by decide,_,rfl,.same _⟩,⟨by decide,_,rfl,.cells [Wh a b c (.slice 3 0 ps.length 7 none)] [Wh a b c (.vs 7 (ps.map encP))] false rfl (fun j r r' h h'=>?_)⟩,trivial⟩).trans (Q0 [0,1,2] rfl ⟨.refl _,.refl _,.refl _,.refl _,trivial⟩ ⟨⟨by decide,_,rfl,.refl _⟩,⟨by decide,_,rfl,.refl _⟩,⟨by decide,_,rfl,.refl _⟩,trivial⟩)
 cases j with
 |zero=>
  cases h;cases h'
  exact⟨.same _,.same _,.same _,hs,.same _,.same _,.same _,.same _,.same _,.same _,.same _,trivial⟩
 |succ j=>simp at h
theorem Is[Syms]{N nx:Nat}{e:Env}{H:Heap}{k a b c:Int}{q:BR}(hn:Zm 1 nx [0,1,2]=true)(h0:e.get 0= .ptr 0 0 0)(h1:e.get 1= .int .i64 k)(h4:e.get 4= .ptr 1 0 0)(h5:e.get 5= .ptr 2 0 0)
 (H0:H.get 0=rdB q) (H1:H.get 1=some (.cells [Wh 0 0 0 .nils] false)) (H2:H.get 2=some (.cells [Wh a b c .nils] false)):Reb 1 N ⟨e,H,nx⟩ (ckF k q a b c []):=
 Q0 [0,1,2] hn ⟨by rw[h0];exact .refl _,by rw[h1];exact .refl _,by rw[h4];exact .refl _,by rw[h5];exact .refl _,trivial⟩
  ⟨⟨show 0<3 by decide,_,H0,.refl _⟩,⟨show 1<3 by decide,_,H1,.refl _⟩,⟨show 2<3 by decide,_,H2,Q6 (row:=Wh a b c (.vs 7 [])) ⟨.refl _,.refl _,.refl _,.zero _ _ rfl,.refl _,.refl _,.refl _,.refl _,.refl _,.refl _,.refl _,trivial⟩⟩,trivial⟩
abbrev Zq(a b c:Int)(v:AVal)(kn:Bool)(nu:Int)(ha:Bool):List AVal:=[.int .i64 a,.int .i64 b,.int .u32 c,v,.bool kn,.int .i64 nu,.bool ha,.int .i64 0,.str [],.int .i64 0,.str []]
abbrev ckG(k:Int)(q:BR)(a b c:Int)(ps:List Pg)(kn:Bool)(nu:Int)(ha:Bool):St:=⟨[(0,.ptr 0 0 0),(1,.int .i64 k),(4,.ptr 1 0 0),(5,.ptr 2 0 0)],[(0,rdB q),(1,some (.cells [Wh 0 0 0 .nils] false)),(2,some (.cells [Zq a b c (.vs 7 (ps.map encP)) kn nu ha] false))],3⟩
theorem Wo[Syms]{N nx:Nat}{e:Env}{H:Heap}{k a b c nu:Int}{q:BR}{ps:List Pg}{kn ha:Bool}{row:List AVal}(hn:Zm 1 nx [0,1,2]=true)(h0:e.get 0= .ptr 0 0 0)(h1:e.get 1= .int .i64 k)(h4:e.get 4= .ptr 1 0 0)(h5:e.get 5= .ptr 2 0 0)
 (H0:H.get 0=rdB q) (H1:H.get 1=some (.cells [Wh 0 0 0 .nils] false)) (H2:H.get 2=some (.cells [row] false)) (hr:VE row (Zq a b c (.vs 7 (ps.map encP)) kn nu ha)):Reb 1 N ⟨e,H,nx⟩ (ckG k q a b c ps kn nu ha):=
 Q0 [0,1,2] hn ⟨by rw[h0];exact .refl _,by rw[h1];exact .refl _,by rw[h4];exact .refl _,by rw[h5];exact .refl _,trivial⟩
  ⟨⟨show 0<3 by decide,_,H0,.refl _⟩,⟨show 1<3 by decide,_,H1,.refl _⟩,⟨show 2<3 by decide,_,H2,Q6 hr⟩,trivial⟩
theorem Nn(ps:List Pg)(p:Pg):List.take ps.length (List.drop 0 (ps.map encP))++[encP p]=(ps++[p]).map encP:=by
 rw[List.drop_zero,List.take_of_length_le (by simp),List.map_append];rfl
theorem Ib[Syms]{Post:AVal→Heap→Nat→Prop}(k:Int)(r:BR)(hl:r.b.length≤1000000)(hP:Post (.agg (encC (ZX k r).1)) [(0,rdB (ZX k r).2)] 2):
 fnT Q9 OY (QN fns) (Qz tys) Pi 100 84 [.ptr 0 0 0,.int .i64 k] [(0,rdB r)] 1 (UA Post):=by
 unfold ZX Ds at hP
 dsimp only at hP
 refine⟨[0],[.ptr 0 0 0],[(0,rdB r)],rfl,⟨.refl _,trivial⟩,⟨⟨by decide,_,rfl,.refl _⟩,trivial⟩,r,rfl,rfl,rfl,by omega,?_⟩
 have l_r1:(Ql r).2.b.length≤r.b.length:=QF _ _ _
 have n_v1:(Ql r).1≤1048576:=Zf (by decide) _
 generalize Ql r=q at *
 obtain⟨v1,r1⟩:=q
 replace l_r1:r1.b.length≤r.b.length:=l_r1
 replace n_v1:v1≤1048576:=n_v1
 dsimp only at hP
 refine⟨[0],[.ptr 0 0 0],[(0,rdB r1)],rfl,⟨.refl _,trivial⟩,⟨⟨by decide,_,rfl,.refl _⟩,trivial⟩,r1,rfl,rfl,rfl,by omega,?_⟩
 have l_r2:(Ql r1).2.b.length≤r1.b.length:=QF _ _ _
 have n_v2:(Ql r1).1≤1048576:=Zf (by decide) _
 generalize Ql r1=q at *
 obtain⟨v2,r2⟩:=q
 replace l_r2:r2.b.length≤r1.b.length:=l_r2
 replace n_v2:v2≤1048576:=n_v2
 dsimp only at hP
 refine⟨[0],[.ptr 0 0 0,.int .i64 ((4:Nat):Int)],[(0,rdB r2)],rfl,⟨.refl _,.refl _,trivial⟩,⟨⟨by decide,_,rfl,.refl _⟩,trivial⟩,r2,4,rfl,rfl,rfl,⟨by decide,by omega⟩,?_⟩
 have l_r3:(Zc 4 r2).2.b.length≤r2.b.length:=Xy _ _
 have n_v3:(Zc 4 r2).1<256^4:=Jw _ _
 generalize Zc 4 r2=q at *
 obtain⟨v3,r3⟩:=q
 replace l_r3:r3.b.length≤r2.b.length:=l_r3
 replace n_v3:v3<256^4:=n_v3
 dsimp only at hP
 have hw:=N8 n_v3
 repeat' first|refine And.intro ?_ ?_|(intro h;try first|exact dz|replace h:=cv)
 all_goals try exact cz
 refine⟨[0],[.ptr 0 0 0,.int .i64 ((200:Nat):Int),.int .i64 4],[(0,rdB r3)],rfl,⟨.refl _,.refl _,.refl _,trivial⟩,⟨⟨by decide,_,rfl,.refl _⟩,trivial⟩,r3,200,4,rfl,rfl,rfl,⟨by omega,by omega,by decide⟩,?_⟩
 have l_r4:(QX 200 4 r3).2.b.length≤r3.b.length:=QF _ _ _
 have n_n:(QX 200 4 r3).1≤200:=Zf (by decide) _
 generalize QX 200 4 r3=q at *
 obtain⟨n,r4⟩:=q
 replace l_r4:r4.b.length≤r3.b.length:=l_r4
 replace n_n:n≤200:=n_n
 dsimp only at hP
 repeat' first|refine And.intro ?_ ?_|(intro h;try first|exact dz|replace h:=cv)
 all_goals try exact cz
 refine⟨fun m s=>∃(i:Nat) (q:BR) (ps:List Pg),(i≤n∧m=n-i∧ps.length≤i∧q.b.length≤r.b.length∧Xt (n-i) q ps=Xt n r4 [])∧(s=ckS k n i q v1 v2 v3 ps∧0<ps.length∨s=ckN k n i q v1 v2 v3∧ps=[]),⟨_,ckN k n 0 r4 v1 v2 v3,Q0 [0,1,5] (by first|rfl|kernel_rfl) ⟨.refl _,.refl _,.refl _,.refl _,.refl _,.refl _,trivial⟩ ⟨⟨by decide,_,rfl,.refl _⟩,⟨by decide,_,rfl,.refl _⟩,⟨by decide,_,rfl,Q6 (row:=Wh v1 v2 v3 .nils) ⟨.refl _,.refl _,Qg hw,.refl _,.refl _,.refl _,.refl _,.refl _,.refl _,.refl _,.refl _,trivial⟩⟩,trivial⟩,0,r4,[],⟨by omega,rfl,by simp,by omega,rfl⟩,.inr ⟨rfl,rfl⟩⟩,?_⟩
 rintro m s ⟨i,q,ps,⟨hi,rfl,hpl,hql,hfr⟩,⟨rfl,hp0⟩|⟨rfl,rfl⟩⟩
 ·by_cases h1:i<n
  ·by_cases h2:q.e=0
   ·skip
    have hst:n-i=n-(i+1)+1:=by omega
    have hfs:=J3 (n-(i+1)) q ps h2
    have hpl2:=Kx q
    have hcall:∀(K:AVal→Heap→Nat→Prop),K (.agg (encP (Y4 q).1)) [(0,rdB (Y4 q).2)] 2→JD [.ptr 0 0 0] [(0,rdB q)] 1 K:=fun K hk=>⟨q,rfl,rfl,rfl,by omega,hk⟩
    generalize Y4 q=y at *
    obtain⟨p,q2⟩:=y
    dsimp only at hfs hpl2 hcall
    repeat' first|refine And.intro ?_ ?_|(intro h;try first|exact dz|replace h:=cv)
    all_goals try exact cz
    refine⟨ckS k n i q2 v1 v2 v3 (ps++[p]),?_,?_⟩
    · repeat' first|refine And.intro ?_ ?_|(intro h;try first|exact dz|replace h:=cv)
      all_goals try exact cz
      all_goals(refine⟨[0],[.ptr 0 0 0],[(0,rdB q)],rfl,⟨.refl _,trivial⟩,⟨⟨by decide,_,rfl,.refl _⟩,trivial⟩,?_⟩;refine hcall _ ?_)
      repeat' first|refine And.intro ?_ ?_|(intro h;try first|exact dz|replace h:=cv)
      all_goals try exact cz
      all_goals(refine Exists.intro () ?_;first|exact Un (K:=7) (by exact rfl) rfl rfl rfl rfl rfl rfl rfl rfl rfl rfl rfl (Nn _ _) (by simp)|exact Un (K:=6) (by exact rfl) rfl rfl rfl rfl rfl rfl rfl rfl rfl rfl rfl (Nn _ _) (by simp))
    · repeat' first|refine And.intro ?_ ?_|(intro h;try first|exact dz|replace h:=cv)
      all_goals try exact cz
      exact⟨_,ckS k n (i+1) q2 v1 v2 v3 (ps++[p]),Un (K:=3) rfl rfl rfl rfl rfl rfl rfl (by omega) rfl rfl rfl rfl rfl rfl,⟨i+1,q2,ps++[p],⟨by omega,rfl,by simp;omega,by omega,by rw[←hfr,hst,hfs]⟩,.inl ⟨rfl,by simp⟩⟩,by omega⟩
   ·skip
    repeat' first|refine And.intro ?_ ?_|(intro h;try first|exact dz|replace h:=cv)
    all_goals try exact cz
    exact⟨_,ckS k n (i+1) q v1 v2 v3 ps,Un (K:=3) rfl rfl rfl rfl rfl rfl rfl (by omega) rfl rfl rfl rfl rfl rfl,⟨i+1,q,ps,⟨by omega,rfl,by omega,hql,by rw[←hfr,Wl _ _ _ h2,Wl _ _ _ h2]⟩,.inl ⟨rfl,hp0⟩⟩,by omega⟩
  ·skip
   have hfe:Xt n r4 []=(ps,q):=by
    rw[←hfr,show n-i=0 by omega];rfl
   rw[hfe]at hP
   dsimp only at hP
   repeat' first|refine And.intro ?_ ?_|(intro h;try first|exact dz|replace h:=cv)
   all_goals try exact cz
   ·show V9 7 (List.take ps.length (List.drop 0 (ps.map encP)))=true
    rw[List.drop_zero,List.take_of_length_le (by simp)];exact We (enc:=encP) (z:=7) (fun _=>rfl) _
   refine⟨_,.refl _ _ _,_,rfl,?_⟩
   repeat' first|refine And.intro ?_ ?_|(intro h;try first|exact dz|replace h:=cv)
   all_goals try exact cz
   refine⟨_,LN (K:=5) hp0 (by exact rfl) rfl rfl rfl rfl rfl rfl rfl rfl (by show[]++List.take ps.length (List.drop 0 (ps.map encP))=_;rw[List.drop_zero,List.take_of_length_le (by simp)];rfl) (Nat.zero_add _),?_⟩
   unfold Dd at hP
   dsimp only at hP
   refine⟨[0],[.ptr 0 0 0],[(0,rdB q)],rfl,⟨.refl _,trivial⟩,⟨⟨by decide,_,rfl,.refl _⟩,trivial⟩,q,rfl,rfl,rfl,by omega,?_⟩
   have l_q1:(Zj q).2.b.length≤q.b.length:=ZV _
   have n_t1:(Zj q).1≤1:=VI _
   generalize Zj q=q at *
   obtain⟨t1,q1⟩:=q
   replace l_q1:q1.b.length≤q.b.length:=l_q1
   replace n_t1:t1≤1:=n_t1
   dsimp only at hP
   by_cases ht1:t1=1
   ·subst ht1
    rw[if_neg (fun h=>h rfl)]at hP
    repeat' first|refine And.intro ?_ ?_|(intro h;try first|exact dz|replace h:=cv)
    all_goals try exact cz
    refine⟨_,Wo (k:=k) (q:=q1) (a:=v1) (b:=v2) (c:=v3) (ps:=ps) (kn:=true) (nu:=0) (ha:=false) (by exact rfl) rfl rfl rfl rfl rfl rfl rfl ⟨.refl _,.refl _,.refl _,.refl _,QY rfl,.refl _,.refl _,.refl _,.refl _,.refl _,.refl _,trivial⟩,?_⟩
    repeat' first|refine And.intro ?_ ?_|(intro h;try first|exact dz|replace h:=cv)
    all_goals try exact cz
    refine⟨[0],[.ptr 0 0 0],[(0,rdB q1)],rfl,⟨.refl _,trivial⟩,⟨⟨by decide,_,rfl,.refl _⟩,trivial⟩,q1,rfl,rfl,rfl,by omega,?_⟩
    have l_q2:(Ql q1).2.b.length≤q1.b.length:=QF _ _ _
    have n_v4:(Ql q1).1≤1048576:=Zf (by decide) _
    generalize Ql q1=q at *
    obtain⟨v4,q2⟩:=q
    replace l_q2:q2.b.length≤q1.b.length:=l_q2
    replace n_v4:v4≤1048576:=n_v4
    dsimp only at hP
    repeat' first|refine And.intro ?_ ?_|(intro h;try first|exact dz|replace h:=cv)
    all_goals try exact cz
    refine⟨[0],[.ptr 0 0 0],[(0,rdB q2)],rfl,⟨.refl _,trivial⟩,⟨⟨by decide,_,rfl,.refl _⟩,trivial⟩,q2,rfl,rfl,rfl,by omega,?_⟩
    have l_q3:(Zj q2).2.b.length≤q2.b.length:=ZV _
    have n_t2:(Zj q2).1≤1:=VI _
    generalize Zj q2=q at *
    obtain⟨t2,q3⟩:=q
    replace l_q3:q3.b.length≤q2.b.length:=l_q3
    replace n_t2:t2≤1:=n_t2
    dsimp only at hP
    by_cases ht2:t2=1
    ·subst ht2
     rw[if_neg (fun h=>h rfl)]at hP
     repeat' first|refine And.intro ?_ ?_|(intro h;try first|exact dz|replace h:=cv)
     all_goals try exact cz
     refine⟨_,Wo (k:=k) (q:=q3) (a:=v1) (b:=v2) (c:=v3) (ps:=ps) (kn:=true) (nu:=v4) (ha:=true) (by exact rfl) rfl rfl rfl rfl rfl rfl rfl ⟨.refl _,.refl _,.refl _,.refl _,.refl _,.refl _,QY rfl,.refl _,.refl _,.refl _,.refl _,trivial⟩,?_⟩
     repeat' first|refine And.intro ?_ ?_|(intro h;try first|exact dz|replace h:=cv)
     all_goals try exact cz
     refine⟨[0],[.ptr 0 0 0,.int .i64 k],[(0,rdB q3)],rfl,⟨.refl _,.refl _,trivial⟩,⟨⟨by decide,_,rfl,.refl _⟩,trivial⟩,k,q3,rfl,rfl,rfl,by omega,?_⟩
     have l_q4:(WW k q3).2.b.length≤q3.b.length:=Ux _ _
     generalize WW k q3=y at *
     obtain⟨w1,q4⟩:=y
     replace l_q4:q4.b.length≤q3.b.length:=l_q4
     dsimp only at hP
     refine⟨[0],[.ptr 0 0 0,.int .i64 k],[(0,rdB q4)],rfl,⟨.refl _,.refl _,trivial⟩,⟨⟨by decide,_,rfl,.refl _⟩,trivial⟩,k,q4,rfl,rfl,rfl,by omega,?_⟩
     generalize WW k q4=y at *
     obtain⟨w2,q5⟩:=y
     dsimp only at hP
     repeat' first|refine And.intro ?_ ?_|(intro h;try first|exact dz|replace h:=cv)
     all_goals try exact cz
     exact ZZ (k:=4) (n:=1) (row:=encC ⟨v1,v2,v3,ps,true,v4,true,w1,w2⟩) rfl rfl rfl ⟨.refl _,.refl _,.refl _,.refl _,.refl _,.refl _,.refl _,.refl _,.refl _,.refl _,.refl _,trivial⟩ (eC _) (by first|rfl|kernel_rfl) rfl hP
    ·rw[if_pos ht2]at hP
     obtain rfl:t2=0:=by omega
     repeat' first|refine And.intro ?_ ?_|(intro h;try first|exact dz|replace h:=cv)
     all_goals try exact cz
     refine⟨_,Wo (k:=k) (q:=q3) (a:=v1) (b:=v2) (c:=v3) (ps:=ps) (kn:=true) (nu:=v4) (ha:=false) (by exact rfl) rfl rfl rfl rfl rfl rfl rfl ⟨.refl _,.refl _,.refl _,.refl _,.refl _,.refl _,QY rfl,.refl _,.refl _,.refl _,.refl _,trivial⟩,?_⟩
     repeat' first|refine And.intro ?_ ?_|(intro h;try first|exact dz|replace h:=cv)
     all_goals try exact cz
     exact ZZ (k:=4) (n:=1) (row:=encC ⟨v1,v2,v3,ps,true,v4,false,default,default⟩) rfl rfl rfl ⟨.refl _,.refl _,.refl _,.refl _,.refl _,.refl _,.refl _,.refl _,.refl _,.refl _,.refl _,trivial⟩ (eC _) (by first|rfl|kernel_rfl) rfl hP
   ·rw[if_pos ht1]at hP
    obtain rfl:t1=0:=by omega
    repeat' first|refine And.intro ?_ ?_|(intro h;try first|exact dz|replace h:=cv)
    all_goals try exact cz
    refine⟨_,Wo (k:=k) (q:=q1) (a:=v1) (b:=v2) (c:=v3) (ps:=ps) (kn:=false) (nu:=0) (ha:=false) (by exact rfl) rfl rfl rfl rfl rfl rfl rfl ⟨.refl _,.refl _,.refl _,.refl _,QY rfl,.refl _,.refl _,.refl _,.refl _,.refl _,.refl _,trivial⟩,?_⟩
    repeat' first|refine And.intro ?_ ?_|(intro h;try first|exact dz|replace h:=cv)
    all_goals try exact cz
    exact ZZ (k:=4) (n:=1) (row:=encC ⟨v1,v2,v3,ps,false,default⟩) rfl rfl rfl ⟨.refl _,.refl _,.refl _,.refl _,.refl _,.refl _,.refl _,.refl _,.refl _,.refl _,.refl _,trivial⟩ (eC _) (by first|rfl|kernel_rfl) rfl hP
 ·by_cases h1:i<n
  ·by_cases h2:q.e=0
   ·skip
    have hst:n-i=n-(i+1)+1:=by omega
    have hfs:=J3 (n-(i+1)) q [] h2
    have hpl2:=Kx q
    have hcall:∀(K:AVal→Heap→Nat→Prop),K (.agg (encP (Y4 q).1)) [(0,rdB (Y4 q).2)] 2→JD [.ptr 0 0 0] [(0,rdB q)] 1 K:=fun K hk=>⟨q,rfl,rfl,rfl,by omega,hk⟩
    generalize Y4 q=y at *
    obtain⟨p,q2⟩:=y
    dsimp only at hfs hpl2 hcall
    repeat' first|refine And.intro ?_ ?_|(intro h;try first|exact dz|replace h:=cv)
    all_goals try exact cz
    refine⟨ckS k n i q2 v1 v2 v3 ([p]),?_,?_⟩
    · repeat' first|refine And.intro ?_ ?_|(intro h;try first|exact dz|replace h:=cv)
      all_goals try exact cz
      all_goals(refine⟨[0],[.ptr 0 0 0],[(0,rdB q)],rfl,⟨.refl _,trivial⟩,⟨⟨by decide,_,rfl,.refl _⟩,trivial⟩,?_⟩;refine hcall _ ?_)
      repeat' first|refine And.intro ?_ ?_|(intro h;try first|exact dz|replace h:=cv)
      all_goals try exact cz
      all_goals(refine Exists.intro () ?_;first|exact Un (K:=6) (by exact rfl) rfl rfl rfl rfl rfl rfl rfl rfl rfl rfl rfl (rfl) rfl|exact Un (K:=5) (by exact rfl) rfl rfl rfl rfl rfl rfl rfl rfl rfl rfl rfl (rfl) rfl)
    · repeat' first|refine And.intro ?_ ?_|(intro h;try first|exact dz|replace h:=cv)
      all_goals try exact cz
      exact⟨_,ckS k n (i+1) q2 v1 v2 v3 ([p]),Un (K:=3) rfl rfl rfl rfl rfl rfl rfl (by omega) rfl rfl rfl rfl rfl rfl,⟨i+1,q2,[p],⟨by omega,rfl,by simp,by omega,by rw[←hfr,hst,hfs];rfl⟩,.inl ⟨rfl,by simp⟩⟩,by omega⟩
   ·skip
    repeat' first|refine And.intro ?_ ?_|(intro h;try first|exact dz|replace h:=cv)
    all_goals try exact cz
    exact⟨_,ckN k n (i+1) q v1 v2 v3,Q0 [0,1,2] rfl ⟨.refl _,.refl _,.refl _,.refl _,.refl _,Qg (by omega),trivial⟩ ⟨⟨by decide,_,rfl,.refl _⟩,⟨by decide,_,rfl,.refl _⟩,⟨by decide,_,rfl,.refl _⟩,trivial⟩,⟨i+1,q,[],⟨by omega,rfl,by simp,hql,by rw[←hfr,Wl _ _ _ h2,Wl _ _ _ h2]⟩,.inr ⟨rfl,rfl⟩⟩,by omega⟩
  ·skip
   have hfe:Xt n r4 []=([],q):=by
    rw[←hfr,show n-i=0 by omega];rfl
   rw[hfe]at hP
   dsimp only at hP
   repeat' first|refine And.intro ?_ ?_|(intro h;try first|exact dz|replace h:=cv)
   all_goals try exact cz
   refine⟨_,.refl _ _ _,_,rfl,?_⟩
   repeat' first|refine And.intro ?_ ?_|(intro h;try first|exact dz|replace h:=cv)
   all_goals try exact cz
   refine⟨_,Is (by exact rfl) rfl rfl rfl rfl rfl rfl rfl,?_⟩
   unfold Dd at hP
   dsimp only at hP
   refine⟨[0],[.ptr 0 0 0],[(0,rdB q)],rfl,⟨.refl _,trivial⟩,⟨⟨by decide,_,rfl,.refl _⟩,trivial⟩,q,rfl,rfl,rfl,by omega,?_⟩
   have l_q1:(Zj q).2.b.length≤q.b.length:=ZV _
   have n_t1:(Zj q).1≤1:=VI _
   generalize Zj q=q at *
   obtain⟨t1,q1⟩:=q
   replace l_q1:q1.b.length≤q.b.length:=l_q1
   replace n_t1:t1≤1:=n_t1
   dsimp only at hP
   by_cases ht1:t1=1
   ·subst ht1
    rw[if_neg (fun h=>h rfl)]at hP
    repeat' first|refine And.intro ?_ ?_|(intro h;try first|exact dz|replace h:=cv)
    all_goals try exact cz
    refine⟨_,Wo (k:=k) (q:=q1) (a:=v1) (b:=v2) (c:=v3) (ps:=[]) (kn:=true) (nu:=0) (ha:=false) (by exact rfl) rfl rfl rfl rfl rfl rfl rfl ⟨.refl _,.refl _,.refl _,.refl _,QY rfl,.refl _,.refl _,.refl _,.refl _,.refl _,.refl _,trivial⟩,?_⟩
    repeat' first|refine And.intro ?_ ?_|(intro h;try first|exact dz|replace h:=cv)
    all_goals try exact cz
    refine⟨[0],[.ptr 0 0 0],[(0,rdB q1)],rfl,⟨.refl _,trivial⟩,⟨⟨by decide,_,rfl,.refl _⟩,trivial⟩,q1,rfl,rfl,rfl,by omega,?_⟩
    have l_q2:(Ql q1).2.b.length≤q1.b.length:=QF _ _ _
    have n_v4:(Ql q1).1≤1048576:=Zf (by decide) _
    generalize Ql q1=q at *
    obtain⟨v4,q2⟩:=q
    replace l_q2:q2.b.length≤q1.b.length:=l_q2
    replace n_v4:v4≤1048576:=n_v4
    dsimp only at hP
    repeat' first|refine And.intro ?_ ?_|(intro h;try first|exact dz|replace h:=cv)
    all_goals try exact cz
    refine⟨[0],[.ptr 0 0 0],[(0,rdB q2)],rfl,⟨.refl _,trivial⟩,⟨⟨by decide,_,rfl,.refl _⟩,trivial⟩,q2,rfl,rfl,rfl,by omega,?_⟩
    have l_q3:(Zj q2).2.b.length≤q2.b.length:=ZV _
    have n_t2:(Zj q2).1≤1:=VI _
    generalize Zj q2=q at *
    obtain⟨t2,q3⟩:=q
    replace l_q3:q3.b.length≤q2.b.length:=l_q3
    replace n_t2:t2≤1:=n_t2
    dsimp only at hP
    by_cases ht2:t2=1
    ·subst ht2
     rw[if_neg (fun h=>h rfl)]at hP
     repeat' first|refine And.intro ?_ ?_|(intro h;try first|exact dz|replace h:=cv)
     all_goals try exact cz
     refine⟨_,Wo (k:=k) (q:=q3) (a:=v1) (b:=v2) (c:=v3) (ps:=[]) (kn:=true) (nu:=v4) (ha:=true) (by exact rfl) rfl rfl rfl rfl rfl rfl rfl ⟨.refl _,.refl _,.refl _,.refl _,.refl _,.refl _,QY rfl,.refl _,.refl _,.refl _,.refl _,trivial⟩,?_⟩
     repeat' first|refine And.intro ?_ ?_|(intro h;try first|exact dz|replace h:=cv)
     all_goals try exact cz
     refine⟨[0],[.ptr 0 0 0,.int .i64 k],[(0,rdB q3)],rfl,⟨.refl _,.refl _,trivial⟩,⟨⟨by decide,_,rfl,.refl _⟩,trivial⟩,k,q3,rfl,rfl,rfl,by omega,?_⟩
     have l_q4:(WW k q3).2.b.length≤q3.b.length:=Ux _ _
     generalize WW k q3=y at *
     obtain⟨w1,q4⟩:=y
     replace l_q4:q4.b.length≤q3.b.length:=l_q4
     dsimp only at hP
     refine⟨[0],[.ptr 0 0 0,.int .i64 k],[(0,rdB q4)],rfl,⟨.refl _,.refl _,trivial⟩,⟨⟨by decide,_,rfl,.refl _⟩,trivial⟩,k,q4,rfl,rfl,rfl,by omega,?_⟩
     generalize WW k q4=y at *
     obtain⟨w2,q5⟩:=y
     dsimp only at hP
     repeat' first|refine And.intro ?_ ?_|(intro h;try first|exact dz|replace h:=cv)
     all_goals try exact cz
     exact ZZ (k:=4) (n:=1) (row:=encC ⟨v1,v2,v3,[],true,v4,true,w1,w2⟩) rfl rfl rfl ⟨.refl _,.refl _,.refl _,.refl _,.refl _,.refl _,.refl _,.refl _,.refl _,.refl _,.refl _,trivial⟩ (eC _) (by first|rfl|kernel_rfl) rfl hP
    ·rw[if_pos ht2]at hP
     obtain rfl:t2=0:=by omega
     repeat' first|refine And.intro ?_ ?_|(intro h;try first|exact dz|replace h:=cv)
     all_goals try exact cz
     refine⟨_,Wo (k:=k) (q:=q3) (a:=v1) (b:=v2) (c:=v3) (ps:=[]) (kn:=true) (nu:=v4) (ha:=false) (by exact rfl) rfl rfl rfl rfl rfl rfl rfl ⟨.refl _,.refl _,.refl _,.refl _,.refl _,.refl _,QY rfl,.refl _,.refl _,.refl _,.refl _,trivial⟩,?_⟩
     repeat' first|refine And.intro ?_ ?_|(intro h;try first|exact dz|replace h:=cv)
     all_goals try exact cz
     exact ZZ (k:=4) (n:=1) (row:=encC ⟨v1,v2,v3,[],true,v4,false,default,default⟩) rfl rfl rfl ⟨.refl _,.refl _,.refl _,.refl _,.refl _,.refl _,.refl _,.refl _,.refl _,.refl _,.refl _,trivial⟩ (eC _) (by first|rfl|kernel_rfl) rfl hP
   ·rw[if_pos ht1]at hP
    obtain rfl:t1=0:=by omega
    repeat' first|refine And.intro ?_ ?_|(intro h;try first|exact dz|replace h:=cv)
    all_goals try exact cz
    refine⟨_,Wo (k:=k) (q:=q1) (a:=v1) (b:=v2) (c:=v3) (ps:=[]) (kn:=false) (nu:=0) (ha:=false) (by exact rfl) rfl rfl rfl rfl rfl rfl rfl ⟨.refl _,.refl _,.refl _,.refl _,QY rfl,.refl _,.refl _,.refl _,.refl _,.refl _,.refl _,trivial⟩,?_⟩
    repeat' first|refine And.intro ?_ ?_|(intro h;try first|exact dz|replace h:=cv)
    all_goals try exact cz
    exact ZZ (k:=4) (n:=1) (row:=encC ⟨v1,v2,v3,[],false,default⟩) rfl rfl rfl ⟨.refl _,.refl _,.refl _,.refl _,.refl _,.refl _,.refl _,.refl _,.refl _,.refl _,.refl _,trivial⟩ (eC _) (by first|rfl|kernel_rfl) rfl hP
def Kl:SpecT:=fun args H nx Post=>∃(k:Int) (r:BR),args=[.ptr 0 0 0,.int .i64 k]∧H=[(0,rdB r)]∧nx=1∧r.b.length≤1000000∧Post (.agg (encC (ZX k r).1)) [(0,rdB (ZX k r).2)] 2
theorem Ek[Syms]:Kl.ok Try.prog 84:=by
 rintro args H nx Post ⟨k,r,rfl,rfl,rfl,h1,h⟩
 exact XI.forget (QC Qp Qq Q5 LZ QJ (Ib k r h1 h))
theorem Uo(k:Int)(r:BR):(ZX k r).2.b.length≤r.b.length:=by
 have pagesR_len:∀(k:Nat) (r:BR) (s:List Pg),(Xt k r s).2.b.length≤r.b.length:=by
  intro k
  induction k with
  |zero=>intro r s;exact Nat.le_refl _
  |succ k ih=>
   intro r s
   rw[Xt]
   split
   ·exact Nat.le_refl _
   ·exact Nat.le_trans (ih _ _) (Kx _)
 have knowR_len:∀(r:BR),(Dd k r).2.b.length≤r.b.length:=by
  intro r
  unfold Dd Ql
  dsimp only
  split
  ·exact ZV _
  ·split
   ·exact Nat.le_trans (ZV _) (Nat.le_trans (QF _ _ _) (ZV _))
   ·exact Nat.le_trans (Ux _ _) (Nat.le_trans (Ux _ _) (Nat.le_trans (ZV _) (Nat.le_trans (QF _ _ _) (ZV _))))
 unfold ZX Ds Ql
 exact Nat.le_trans (knowR_len _) (Nat.le_trans (pagesR_len _ _ _) (Nat.le_trans (QF _ _ _) (Nat.le_trans (Xy _ _) (Nat.le_trans (QF _ _ _) (QF _ _ _)))))
end
section
set_option maxRecDepth 100000
set_option maxHeartbeats 4000000
abbrev OX[Syms]:CallT:=Qe 57 (Z6 VF) (Qe 84 (Z6 Kl) (Qe 85 (GE Q9 Q9 (QN fns) (Qz tys) (QV plt) 100) Q9))
theorem LY[Syms]:OX.ok Try.prog:=Qc VQ (Qc Ek (Xi (Xz Qp Qq Q5 Qb QJ) Qb))
noncomputable def Pe:Nat→Nat→Pl:=VZ [(58,4),(58,6),(58,2)] (QV plt)
abbrev QI(a:Int)(v:AVal):List AVal:=[.int .i64 a,v]
def gpS(ls:List Lf)(i:Nat)(q:BR)(n:Int)(cs:List Ck):St:=⟨[(0,.ptr 0 0 0),(1,vL ls),(4,.ptr 1 0 0),(5,.ptr 2 0 0),(6,.int .i64 i)],[(0,rdB q),(1,some (.cells [QI 0 .nils] false)),(2,some (.cells [QI n (.slice 3 0 cs.length 11 none)] false)),(3,some (.cells (cs.map encC) false))],4⟩
def gpF(q:BR)(n:Int)(cs:List Ck):St:=⟨[(0,.ptr 0 0 0),(4,.ptr 1 0 0),(5,.ptr 2 0 0)],[(0,rdB q),(1,some (.cells [QI 0 .nils] false)),(2,some (.cells [QI n (.vs 11 (cs.map encC))] false))],3⟩
theorem KE[Syms]{N B K nx:Nat}{e:Env}{H:Heap}{ls:List Lf}{n i1:Int}{i:Nat}{q:BR}{cs:List Ck}{rows:List (List AVal)}{len:Nat}(hn:Zm 1 nx [0,1,B,K]=true)(h0:e.get 0= .ptr 0 0 0)(h1:e.get 1=vL ls)(h4:e.get 4= .ptr 1 0 0)(h5:e.get 5= .ptr B 0 0)(h6:e.get 6= .int .i64 i1)(hi:i1=i)
 (H0:H.get 0=rdB q) (H1:H.get 1=some (.cells [QI 0 .nils] false)) (H2:H.get B=some (.cells [QI n (.slice K 0 len 11 none)] false)) (HK:H.get K=some (.cells rows false)) (hr:rows=cs.map encC) (hl:len=cs.length):Reb 1 N ⟨e,H,nx⟩ (gpS ls i q n cs):=by
 subst hr hl hi
 exact Q0 [0,1,B,K] hn ⟨by rw[h0];exact .refl _,by rw[h1];exact .refl _,by rw[h4];exact .refl _,by rw[h5];exact .refl _,by rw[h6];exact .refl _,trivial⟩
  ⟨⟨show 0<4 by decide,_,H0,.refl _⟩,⟨show 1<4 by decide,_,H1,.refl _⟩,⟨show 2<4 by decide,_,H2,.refl _⟩,⟨show 3<4 by decide,_,HK,Qd (fC _)⟩,trivial⟩
theorem Lq[Syms]{N B K nx:Nat}{e:Env}{H:Heap}{n:Int}{q:BR}{cs:List Ck}{rows:List (List AVal)}{len:Nat}(hp:0<cs.length)(hn:Zm 1 nx [0,1,B,K]=true)(h0:e.get 0= .ptr 0 0 0)(h4:e.get 4= .ptr 1 0 0)(h5:e.get 5= .ptr B 0 0)
 (H0:H.get 0=rdB q) (H1:H.get 1=some (.cells [QI 0 .nils] false)) (H2:H.get B=some (.cells [QI n (.slice K 0 len 11 none)] false)) (HK:H.get K=some (.cells rows false)) (hr:rows=cs.map encC) (hl:len=cs.length):Reb 1 N ⟨e,H,nx⟩ (gpF q n cs):=by
 subst hr hl
 have hcut:((cs.map encC).drop 0).take cs.length=cs.map encC:=by rw[List.drop_zero,List.take_of_length_le (by simp)]
 have hs:FzV 3 (cs.map encC) (.slice 3 0 cs.length 11 none) (.vs 11 (cs.map encC)):=by
  have:=FzV.sl (n:=3) (rows:=cs.map encC) 0 cs.length 11 none hp (by simp)
  rwa [hcut]at this
 refine(Q0 (e3:=[(0,.ptr 0 0 0),(4,.ptr 1 0 0),(5,.ptr 2 0 0)]) (H3:=[(0,rdB q),(1,some (.cells [QI 0 .nils] false)),(2,some (.cells [QI n (.slice 3 0 cs.length 11 none)] false)),(3,some (.cells (cs.map encC) false))]) [0,1,B,K] hn ⟨by rw[h0];exact .refl _,by rw[h4];exact .refl _,by rw[h5];exact .refl _,trivial⟩
  ⟨⟨show 0<4 by decide,_,H0,.refl _⟩,⟨show 1<4 by decide,_,H1,.refl _⟩,⟨show 2<4 by decide,_,H2,.refl _⟩,⟨show 3<4 by decide,_,HK,Qd (fC _)⟩,trivial⟩).trans ?_
 refine(ZS (n:=3) (e3:=[(0,.ptr 0 0 0),(4,.ptr 1 0 0),(5,.ptr 2 0 0)]) (H3:=[(0,rdB q),(1,some (.cells [QI 0 .nils] false)),(2,some (.cells [QI n (.vs 11 (cs.map encC))] false))]) rfl (fC cs) ⟨.same _,.same _,.same _,trivial⟩
  ⟨⟨by decide,_,rfl,.same _⟩,⟨by decide,_,rfl,.same _⟩,⟨by decide,_,rfl,.cells [QI n (.slice 3 0 cs.length 11 none)] [QI n (.vs 11 (cs.map encC))] false rfl (fun j r r' h h'=>?_)⟩,trivial⟩).trans (Q0 [0,1,2] rfl ⟨.refl _,.refl _,.refl _,trivial⟩ ⟨⟨by decide,_,rfl,.refl _⟩,⟨by decide,_,rfl,.refl _⟩,⟨by decide,_,rfl,.refl _⟩,trivial⟩)
 cases j with
 |zero=>
  cases h;cases h'
  exact⟨.same _,hs,trivial⟩
 |succ j=>simp at h
theorem HX[Syms]{N B nx:Nat}{e:Env}{H:Heap}{n:Int}{q:BR}(hn:Zm 1 nx [0,1,B]=true)(h0:e.get 0= .ptr 0 0 0)(h4:e.get 4= .ptr 1 0 0)(h5:e.get 5= .ptr B 0 0)
 (H0:H.get 0=rdB q) (H1:H.get 1=some (.cells [QI 0 .nils] false)) (H2:H.get B=some (.cells [QI n .nils] false)):Reb 1 N ⟨e,H,nx⟩ (gpF q n []):=
 Q0 [0,1,B] hn ⟨by rw[h0];exact .refl _,by rw[h4];exact .refl _,by rw[h5];exact .refl _,trivial⟩
  ⟨⟨show 0<3 by decide,_,H0,.refl _⟩,⟨show 1<3 by decide,_,H1,.refl _⟩,⟨show 2<3 by decide,_,H2,Q6 (row:=QI n (.vs 11 [])) ⟨.refl _,.zero _ _ rfl,trivial⟩⟩,trivial⟩
def gpN(ls:List Lf)(q:BR)(n:Int):St:=⟨[(0,.ptr 0 0 0),(1,vL ls),(4,.ptr 1 0 0),(5,.ptr 2 0 0),(6,.int .i64 0)],[(0,rdB q),(1,some (.cells [QI 0 .nils] false)),(2,some (.cells [QI n .nils] false))],3⟩
theorem eR(p:Rw):∀x∈encR p,x.flat=true:=fR [p] _ (List.mem_singleton.2 rfl)
theorem Yg(ps:List Ck)(p:Ck):List.take ps.length (List.drop 0 (ps.map encC))++[encC p]=(ps++[p]).map encC:=by
 rw[List.drop_zero,List.take_of_length_le (by simp),List.map_append];rfl
abbrev Q2(ls:List Lf):List Int:=ls.map (·.kind)
theorem K0{ls:List Lf}{i:Nat}(hi:i<ls.length)(r:BR)(s:List Ck)(h:r.e=0):ZT ((Q2 ls).drop i) r s=ZT ((Q2 ls).drop (i+1)) (ZX (ls.getD i default).kind r).2 (s++[(ZX (ls.getD i default).kind r).1]):=by
 have:(Q2 ls).drop i=(ls.getD i default).kind::(Q2 ls).drop (i+1):=by
  rw[List.drop_eq_getElem_cons (by simpa using hi)]
  simp[hi]
 rw[this,ZT,if_neg (fun x=>x h)]
theorem UZ(k:List Int)(r:BR)(s:List Ck)(h:r.e≠0):ZT k r s=(s,r):=by
 cases k with
 |nil=>rfl
 |cons k ks=>rw[ZT,if_pos h]
theorem Ia[Syms]{Post:AVal→Heap→Nat→Prop}(ls:List Lf)(r:BR)(hl:r.b.length≤1000000)(hll:ls.length≤1000)(hP:Post (.agg (encR (X3 (Q2 ls) r).1)) [(0,rdB (X3 (Q2 ls) r).2)] 2):
 fnT Q9 OX (QN fns) (Qz tys) Pe 100 58 [.ptr 0 0 0,vL ls] [(0,rdB r)] 1 (UA Post):=by
 unfold X3 at hP
 dsimp only at hP
 refine .inr ⟨fun l m s=>l=0∧ ∃(n:Int) (i:Nat) (q:BR) (cs:List Ck),(i≤ls.length∧m=ls.length-i∧0<cs.length∧cs.length≤i∧q.b.length≤r.b.length∧((Ql r).1:Nat)=n∧ZT ((Q2 ls).drop i) q cs=ZT (Q2 ls) (Ql r).2 [])∧s=gpS ls i q n cs,?_,?_⟩
 ·refine⟨[0],[.ptr 0 0 0],[(0,rdB r)],rfl,⟨.refl _,trivial⟩,⟨⟨by decide,_,rfl,.refl _⟩,trivial⟩,r,rfl,rfl,rfl,by omega,?_⟩
  have l_r1:(Ql r).2.b.length≤r.b.length:=QF _ _ _
  have n_v1:(Ql r).1≤1048576:=Zf (by decide) _
  generalize Ql r=q at *
  obtain⟨v1,r1⟩:=q
  replace l_r1:r1.b.length≤r.b.length:=l_r1
  replace n_v1:v1≤1048576:=n_v1
  dsimp only at hP
  repeat' first|refine And.intro ?_ ?_|(intro h;try first|exact dz|replace h:=cv)
  all_goals try exact cz
  refine⟨gpN ls r1 v1,Q0 [0,1,3] (by exact rfl) ⟨.refl _,.refl _,.refl _,.refl _,.refl _,trivial⟩ ⟨⟨by decide,_,rfl,.refl _⟩,⟨by decide,_,rfl,.refl _⟩,⟨by decide,_,rfl,.refl _⟩,trivial⟩,?_⟩
  by_cases h1:0<ls.length∧r1.e=0
  ·obtain⟨h1,h2⟩:=h1
   have hfs:=K0 (i:=0) (by omega) r1 [] h2
   have hpl2:=Uo (ls.getD 0 default).kind r1
   have hcall:∀(K:AVal→Heap→Nat→Prop),K (.agg (encC (ZX (ls.getD 0 default).kind r1).1)) [(0,rdB (ZX (ls.getD 0 default).kind r1).2)] 2→Kl [.ptr 0 0 0,.int .i64 (ls.getD 0 default).kind] [(0,rdB r1)] 1 K:=fun K hk=>⟨_,r1,rfl,rfl,rfl,by omega,hk⟩
   generalize ZX (ls.getD 0 default).kind r1=y at *
   obtain⟨p,q2⟩:=y
   dsimp only at hfs hpl2 hcall
   repeat' first|refine And.intro ?_ ?_|(intro h;try first|exact dz|replace h:=cv)
   all_goals try exact cz
   refine⟨gpS ls 0 q2 v1 ([p]),?_,?_⟩
   · repeat' first|refine And.intro ?_ ?_|(intro h;try first|exact dz|replace h:=cv)
     all_goals try exact cz
     all_goals(refine⟨[0],[.ptr 0 0 0,.int .i64 (ls.getD 0 default).kind],[(0,rdB r1)],rfl,⟨.refl _,.refl _,trivial⟩,⟨⟨by decide,_,rfl,.refl _⟩,trivial⟩,?_⟩;refine hcall _ ?_)
     repeat' first|refine And.intro ?_ ?_|(intro h;try first|exact dz|replace h:=cv)
     all_goals try exact cz
     all_goals(refine Exists.intro () ?_;first|exact KE (B:=2) (K:=6) (by exact rfl) rfl rfl rfl rfl rfl (by rfl) rfl rfl rfl rfl rfl rfl|exact KE (B:=2) (K:=5) (by exact rfl) rfl rfl rfl rfl rfl (by rfl) rfl rfl rfl rfl rfl rfl)
   · repeat' first|refine And.intro ?_ ?_|(intro h;try first|exact dz|replace h:=cv)
     all_goals try exact cz
     exact⟨_,gpS ls (0+1) q2 v1 ([p]),KE (B:=2) (K:=3) rfl rfl rfl rfl rfl rfl (by omega) rfl rfl rfl rfl rfl rfl,⟨rfl,v1,0+1,q2,[p],⟨by omega,rfl,by simp,by simp,by omega,rfl,by rw[show([]:List Ck)++[p]=[p] from rfl]at hfs;rw[←hfs];rfl⟩,rfl⟩⟩
  ·skip
   have hfe:ZT (Q2 ls) r1 []=([],r1):=by
    by_cases h2:r1.e=0
    ·have:ls=[]:=List.eq_nil_of_length_eq_zero (by omega)
     subst this;rfl
    ·exact UZ _ _ _ h2
   rw[hfe]at hP
   dsimp only at hP
   repeat' first|refine And.intro ?_ ?_|(intro h;try first|exact dz|replace h:=cv)
   all_goals try exact cz
   all_goals refine⟨_,.refl _ _ _,_,rfl,?_⟩
   repeat' first|refine And.intro ?_ ?_|(intro h;try first|exact dz|replace h:=cv)
   all_goals try exact cz
   all_goals refine⟨_,HX (B:=2) (by exact rfl) rfl rfl rfl rfl rfl rfl,?_⟩
   repeat' first|refine And.intro ?_ ?_|(intro h;try first|exact dz|replace h:=cv)
   all_goals try exact cz
   all_goals exact ZZ (k:=4) (n:=1) (row:=encR ⟨v1,[]⟩) rfl rfl rfl ⟨.refl _,.refl _,trivial⟩ (eR _) (by first|rfl|kernel_rfl) rfl hP
 ·rintro l rest m s hl0 ⟨rfl,n,i,q,cs,⟨hi,rfl,hc0,hci,hql,hn,hfr⟩,rfl⟩
  cases hl0
  by_cases h1:i<ls.length∧q.e=0
  ·obtain⟨h1,h2⟩:=h1
   have hfs:=K0 (i:=i) (by omega) q cs h2
   have hpl2:=Uo (ls.getD i default).kind q
   have hcall:∀(K:AVal→Heap→Nat→Prop),K (.agg (encC (ZX (ls.getD i default).kind q).1)) [(0,rdB (ZX (ls.getD i default).kind q).2)] 2→Kl [.ptr 0 0 0,.int .i64 (ls.getD i default).kind] [(0,rdB q)] 1 K:=fun K hk=>⟨_,q,rfl,rfl,rfl,by omega,hk⟩
   generalize ZX (ls.getD i default).kind q=y at *
   obtain⟨p,q2⟩:=y
   dsimp only at hfs hpl2 hcall
   repeat' first|refine And.intro ?_ ?_|(intro h;try first|exact dz|replace h:=cv)
   all_goals try exact cz
   refine⟨gpS ls i q2 n (cs++[p]),?_,?_⟩
   · repeat' first|refine And.intro ?_ ?_|(intro h;try first|exact dz|replace h:=cv)
     all_goals try exact cz
     all_goals(refine⟨[0],[.ptr 0 0 0,.int .i64 (ls.getD i default).kind],[(0,rdB q)],rfl,⟨.refl _,.refl _,trivial⟩,⟨⟨by decide,_,rfl,.refl _⟩,trivial⟩,?_⟩;refine hcall _ ?_)
     repeat' first|refine And.intro ?_ ?_|(intro h;try first|exact dz|replace h:=cv)
     all_goals try exact cz
     all_goals(refine Exists.intro () ?_;first|exact KE (B:=2) (K:=7) (by exact rfl) rfl rfl rfl rfl rfl (by rfl) rfl rfl rfl rfl (Yg _ _) (by simp)|exact KE (B:=2) (K:=6) (by exact rfl) rfl rfl rfl rfl rfl (by rfl) rfl rfl rfl rfl (Yg _ _) (by simp))
   · repeat' first|refine And.intro ?_ ?_|(intro h;try first|exact dz|replace h:=cv)
     all_goals try exact cz
     exact⟨_,gpS ls (i+1) q2 n (cs++[p]),KE (B:=2) (K:=3) rfl rfl rfl rfl rfl rfl (by omega) rfl rfl rfl rfl rfl rfl,⟨rfl,n,i+1,q2,cs++[p],⟨by omega,rfl,by simp,by simp;omega,by omega,hn,by rw[←hfr,hfs]⟩,rfl⟩,by omega⟩
  ·skip
   have hfe:ZT (Q2 ls) (Ql r).2 []=(cs,q):=by
    rw[←hfr]
    by_cases h2:q.e=0
    ·have:(Q2 ls).drop i=[]:=List.drop_of_length_le (by simp;omega)
     rw[this];rfl
    ·exact UZ _ _ _ h2
   rw[hfe,hn]at hP
   dsimp only at hP
   repeat' first|refine And.intro ?_ ?_|(intro h;try first|exact dz|replace h:=cv)
   all_goals try exact cz
   all_goals(try((with_reducible show _=true);show V9 11 (List.take cs.length (List.drop 0 (cs.map encC)))=true;rw[List.drop_zero,List.take_of_length_le (by simp)];exact We (enc:=encC) (z:=11) (fun _=>rfl) _))
   all_goals refine⟨_,.refl _ _ _,_,rfl,?_⟩
   repeat' first|refine And.intro ?_ ?_|(intro h;try first|exact dz|replace h:=cv)
   all_goals try exact cz
   all_goals refine⟨_,Lq (B:=2) (K:=5) hc0 (by exact rfl) rfl rfl rfl rfl rfl rfl rfl (by show[]++List.take cs.length (List.drop 0 (cs.map encC))=_;rw[List.drop_zero,List.take_of_length_le (by simp)];rfl) (Nat.zero_add _),?_⟩
   repeat' first|refine And.intro ?_ ?_|(intro h;try first|exact dz|replace h:=cv)
   all_goals try exact cz
   all_goals exact ZZ (k:=4) (n:=1) (row:=encR ⟨n,cs⟩) rfl rfl rfl ⟨.refl _,.refl _,trivial⟩ (eR _) (by first|rfl|kernel_rfl) rfl hP
def Kk:SpecT:=fun args H nx Post=>∃(ls:List Lf) (r:BR),args=[.ptr 0 0 0,vL ls]∧H=[(0,rdB r)]∧nx=1∧(r.b.length≤1000000∧ls.length≤1000)∧Post (.agg (encR (X3 (Q2 ls) r).1)) [(0,rdB (X3 (Q2 ls) r).2)] 2
theorem Ej[Syms]:Kk.ok Try.prog 58:=by
 rintro args H nx Post ⟨ls,r,rfl,rfl,rfl,⟨h1,h2⟩,h⟩
 exact XI.forget (QC Qp Qq Q5 LY QJ (Ia ls r h1 h2 h))
theorem Gm(ks:List Int)(r:BR):(X3 ks r).2.b.length≤r.b.length:=by
 have chunksR_len:∀(ks:List Int) (r:BR) (s:List Ck),(ZT ks r s).2.b.length≤r.b.length:=by
  intro ks
  induction ks with
  |nil=>intro r s;exact Nat.le_refl _
  |cons k ks ih=>
   intro r s
   rw[ZT]
   split
   ·exact Nat.le_refl _
   ·exact Nat.le_trans (ih _ _) (Uo _ _)
 unfold X3 Ql
 exact Nat.le_trans (chunksR_len _ _ _) (QF _ _ _)
end
end Go.Proofs.Ytajieadpaeggcaa
