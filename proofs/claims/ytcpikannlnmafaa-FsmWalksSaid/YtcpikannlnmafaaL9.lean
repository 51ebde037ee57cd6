/-
  The maker of records:a field's value.
-/
import Derived.Test.YtcpikannlnmafaaL8
import Derived.Test.YtcpikannlnmafaaSxOne
set_option linter.unusedVariables false
set_option linter.unusedSimpArgs false
namespace Go.Proofs.Ytcpikannlnmafaa
open Go Go.Av
section
set_option maxRecDepth 100000
set_option maxHeartbeats 4000000
structure MkOk(fs:List Fd)(ps ns:List Int):Prop where
 len:fs.length≤14
 par:ps.length=fs.length
 kind:∀i,i<fs.length→0≤(fs.getD i default).kind∧(fs.getD i default).kind≤4
 rep:∀i,i<fs.length→0≤(fs.getD i default).rep∧(fs.getD i default).rep≤2
 raw:ns.length≤9223372036854775807
 int:∀k,-9223372036854775808≤ns.getD k 0∧ns.getD k 0≤9223372036854775807
def Ns(F:Nat):SpecT:=fun args H nx Post=>∃fs ps ns i a,args=[.ptr 0 0 0,.int .i64 (i:Nat)]∧H=[(0,Zu fs ps ns a)]∧nx=1∧MkOk fs ps ns∧i<fs.length∧fs.length-i≤F∧a≤ns.length∧Post (.agg (encT (ZV fs ps ns F i a).1)) [(0,Zu fs ps ns (ZV fs ps ns F i a).2)] 2
abbrev cV(F:Nat):CallT:=Qv 56 (Hh I0) (Qv 57 (L0 G_within8) (Qv 52 (Hh (Ns F)) Qz))
noncomputable def Rc:Nat→Nat→Pl:=Kz [(52,1)] (ZS plt)
theorem LY[Syms]{N k n nx:Nat}{e:Env}{H:Heap}{row' row:List AVal}{fs:List Fd}{ps ns:List Int}{b:Nat}{rs:List ResultVar}{Post:AVal→Heap→Nat→Prop}(hk:e.get k= .ptr n 0 0)(H0:H.get 0=Zu fs ps ns b)(Hn:H.get n=some (.cells [row'] false))(hrow:Jd row' row)(hf:∀x∈row,x.flat=true)
 (hn:WG 1 nx [0,n]=true) (hrs:YE (Z5 tys) ⟨[(k,.ptr 1 0 0)],[(0,Zu fs ps ns b),(1,some (.cells [row] false))],2⟩ rs=some (.agg row)) (hP:Post (.agg row) [(0,Zu fs ps ns b)] 2):
 ∃s3,Reb 1 N ⟨e,H,nx⟩ s3∧ ∃v,YE (Z5 tys) s3 rs=some v∧L9 Post v s3.heap s3.nx:=
 ⟨⟨[(k,.ptr 1 0 0)],[(0,Zu fs ps ns b),(1,some (.cells [row] false))],2⟩,Q1 [0,n] hn ⟨by rw[hk];exact .refl _,trivial⟩ ⟨⟨Nat.succ_pos _,_,H0,.refl _⟩,⟨Nat.lt_succ_self _,_,Hn,Du hrow hf⟩,trivial⟩,_,hrs,_,Hd,hP⟩
theorem I6(n:Int)(s:List UInt8)(rows:List (List AVal)):∀x∈[AVal.int .i64 n,.str s,.vs 1 rows],x.flat=true:=fun x hx=>by simp at hx;rcases hx with rfl|rfl|rfl<;>rfl
theorem PO{a b:List UInt8}(h:a=b):WkV (.str a) (.str b):=h▸ .refl _
abbrev tr0:List AVal:=[.int .i64 0,.str [],.nils]
def vS0(fs:List Fd)(ps ns:List Int)(i b:Nat)(x:Int):St:=⟨[(0,.ptr 0 0 0),(1,.int .i64 i),(4,.ptr 1 0 0),(5,.int .i64 x)],[(0,Zu fs ps ns b),(1,some (.cells [tr0] false))],2⟩
theorem CS[Syms]{Post:AVal→Heap→Nat→Prop}(F:Nat)(fs:List Fd)(ps ns:List Int)(i a:Nat)(hm:MkOk fs ps ns)(hi:i<fs.length)(ha:a≤ns.length)(hk:(fs.getD i default).kind≠0)
 (hP:Post (.agg (encT (Gd (fs.getD i default).kind (Z9 ns a).1))) [(0,Zu fs ps ns (Z9 ns a).2)] 2):
 fnT Qz (cV F) (Zc fns) (Z5 tys) Rc 100 52 [.ptr 0 0 0,.int .i64 i] [(0,Zu fs ps ns a)] 1 (L9 Post):=by
 obtain⟨hk0,hk4⟩:=hm.kind i hi
 have hraw:=hm.raw
 repeat' first|refine And.intro ?_ ?_|(intro h;try first|exact dz|replace h:=cv)
 all_goals try exact cz
 refine⟨[0],[.ptr 0 0 0],[(0,Zu fs ps ns a)],rfl,⟨.refl _,trivial⟩,⟨⟨by decide,_,rfl,.refl _⟩,trivial⟩,fs,ps,ns,a,rfl,rfl,rfl,hraw,ha,?_⟩
 have hx:-9223372036854775808≤(Z9 ns a).1∧(Z9 ns a).1≤9223372036854775807:=by
  unfold Z9
  split
  ·exact hm.int a
  ·exact⟨by show(-9223372036854775808:Int)≤0;decide,by show(0:Int)≤_;decide⟩
 generalize Z9 ns a=q at *
 obtain⟨x,b⟩:=q
 dsimp only at hP hx
 refine⟨vS0 fs ps ns i b x,Q1 [0,1] (by exact rfl) ⟨.refl _,.refl _,.refl _,.refl _,trivial⟩ ⟨⟨by decide,_,rfl,.refl _⟩,⟨by decide,_,rfl,.refl _⟩,trivial⟩,?_⟩
 repeat' first|refine And.intro ?_ ?_|(intro h;try first|exact dz|replace h:=cv)
 all_goals try exact cz
 ·refine⟨x,2,rfl,⟨by decide,by decide⟩,?_⟩
  rw[Gd,if_pos ‹_›,QL]at hP
  repeat' first|refine And.intro ?_ ?_|(intro h;try first|exact dz|replace h:=cv)
  all_goals try exact cz
  exact LY (k:=4) (n:=1) (row:=[.int .i64 (wi x 2),.str [],.vs 1 []]) rfl rfl rfl ⟨.refl _,.refl _,.zero _ _ rfl,trivial⟩ (I6 _ _ _) (by exact rfl) rfl hP
 ·refine⟨x,300,rfl,⟨by decide,by decide⟩,?_⟩
  rw[Gd,if_neg ‹_›,if_pos ‹_›,QL]at hP
  obtain⟨w1,w2⟩:=ZA (a:=x) (n:=300) (by decide)
  have hw:wr .i64 (wi x 300-100)=wi x 300-100:=PN (by omega)
  repeat' first|refine And.intro ?_ ?_|(intro h;try first|exact dz|replace h:=cv)
  all_goals try exact cz
  exact LY (k:=4) (n:=1) (row:=[.int .i64 (wi x 300-100),.str [],.vs 1 []]) rfl rfl rfl ⟨Q3 (by first|rfl|exact hw),.refl _,.zero _ _ rfl,trivial⟩ (I6 _ _ _) (by exact rfl) rfl hP
 ·rw[Gd,if_neg ‹_›,if_neg ‹_›,if_pos ‹_›,QL]at hP
  exact LY (k:=4) (n:=1) (row:=[.int .i64 x,.str [],.vs 1 []]) rfl rfl rfl ⟨.refl _,.refl _,.zero _ _ rfl,trivial⟩ (I6 _ _ _) (by exact rfl) rfl hP
 ·refine⟨x,9,rfl,⟨by decide,by decide⟩,?_⟩
  obtain⟨w1,w2⟩:=ZA (a:=x) (n:=9) (by decide)
  rw[Gd,if_neg ‹_›,if_neg ‹_›,if_neg ‹_›,QL]at hP
  repeat' first|refine And.intro ?_ ?_|(intro h;try first|exact dz|replace h:=cv)
  all_goals try exact cz
  ·show(wi x 9).toNat≤12
   omega
  ·exact LY (k:=4) (n:=1) (row:=[.int .i64 0,.str (PM.take (wi x 9).toNat),.vs 1 []]) rfl rfl rfl ⟨.refl _,PO rfl,.zero _ _ rfl,trivial⟩ (I6 _ _ _) (by exact rfl) rfl hP
def encKd(l:List Tr):List AVal:=[.vs 3 (l.map encT)]
def Z8{α:Type}(n sz:Nat)(l:List α):AVal:=match l with
 |[]=>.nils
 |a::t=>.slice n 0 (a::t).length sz none
def Zi{α:Type}(enc:α→List AVal)(l:List α):Option Blk:=match l with
 |[]=>none
 |a::t=>some (.cells ((a::t).map enc) false)
theorem Vd{α:Type}(n sz:Nat){l:List α}(h:0<l.length):Z8 n sz l= .slice n 0 l.length sz none:=by
 cases l with
 |nil=>cases h
 |cons a t=>rfl
theorem ZD{α:Type}(enc:α→List AVal){l:List α}(h:0<l.length):Zi enc l=some (.cells (l.map enc) false):=by
 cases l with
 |nil=>cases h
 |cons a t=>rfl
theorem Xg{α:Type}{ρ:Nat→Nat}{n sz:Nat}{l:List α}(h:ρ n=n):WkV (Z8 n sz l) ((Z8 n sz l).ren ρ):=by
 cases l with
 |nil=>exact .refl _
 |cons a t=>simp only[Z8,AVal.ren,h];exact .refl _
theorem Y8{α:Type}{ρ:Nat→Nat}{n K sz len:Nat}{cap:Option Nat}{l:List α}(h:ρ n=K)(hl:len=l.length)(h0:0<l.length):WkV (.slice K 0 len sz cap) ((Z8 n sz l).ren ρ):=by
 rw[Vd n sz h0]
 subst hl h
 exact .cap _ _ _ _ _
theorem Eq{ρ:Nat→Nat}{n m:Nat}{H t:Heap}{ob:Option Blk}(hb:∀b,ob=some b→m<n∧ ∃b0,H.get (ρ m)=some b0∧WkB b0 (b.ren ρ))(ht:ZR ρ n H t):ZR ρ n H ((m,ob)::t):=by
 cases ob with
 |none=>exact ht
 |some b=>exact⟨hb b rfl,ht⟩
theorem OJ{α:Type}{ρ:Nat→Nat}{n m:Nat}{H t:Heap}{enc:α→List AVal}{l:List α}(hf:Qe (l.map enc))(hm:m<n)(h:H.get (ρ m)=Zi enc l)(ht:ZR ρ n H t):ZR ρ n H ((m,Zi enc l)::t):=by
 refine Eq (fun b hb=>⟨hm,b,h.trans hb,?_⟩) ht
 cases l with
 |nil=>cases hb
 |cons a q=>cases hb;exact Qc hf
theorem YV{α:Type}{ρ:Nat→Nat}{n m:Nat}{H t:Heap}{enc:α→List AVal}{l:List α}{rows:List (List AVal)}(hf:Qe (l.map enc))(hm:m<n)(h:H.get (ρ m)=some (.cells rows false))(hr:rows=l.map enc)(h0:0<l.length)(ht:ZR ρ n H t):ZR ρ n H ((m,Zi enc l)::t):=by
 subst hr
 rw[ZD enc h0]
 exact⟨⟨hm,_,h,Qc hf⟩,ht⟩
theorem Mb[Syms]{na N:Nat}{e:Env}{H:Heap}{nx nx':Nat}(h:nx≤nx'):Reb na N ⟨e,H,nx⟩ ⟨e,H,nx'⟩:=
 ⟨fun x=>Nat.le_trans x h,fun ι a w hS=>⟨ι,⟨hS.defers,hS.size,hS.env,hS.heap,fun n L hn=>⟨Nat.lt_of_lt_of_le (hS.bound n L hn).1 h,(hS.bound n L hn).2⟩⟩,.refl ..⟩⟩
theorem fKd(l:List (List Tr)):Qe (l.map encKd):=Qa (fun a x hx=>by simp[encKd]at hx;subst hx;rfl) l
theorem fTr(l:List Tr):Qe (l.map encT):=Qa (fun a x hx=>by obtain⟨ks,n,s⟩:=a;rw[QL]at hx;exact I6 _ _ _ x hx) l
theorem QM[Syms]{N nx:Nat}{e e3:Env}{H rest:Heap}{fs:List Fd}{ps ns:List Int}{b:Nat}{ks:List (List Tr)}{row:List AVal}(q:List Nat)(hl:q.length=5)(h0:q.getD 0 0=0)(h1:q.getD 1 0=1)(h2:q.getD 2 0=2)(h3:q.getD 3 0=3)(hn:WG 1 nx q=true)(he:UU (rho q nx) e e3)
 (H0:H.get 0=Zu fs ps ns b) (H1:H.get 1=some (.cells [tr0] false)) (H2:H.get 2=some (.cells [row] false)) (hrow:∀ρ:Nat→Nat,ρ 3=3→Jd row (AVal.renL ρ [.int .i64 0,.str [],Z8 3 1 ks])) (H3:H.get 3=Zi encKd ks) (hr:ZR (rho q nx) 5 H rest):
 Reb 1 N ⟨e,H,nx⟩ ⟨e3,(0,Zu fs ps ns b)::(1,some (.cells [tr0] false))::(2,some (.cells [[.int .i64 0,.str [],Z8 3 1 ks]] false))::(3,Zi encKd ks)::rest,5⟩:=by
 have r0:rho q nx 0=0:=by rw[Xu (by omega)];exact h0
 have r1:rho q nx 1=1:=by rw[Xu (by omega)];exact h1
 have r2:rho q nx 2=2:=by rw[Xu (by omega)];exact h2
 have r3:rho q nx 3=3:=by rw[Xu (by omega)];exact h3
 have:=Q1 (na:=1) (N:=N) (s:=⟨e,H,nx⟩) (e3:=e3) (H3:=(0,Zu fs ps ns b)::(1,some (.cells [tr0] false))::(2,some (.cells [[.int .i64 0,.str [],Z8 3 1 ks]] false))::(3,Zi encKd ks)::rest) q hn he
  ⟨⟨by omega,_,(by show H.get (rho q nx 0)=_;rw[r0];exact H0),.refl _⟩,⟨by omega,_,(by show H.get (rho q nx 1)=_;rw[r1];exact H1),.refl _⟩,⟨by omega,_,(by show H.get (rho q nx 2)=_;rw[r2];exact H2),Zg (hrow _ r3)⟩,OJ (fKd ks) (by omega) (by show H.get (rho q nx 3)=_;rw[r3];exact H3) (by rw[hl];exact hr)⟩
 rw[hl]at this
 exact this
theorem R1[Syms]{N:Nat}(fs:List Fd)(ps ns:List Int)(b:Nat)(k0:List Tr)(kt:List (List Tr)):Reb 1 N ⟨[(4,.ptr 1 0 0)],[(0,Zu fs ps ns b),(1,some (.cells [[.int .i64 0,.str [],.slice 2 0 (k0::kt).length 1 none]] false)),(2,some (.cells ((k0::kt).map encKd) false))],3⟩ ⟨[(4,.ptr 1 0 0)],[(0,Zu fs ps ns b),(1,some (.cells [[.int .i64 0,.str [],.vs 1 ((k0::kt).map encKd)]] false))],2⟩:=by
 have hcut:(((k0::kt).map encKd).drop 0).take (k0::kt).length=(k0::kt).map encKd:=by rw[List.drop_zero,List.take_of_length_le (by simp)]
 have hs:FzV 2 ((k0::kt).map encKd) (.slice 2 0 (k0::kt).length 1 none) (.vs 1 ((k0::kt).map encKd)):=by
  have:=FzV.sl (n:=2) (rows:=(k0::kt).map encKd) 0 (k0::kt).length 1 none (by simp) (by simp)
  rwa [hcut]at this
 refine Reb.trans (s':=⟨[(4,.ptr 1 0 0)],[(0,Zu fs ps ns b),(1,some (.cells [[.int .i64 0,.str [],.vs 1 ((k0::kt).map encKd)]] false))],3⟩) ?_ (Q1 [0,1] (by exact rfl) ⟨.refl _,trivial⟩ ⟨⟨by decide,_,rfl,.refl _⟩,⟨by decide,_,rfl,.refl _⟩,trivial⟩)
 refine Zo (n:=2) (rows:=(k0::kt).map encKd) rfl (fKd _) ⟨.same _,trivial⟩ ?_
 refine⟨⟨by decide,_,rfl,.same _⟩,⟨by decide,_,rfl,.cells [[.int .i64 0,.str [],.slice 2 0 (k0::kt).length 1 none]] [[.int .i64 0,.str [],.vs 1 ((k0::kt).map encKd)]] false rfl (fun j r r' h h'=>?_)⟩,trivial⟩
 cases j with
 |zero=>
  cases h;cases h'
  exact⟨.same _,.same _,hs,trivial⟩
 |succ j=>simp at h
def v8L(fs:List Fd)(ps ns:List Int)(i b:Nat)(j:Nat)(ks:List (List Tr)):St:=⟨[(0,.ptr 0 0 0),(1,.int .i64 i),(4,.ptr 1 0 0),(6,.ptr 2 0 0),(7,.int .i64 j)],[(0,Zu fs ps ns b),(1,some (.cells [tr0] false)),(2,some (.cells [[.int .i64 0,.str [],Z8 3 1 ks]] false)),(3,Zi encKd ks)],5⟩
def v8K(fs:List Fd)(ps ns:List Int)(i b:Nat)(j:Nat)(ks:List (List Tr))(k:Nat):St:=⟨[(0,.ptr 0 0 0),(1,.int .i64 i),(4,.ptr 1 0 0),(6,.ptr 2 0 0),(7,.int .i64 j),(8,.int .i64 k),(9,.nils)],[(0,Zu fs ps ns b),(1,some (.cells [tr0] false)),(2,some (.cells [[.int .i64 0,.str [],Z8 3 1 ks]] false)),(3,Zi encKd ks)],5⟩
def v8I(fs:List Fd)(ps ns:List Int)(i b:Nat)(j:Nat)(ks:List (List Tr))(k n:Nat)(l:List Tr):St:=⟨[(0,.ptr 0 0 0),(1,.int .i64 i),(4,.ptr 1 0 0),(6,.ptr 2 0 0),(7,.int .i64 j),(8,.int .i64 k),(9,Z8 4 3 l),(10,.int .i64 n)],[(0,Zu fs ps ns b),(1,some (.cells [tr0] false)),(2,some (.cells [[.int .i64 0,.str [],Z8 3 1 ks]] false)),(3,Zi encKd ks),(4,Zi encT l)],5⟩
theorem gr8(l:List Tr)(tk:List (List Tr))(tn:Int)(ts:List UInt8):List.take l.length (List.drop 0 (l.map encT))++[[.int .i64 tn,.str ts,.vs 1 (tk.map fun x=>[.vs 3 (x.map encT)])]]=(l++[Tr.mk tk tn ts]).map encT:=by
 rw[List.drop_zero,List.take_of_length_le (by simp),List.map_append,List.map_cons,List.map_nil,QL]
theorem Xj(nx:Nat):rho [0,1,2,3,8] nx 4=8:=Xu (by decide)
theorem Ck{n:Nat}{rows:List (List AVal)}:∀r:List AVal,FzL n rows r r
 |[]=>trivial
 |a::l=>⟨.same _,Ck l⟩
theorem JC[Syms]{N:Nat}(fs:List Fd)(ps ns:List Int)(i b j:Nat)(ks:List (List Tr))(l0:Tr)(lt:List Tr):Reb 1 N ⟨[(0,.ptr 0 0 0),(1,.int .i64 i),(4,.ptr 1 0 0),(6,.ptr 2 0 0),(7,.int .i64 j)],[(0,Zu fs ps ns b),(1,some (.cells [tr0] false)),(2,some (.cells [[.int .i64 0,.str [],.slice 3 0 (ks.length+1) 1 none]] false)),(3,some (.cells (ks.map encKd++[[.slice 4 0 (l0::lt).length 3 none]]) false)),(4,some (.cells ((l0::lt).map encT) false))],5⟩ (v8L fs ps ns i b j (ks++[l0::lt])):=by
 have e1:Z8 3 1 (ks++[l0::lt])= .slice 3 0 (ks.length+1) 1 none:=by rw[Vd 3 1 (by simp),List.length_append];rfl
 have e2:Zi encKd (ks++[l0::lt])=some (.cells ((ks++[l0::lt]).map encKd) false):=ZD encKd (by simp)
 have hcut:(((l0::lt).map encT).drop 0).take (l0::lt).length=(l0::lt).map encT:=by rw[List.drop_zero,List.take_of_length_le (by simp)]
 have hs:FzV 4 ((l0::lt).map encT) (.slice 4 0 (l0::lt).length 3 none) (.vs 3 ((l0::lt).map encT)):=by
  have:=FzV.sl (n:=4) (rows:=(l0::lt).map encT) 0 (l0::lt).length 3 none (by simp) (by simp)
  rwa [hcut]at this
 unfold v8L
 rw[e1,e2]
 refine Zo (n:=4) (rows:=(l0::lt).map encT) rfl (fTr _) ⟨.same _,.same _,.same _,.same _,.same _,trivial⟩ ?_
 refine⟨⟨by decide,_,rfl,.same _⟩,⟨by decide,_,rfl,.same _⟩,⟨by decide,_,rfl,.same _⟩,⟨by decide,_,rfl,.cells _ _ false (by simp) (fun k r r' h h'=>?_)⟩,trivial⟩
 rw[List.map_append]at h'
 by_cases hk:k<ks.length
 ·rw[List.getElem?_append_left (by simpa using hk)]at h h'
  rw[h]at h'
  cases h'
  exact Ck r
 ·rw[List.getElem?_append_right (by simp;omega)]at h h'
  rw[List.length_map]at h h'
  cases hq:k-ks.length with
  |zero=>
   rw[hq]at h h'
   cases h;cases h'
   exact⟨hs,trivial⟩
  |succ x=>rw[hq]at h;simp at h
theorem JA(ρ:Nat→Nat)(h4:ρ 4=4)(ks:List (List Tr))(n:Nat):(Blk.cells (ks.map encKd++[[.slice 4 0 n 3 none]]) false).ren ρ= .cells (ks.map encKd++[[.slice 4 0 n 3 none]]) false:=by
 have h1:(Blk.cells (ks.map encKd) false).ren ρ= .cells (ks.map encKd) false:=Um ρ (fKd ks)
 simp only[Blk.ren,Blk.cells.injEq,and_true]at h1 ⊢
 rw[List.map_append,h1]
 simp[AVal.renL,AVal.ren,h4]
theorem XE(ks:List (List Tr))(r:List AVal):List.take ks.length (List.drop 0 (ks.map encKd))++[r]=ks.map encKd++[r]:=by rw[List.drop_zero,List.take_of_length_le (by simp)]
theorem ZO:∀r:List AVal,Jd r r
 |[]=>trivial
 |a::l=>⟨.refl _,ZO l⟩
theorem JB(ρ:Nat→Nat)(ks:List (List Tr)):WkB (.cells (ks.map encKd++[[.nils]]) false) ((Blk.cells ((ks++[[]]).map encKd) false).ren ρ):=by
 rw[Um ρ (fKd _),List.map_append]
 refine .each _ _ _ (by simp) (fun k r r' h h'=>?_)
 have hw:Jd r r':=by
  by_cases hk:k<ks.length
  ·rw[List.getElem?_append_left (by simpa using hk)]at h h'
   rw[h]at h'
   cases h'
   exact ZO r
  ·rw[List.getElem?_append_right (by simp;omega)]at h h'
   rw[List.length_map]at h h'
   cases hq:k-ks.length with
   |zero=>
    rw[hq]at h h'
    cases h;cases h'
    exact⟨.zero _ _ rfl,trivial⟩
   |succ x=>rw[hq]at h;simp at h
 exact⟨hw.at.1.symm,hw.at.2⟩
theorem Y9(nx:Nat):rho [0,1,2,6,4] nx 3=6:=Xu (by decide)
theorem FC(nx:Nat):rho [0,1,2,6,4] nx 4=4:=Xu (by decide)
noncomputable def Rb:Nat→Nat→Pl:=Kz [(52,1),(52,21),(52,26)] (ZS plt)
theorem Bx[Syms]{Post:AVal→Heap→Nat→Prop}(F:Nat)(fs:List Fd)(ps ns:List Int)(i a:Nat)(hm:MkOk fs ps ns)(hi:i<fs.length)(hF:fs.length-i≤F+1)(ha:a≤ns.length)(hk:(fs.getD i default).kind=0)
 (hP:Post (.agg (encT (ZV fs ps ns (F+1) i a).1)) [(0,Zu fs ps ns (ZV fs ps ns (F+1) i a).2)] 2):
 fnT Qz (cV F) (Zc fns) (Z5 tys) Rb 100 52 [.ptr 0 0 0,.int .i64 i] [(0,Zu fs ps ns a)] 1 (L9 Post):=by
 have hraw:=hm.raw
 have hlen:=hm.len
 rw[ZV,if_neg (fun h=>h hk)]at hP
 repeat' first|refine And.intro ?_ ?_|(intro h;try first|exact dz|replace h:=cv)
 all_goals try exact cz
 refine⟨[0],[.ptr 0 0 0],[(0,Zu fs ps ns a)],rfl,⟨.refl _,trivial⟩,⟨⟨by decide,_,rfl,.refl _⟩,trivial⟩,fs,ps,ns,a,rfl,rfl,rfl,hraw,ha,?_⟩
 have hb:=U9 ns ha
 generalize Z9 ns a=q at *
 obtain⟨x,b⟩:=q
 dsimp only at hP hb
 refine⟨vS0 fs ps ns i b x,Q1 [0,1] (by exact rfl) ⟨.refl _,.refl _,.refl _,.refl _,trivial⟩ ⟨⟨by decide,_,rfl,.refl _⟩,⟨by decide,_,rfl,.refl _⟩,trivial⟩,?_⟩
 generalize hC:XR fs ps ns i (ZV fs ps ns F) (fs.length-(i+1)) (i+1) b []=C at *
 repeat' first|refine And.intro ?_ ?_|(intro h;try first|exact dz|replace h:=cv)
 all_goals try exact cz
 refine⟨fun m s=>∃(j b:Nat) (ks:List (List Tr)),(i<j∧j≤fs.length∧m=fs.length-j∧b≤ns.length∧XR fs ps ns i (ZV fs ps ns F) (fs.length-j) j b ks=C∧ks.length≤j)∧s=v8L fs ps ns i b j ks,⟨_,v8L fs ps ns i b (i+1) [],(Mb (nx':=5) (by omega)).trans (Q1 [0,1,2,3,4] (by exact rfl) ⟨.refl _,.refl _,.refl _,.refl _,Q3 (by first|rfl|omega),trivial⟩ ⟨⟨by decide,_,rfl,.refl _⟩,⟨by decide,_,rfl,.refl _⟩,⟨by decide,_,rfl,.refl _⟩,trivial⟩),i+1,b,[],⟨by omega,by omega,rfl,hb,hC,Nat.zero_le _⟩,rfl⟩,?_⟩
 clear hb hC
 rintro m s ⟨j,b,ks,⟨hij,hj,rfl,hb,hC,hkl⟩,rfl⟩
 by_cases h1:j<fs.length
 ·have hc:fs.length-j=(fs.length-(j+1))+1:=by omega
  rw[hc,XR]at hC
  have hj':(j:Int)<(ps.length:Int):=by rw[hm.par];omega
  by_cases h2:ps.getD j 0=i
  ·rw[if_pos h2]at hC
   cases ks with
   |nil=>
    repeat' first|refine And.intro ?_ ?_|(intro h;try first|exact dz|replace h:=cv)
    all_goals try exact cz
    ·refine⟨[0],[.ptr 0 0 0],[(0,Zu fs ps ns b)],rfl,⟨.refl _,trivial⟩,⟨⟨by decide,_,rfl,.refl _⟩,trivial⟩,fs,ps,ns,b,rfl,rfl,rfl,hraw,hb,?_⟩
     have hb':=U9 ns hb
     rw[show WJ ns (fs.getD j default) b=((wi (Z9 ns b).1 2).toNat,(Z9 ns b).2) from if_pos ‹_›]at hC
     generalize Z9 ns b=q at *
     obtain⟨x,b'⟩:=q
     dsimp only at hC hb'
     obtain⟨w1,w2⟩:=ZA (a:=x) (n:=2) (by decide)
     obtain⟨k,hk2⟩:∃k:Nat,wi x 2=k:=⟨(wi x 2).toNat,by omega⟩
     rw[hk2,Int.toNat_natCast]at hC
     have hk3:k≤3:=by omega
     refine⟨x,2,rfl,⟨by decide,by decide⟩,?_⟩
     rw[hk2]
     repeat' first|refine And.intro ?_ ?_|(intro h;try first|exact dz|replace h:=cv)
     all_goals try exact cz
     refine⟨v8K fs ps ns i b' j [] k,QM [0,1,2,3,4] rfl rfl rfl rfl rfl (by exact rfl) ⟨.refl _,.refl _,.refl _,.refl _,.refl _,Q3 (by first|rfl|omega),.refl _,trivial⟩ rfl rfl rfl (fun ρ hρ=>⟨.refl _,.refl _,Xg hρ,trivial⟩) rfl trivial,?_⟩
     generalize hD:Xa (ZV fs ps ns F j) k b' []=D at *
     repeat' first|refine And.intro ?_ ?_|(intro h;try first|exact dz|replace h:=cv)
     all_goals try exact cz
     refine⟨fun m s=>∃(n b1:Nat) (l:List Tr),(n≤k∧m=k-n∧b1≤ns.length∧Xa (ZV fs ps ns F j) (k-n) b1 l=D∧l.length=n)∧s=v8I fs ps ns i b1 j [] k n l,⟨_,v8I fs ps ns i b' j [] k 0 [],QM [0,1,2,3,4] rfl rfl rfl rfl rfl (by exact rfl) ⟨.refl _,.refl _,.refl _,.refl _,.refl _,.refl _,.refl _,.refl _,trivial⟩ rfl rfl rfl (fun ρ hρ=>⟨.refl _,.refl _,Xg hρ,trivial⟩) rfl trivial,0,b',[],⟨by omega,rfl,hb',hD,rfl⟩,rfl⟩,?_⟩
     clear hb' hD
     rintro m s ⟨n,b1,l,⟨hn,rfl,hb1,hD,hln⟩,rfl⟩
     by_cases hnk:n<k
     ·have hkn:k-n=(k-(n+1))+1:=by omega
      rw[hkn,Xa]at hD
      have hb2:=Vs fs ps ns F j b1 hb1
      cases l with
      |nil=>
       repeat' first|refine And.intro ?_ ?_|(intro h;try first|exact dz|replace h:=cv)
       all_goals try exact cz
       refine⟨[0],[.ptr 0 0 0,.int .i64 (j:Nat)],[(0,Zu fs ps ns b1)],rfl,⟨.refl _,.refl _,trivial⟩,⟨⟨by decide,_,rfl,.refl _⟩,trivial⟩,fs,ps,ns,j,b1,rfl,rfl,rfl,hm,h1,by omega,hb1,?_⟩
       rcases hq:ZV fs ps ns F j b1 with⟨⟨tk,tn,ts⟩,b2⟩
       rw[hq]at hD hb2
       dsimp only at hD hb2 ⊢
       rw[QL]
       repeat' first|refine And.intro ?_ ?_|(intro h;try first|exact dz|replace h:=cv)
       all_goals try exact cz
       all_goals(try first|(show(_+1)*48≤_;omega)|(show _+1≤_;omega))
       exact⟨_,v8I fs ps ns i b2 j [] k (n+1) ([]++[Tr.mk tk tn ts]),QM [0,1,2,3,8] rfl rfl rfl rfl rfl (by exact rfl) ⟨.refl _,.refl _,.refl _,.refl _,.refl _,.refl _,Y8 (Xj _) (by simp) (by simp),Q3 (by first|rfl|omega),trivial⟩ rfl rfl rfl (fun ρ hρ=>⟨.refl _,.refl _,Xg hρ,trivial⟩) rfl (YV (fTr _) (by decide) (by rw[Xj];exact rfl) (by first|exact gr8 [] tk tn ts|exact gr8 _ tk tn ts) (by simp) trivial),⟨n+1,b2,_,⟨by omega,rfl,hb2,hD,by simp at hln ⊢;omega⟩,rfl⟩,by omega⟩
      |cons l0 lt=>
       repeat' first|refine And.intro ?_ ?_|(intro h;try first|exact dz|replace h:=cv)
       all_goals try exact cz
       refine⟨[0],[.ptr 0 0 0,.int .i64 (j:Nat)],[(0,Zu fs ps ns b1)],rfl,⟨.refl _,.refl _,trivial⟩,⟨⟨by decide,_,rfl,.refl _⟩,trivial⟩,fs,ps,ns,j,b1,rfl,rfl,rfl,hm,h1,by omega,hb1,?_⟩
       rcases hq:ZV fs ps ns F j b1 with⟨⟨tk,tn,ts⟩,b2⟩
       rw[hq]at hD hb2
       dsimp only at hD hb2 ⊢
       rw[QL]
       repeat' first|refine And.intro ?_ ?_|(intro h;try first|exact dz|replace h:=cv)
       all_goals try exact cz
       all_goals(try first|(show(_+1)*48≤_;omega)|(show _+1≤_;omega))
       exact⟨_,v8I fs ps ns i b2 j [] k (n+1) ((l0::lt)++[Tr.mk tk tn ts]),QM [0,1,2,3,8] rfl rfl rfl rfl rfl (by exact rfl) ⟨.refl _,.refl _,.refl _,.refl _,.refl _,.refl _,Y8 (Xj _) (by simp) (by simp),Q3 (by first|rfl|omega),trivial⟩ rfl rfl rfl (fun ρ hρ=>⟨.refl _,.refl _,Xg hρ,trivial⟩) rfl (YV (fTr _) (by decide) (by rw[Xj];exact rfl) (by first|exact gr8 [] tk tn ts|exact gr8 _ tk tn ts) (by simp) trivial),⟨n+1,b2,_,⟨by omega,rfl,hb2,hD,by simp at hln ⊢;omega⟩,rfl⟩,by omega⟩
     ·obtain rfl:n=k:=by omega
      rw[Nat.sub_self,Xa]at hD
      subst hD
      dsimp only at hC
      have hjl:[].length≤j:=hkl
      cases l with
      |nil=>
       repeat' first|refine And.intro ?_ ?_|(intro h;try first|exact dz|replace h:=cv)
       all_goals try exact cz
       all_goals(try first|(show(_+1)*24≤_;omega)|(show _+1≤_;omega))
       refine⟨v8L fs ps ns i b1 j ([]++[[]]),Q1 [0,1,2,6,4] (by exact rfl) ⟨.refl _,.refl _,.refl _,.refl _,.refl _,trivial⟩ ⟨⟨by decide,_,rfl,.refl _⟩,⟨by decide,_,rfl,.refl _⟩,⟨by decide,_,rfl,Zg (row:=[.int .i64 0,.str [],Z8 3 1 ([]++[[]])]) ⟨.refl _,.refl _,Y8 (Y9 _) (by simp) (by simp),trivial⟩⟩,Eq (fun bb hbb=>⟨by decide,.cells ([].map encKd++[[.nils]]) false,by rw[Y9];first|exact rfl|exact congrArg (fun z=>some (Blk.cells z false)) (XE _ _),by rw[ZD encKd (by simp)]at hbb;cases hbb;exact JB _ _⟩) trivial⟩,?_⟩
       repeat' first|refine And.intro ?_ ?_|(intro h;try first|exact dz|replace h:=cv)
       all_goals try exact cz
       exact⟨_,v8L fs ps ns i b1 (j+1) ([]++[[]]),QM [0,1,2,3,4] rfl rfl rfl rfl rfl (by exact rfl) ⟨.refl _,.refl _,.refl _,.refl _,Q3 (by first|rfl|omega),trivial⟩ rfl rfl rfl (fun ρ hρ=>⟨.refl _,.refl _,Xg hρ,trivial⟩) rfl trivial,⟨j+1,b1,_,⟨by omega,by omega,rfl,hb1,hC,by simp only[List.length_append,List.length_cons,List.length_nil]at hjl ⊢;omega⟩,rfl⟩,by omega⟩
      |cons l0 lt=>
       repeat' first|refine And.intro ?_ ?_|(intro h;try first|exact dz|replace h:=cv)
       all_goals try exact cz
       all_goals(try first|(show(_+1)*24≤_;omega)|(show _+1≤_;omega))
       refine⟨v8L fs ps ns i b1 j ([]++[(l0::lt)]),Reb.trans (by exact Q1 [0,1,2,6,4] (by exact rfl) ⟨.refl _,.refl _,.refl _,.refl _,.refl _,trivial⟩ ⟨⟨by decide,_,rfl,.refl _⟩,⟨by decide,_,rfl,.refl _⟩,⟨by decide,_,rfl,Zg (row:=[.int .i64 0,.str [],.slice 3 0 ([].length+1) 1 none]) ⟨.refl _,.refl _,.refl _,trivial⟩⟩,⟨by decide,.cells ([].map encKd++[[.slice 4 0 (l0::lt).length 3 none]]) false,(by rw[Y9];first|exact rfl|exact congrArg (fun z=>some (Blk.cells z false)) (XE _ _)),by rw[JA _ (FC _)];exact .refl _⟩,⟨by decide,_,rfl,Qc (fTr _)⟩,trivial⟩) (JC fs ps ns i b1 j [] l0 lt),?_⟩
       repeat' first|refine And.intro ?_ ?_|(intro h;try first|exact dz|replace h:=cv)
       all_goals try exact cz
       exact⟨_,v8L fs ps ns i b1 (j+1) ([]++[(l0::lt)]),QM [0,1,2,3,4] rfl rfl rfl rfl rfl (by exact rfl) ⟨.refl _,.refl _,.refl _,.refl _,Q3 (by first|rfl|omega),trivial⟩ rfl rfl rfl (fun ρ hρ=>⟨.refl _,.refl _,Xg hρ,trivial⟩) rfl trivial,⟨j+1,b1,_,⟨by omega,by omega,rfl,hb1,hC,by simp only[List.length_append,List.length_cons,List.length_nil]at hjl ⊢;omega⟩,rfl⟩,by omega⟩
    ·refine⟨[0],[.ptr 0 0 0],[(0,Zu fs ps ns b)],rfl,⟨.refl _,trivial⟩,⟨⟨by decide,_,rfl,.refl _⟩,trivial⟩,fs,ps,ns,b,rfl,rfl,rfl,hraw,hb,?_⟩
     have hb':=U9 ns hb
     rw[show WJ ns (fs.getD j default) b=((wi (Z9 ns b).1 4).toNat,(Z9 ns b).2) from(if_neg ‹_›).trans (if_pos ‹_›)]at hC
     generalize Z9 ns b=q at *
     obtain⟨x,b'⟩:=q
     dsimp only at hC hb'
     obtain⟨w1,w2⟩:=ZA (a:=x) (n:=4) (by decide)
     obtain⟨k,hk2⟩:∃k:Nat,wi x 4=k:=⟨(wi x 4).toNat,by omega⟩
     rw[hk2,Int.toNat_natCast]at hC
     have hk3:k≤3:=by omega
     refine⟨x,4,rfl,⟨by decide,by decide⟩,?_⟩
     rw[hk2]
     repeat' first|refine And.intro ?_ ?_|(intro h;try first|exact dz|replace h:=cv)
     all_goals try exact cz
     refine⟨v8K fs ps ns i b' j [] k,QM [0,1,2,3,4] rfl rfl rfl rfl rfl (by exact rfl) ⟨.refl _,.refl _,.refl _,.refl _,.refl _,Q3 (by first|rfl|omega),.refl _,trivial⟩ rfl rfl rfl (fun ρ hρ=>⟨.refl _,.refl _,Xg hρ,trivial⟩) rfl trivial,?_⟩
     generalize hD:Xa (ZV fs ps ns F j) k b' []=D at *
     repeat' first|refine And.intro ?_ ?_|(intro h;try first|exact dz|replace h:=cv)
     all_goals try exact cz
     refine⟨fun m s=>∃(n b1:Nat) (l:List Tr),(n≤k∧m=k-n∧b1≤ns.length∧Xa (ZV fs ps ns F j) (k-n) b1 l=D∧l.length=n)∧s=v8I fs ps ns i b1 j [] k n l,⟨_,v8I fs ps ns i b' j [] k 0 [],QM [0,1,2,3,4] rfl rfl rfl rfl rfl (by exact rfl) ⟨.refl _,.refl _,.refl _,.refl _,.refl _,.refl _,.refl _,.refl _,trivial⟩ rfl rfl rfl (fun ρ hρ=>⟨.refl _,.refl _,Xg hρ,trivial⟩) rfl trivial,0,b',[],⟨by omega,rfl,hb',hD,rfl⟩,rfl⟩,?_⟩
     clear hb' hD
     rintro m s ⟨n,b1,l,⟨hn,rfl,hb1,hD,hln⟩,rfl⟩
     by_cases hnk:n<k
     ·have hkn:k-n=(k-(n+1))+1:=by omega
      rw[hkn,Xa]at hD
      have hb2:=Vs fs ps ns F j b1 hb1
      cases l with
      |nil=>
       repeat' first|refine And.intro ?_ ?_|(intro h;try first|exact dz|replace h:=cv)
       all_goals try exact cz
       refine⟨[0],[.ptr 0 0 0,.int .i64 (j:Nat)],[(0,Zu fs ps ns b1)],rfl,⟨.refl _,.refl _,trivial⟩,⟨⟨by decide,_,rfl,.refl _⟩,trivial⟩,fs,ps,ns,j,b1,rfl,rfl,rfl,hm,h1,by omega,hb1,?_⟩
       rcases hq:ZV fs ps ns F j b1 with⟨⟨tk,tn,ts⟩,b2⟩
       rw[hq]at hD hb2
       dsimp only at hD hb2 ⊢
       rw[QL]
       repeat' first|refine And.intro ?_ ?_|(intro h;try first|exact dz|replace h:=cv)
       all_goals try exact cz
       all_goals(try first|(show(_+1)*48≤_;omega)|(show _+1≤_;omega))
       exact⟨_,v8I fs ps ns i b2 j [] k (n+1) ([]++[Tr.mk tk tn ts]),QM [0,1,2,3,8] rfl rfl rfl rfl rfl (by exact rfl) ⟨.refl _,.refl _,.refl _,.refl _,.refl _,.refl _,Y8 (Xj _) (by simp) (by simp),Q3 (by first|rfl|omega),trivial⟩ rfl rfl rfl (fun ρ hρ=>⟨.refl _,.refl _,Xg hρ,trivial⟩) rfl (YV (fTr _) (by decide) (by rw[Xj];exact rfl) (by first|exact gr8 [] tk tn ts|exact gr8 _ tk tn ts) (by simp) trivial),⟨n+1,b2,_,⟨by omega,rfl,hb2,hD,by simp at hln ⊢;omega⟩,rfl⟩,by omega⟩
      |cons l0 lt=>
       repeat' first|refine And.intro ?_ ?_|(intro h;try first|exact dz|replace h:=cv)
       all_goals try exact cz
       refine⟨[0],[.ptr 0 0 0,.int .i64 (j:Nat)],[(0,Zu fs ps ns b1)],rfl,⟨.refl _,.refl _,trivial⟩,⟨⟨by decide,_,rfl,.refl _⟩,trivial⟩,fs,ps,ns,j,b1,rfl,rfl,rfl,hm,h1,by omega,hb1,?_⟩
       rcases hq:ZV fs ps ns F j b1 with⟨⟨tk,tn,ts⟩,b2⟩
       rw[hq]at hD hb2
       dsimp only at hD hb2 ⊢
       rw[QL]
       repeat' first|refine And.intro ?_ ?_|(intro h;try first|exact dz|replace h:=cv)
       all_goals try exact cz
       all_goals(try first|(show(_+1)*48≤_;omega)|(show _+1≤_;omega))
       exact⟨_,v8I fs ps ns i b2 j [] k (n+1) ((l0::lt)++[Tr.mk tk tn ts]),QM [0,1,2,3,8] rfl rfl rfl rfl rfl (by exact rfl) ⟨.refl _,.refl _,.refl _,.refl _,.refl _,.refl _,Y8 (Xj _) (by simp) (by simp),Q3 (by first|rfl|omega),trivial⟩ rfl rfl rfl (fun ρ hρ=>⟨.refl _,.refl _,Xg hρ,trivial⟩) rfl (YV (fTr _) (by decide) (by rw[Xj];exact rfl) (by first|exact gr8 [] tk tn ts|exact gr8 _ tk tn ts) (by simp) trivial),⟨n+1,b2,_,⟨by omega,rfl,hb2,hD,by simp at hln ⊢;omega⟩,rfl⟩,by omega⟩
     ·obtain rfl:n=k:=by omega
      rw[Nat.sub_self,Xa]at hD
      subst hD
      dsimp only at hC
      have hjl:[].length≤j:=hkl
      cases l with
      |nil=>
       repeat' first|refine And.intro ?_ ?_|(intro h;try first|exact dz|replace h:=cv)
       all_goals try exact cz
       all_goals(try first|(show(_+1)*24≤_;omega)|(show _+1≤_;omega))
       refine⟨v8L fs ps ns i b1 j ([]++[[]]),Q1 [0,1,2,6,4] (by exact rfl) ⟨.refl _,.refl _,.refl _,.refl _,.refl _,trivial⟩ ⟨⟨by decide,_,rfl,.refl _⟩,⟨by decide,_,rfl,.refl _⟩,⟨by decide,_,rfl,Zg (row:=[.int .i64 0,.str [],Z8 3 1 ([]++[[]])]) ⟨.refl _,.refl _,Y8 (Y9 _) (by simp) (by simp),trivial⟩⟩,Eq (fun bb hbb=>⟨by decide,.cells ([].map encKd++[[.nils]]) false,by rw[Y9];first|exact rfl|exact congrArg (fun z=>some (Blk.cells z false)) (XE _ _),by rw[ZD encKd (by simp)]at hbb;cases hbb;exact JB _ _⟩) trivial⟩,?_⟩
       repeat' first|refine And.intro ?_ ?_|(intro h;try first|exact dz|replace h:=cv)
       all_goals try exact cz
       exact⟨_,v8L fs ps ns i b1 (j+1) ([]++[[]]),QM [0,1,2,3,4] rfl rfl rfl rfl rfl (by exact rfl) ⟨.refl _,.refl _,.refl _,.refl _,Q3 (by first|rfl|omega),trivial⟩ rfl rfl rfl (fun ρ hρ=>⟨.refl _,.refl _,Xg hρ,trivial⟩) rfl trivial,⟨j+1,b1,_,⟨by omega,by omega,rfl,hb1,hC,by simp only[List.length_append,List.length_cons,List.length_nil]at hjl ⊢;omega⟩,rfl⟩,by omega⟩
      |cons l0 lt=>
       repeat' first|refine And.intro ?_ ?_|(intro h;try first|exact dz|replace h:=cv)
       all_goals try exact cz
       all_goals(try first|(show(_+1)*24≤_;omega)|(show _+1≤_;omega))
       refine⟨v8L fs ps ns i b1 j ([]++[(l0::lt)]),Reb.trans (by exact Q1 [0,1,2,6,4] (by exact rfl) ⟨.refl _,.refl _,.refl _,.refl _,.refl _,trivial⟩ ⟨⟨by decide,_,rfl,.refl _⟩,⟨by decide,_,rfl,.refl _⟩,⟨by decide,_,rfl,Zg (row:=[.int .i64 0,.str [],.slice 3 0 ([].length+1) 1 none]) ⟨.refl _,.refl _,.refl _,trivial⟩⟩,⟨by decide,.cells ([].map encKd++[[.slice 4 0 (l0::lt).length 3 none]]) false,(by rw[Y9];first|exact rfl|exact congrArg (fun z=>some (Blk.cells z false)) (XE _ _)),by rw[JA _ (FC _)];exact .refl _⟩,⟨by decide,_,rfl,Qc (fTr _)⟩,trivial⟩) (JC fs ps ns i b1 j [] l0 lt),?_⟩
       repeat' first|refine And.intro ?_ ?_|(intro h;try first|exact dz|replace h:=cv)
       all_goals try exact cz
       exact⟨_,v8L fs ps ns i b1 (j+1) ([]++[(l0::lt)]),QM [0,1,2,3,4] rfl rfl rfl rfl rfl (by exact rfl) ⟨.refl _,.refl _,.refl _,.refl _,Q3 (by first|rfl|omega),trivial⟩ rfl rfl rfl (fun ρ hρ=>⟨.refl _,.refl _,Xg hρ,trivial⟩) rfl trivial,⟨j+1,b1,_,⟨by omega,by omega,rfl,hb1,hC,by simp only[List.length_append,List.length_cons,List.length_nil]at hjl ⊢;omega⟩,rfl⟩,by omega⟩
    ·obtain⟨k,hk2⟩:∃k:Nat,k=1:=⟨1,rfl⟩
     rw[show WJ ns (fs.getD j default) b=(k,b) from(if_neg ‹_›).trans ((if_neg ‹_›).trans (by rw[hk2]))]at hC
     have hb':=hb
     obtain⟨b',hbb⟩:∃b',b'=b:=⟨b,rfl⟩
     subst hbb
     have hk3:k≤3:=by omega
     dsimp only at hC
     refine⟨v8K fs ps ns i b' j [] k,QM [0,1,2,3,4] rfl rfl rfl rfl rfl (by exact rfl) ⟨.refl _,.refl _,.refl _,.refl _,.refl _,Q3 (by first|rfl|omega),.refl _,trivial⟩ rfl rfl rfl (fun ρ hρ=>⟨.refl _,.refl _,Xg hρ,trivial⟩) rfl trivial,?_⟩
     generalize hD:Xa (ZV fs ps ns F j) k b' []=D at *
     repeat' first|refine And.intro ?_ ?_|(intro h;try first|exact dz|replace h:=cv)
     all_goals try exact cz
     refine⟨fun m s=>∃(n b1:Nat) (l:List Tr),(n≤k∧m=k-n∧b1≤ns.length∧Xa (ZV fs ps ns F j) (k-n) b1 l=D∧l.length=n)∧s=v8I fs ps ns i b1 j [] k n l,⟨_,v8I fs ps ns i b' j [] k 0 [],QM [0,1,2,3,4] rfl rfl rfl rfl rfl (by exact rfl) ⟨.refl _,.refl _,.refl _,.refl _,.refl _,.refl _,.refl _,.refl _,trivial⟩ rfl rfl rfl (fun ρ hρ=>⟨.refl _,.refl _,Xg hρ,trivial⟩) rfl trivial,0,b',[],⟨by omega,rfl,hb',hD,rfl⟩,rfl⟩,?_⟩
     clear hb' hD
     rintro m s ⟨n,b1,l,⟨hn,rfl,hb1,hD,hln⟩,rfl⟩
     by_cases hnk:n<k
     ·have hkn:k-n=(k-(n+1))+1:=by omega
      rw[hkn,Xa]at hD
      have hb2:=Vs fs ps ns F j b1 hb1
      cases l with
      |nil=>
       repeat' first|refine And.intro ?_ ?_|(intro h;try first|exact dz|replace h:=cv)
       all_goals try exact cz
       refine⟨[0],[.ptr 0 0 0,.int .i64 (j:Nat)],[(0,Zu fs ps ns b1)],rfl,⟨.refl _,.refl _,trivial⟩,⟨⟨by decide,_,rfl,.refl _⟩,trivial⟩,fs,ps,ns,j,b1,rfl,rfl,rfl,hm,h1,by omega,hb1,?_⟩
       rcases hq:ZV fs ps ns F j b1 with⟨⟨tk,tn,ts⟩,b2⟩
       rw[hq]at hD hb2
       dsimp only at hD hb2 ⊢
       rw[QL]
       repeat' first|refine And.intro ?_ ?_|(intro h;try first|exact dz|replace h:=cv)
       all_goals try exact cz
       all_goals(try first|(show(_+1)*48≤_;omega)|(show _+1≤_;omega))
       exact⟨_,v8I fs ps ns i b2 j [] k (n+1) ([]++[Tr.mk tk tn ts]),QM [0,1,2,3,8] rfl rfl rfl rfl rfl (by exact rfl) ⟨.refl _,.refl _,.refl _,.refl _,.refl _,.refl _,Y8 (Xj _) (by simp) (by simp),Q3 (by first|rfl|omega),trivial⟩ rfl rfl rfl (fun ρ hρ=>⟨.refl _,.refl _,Xg hρ,trivial⟩) rfl (YV (fTr _) (by decide) (by rw[Xj];exact rfl) (by first|exact gr8 [] tk tn ts|exact gr8 _ tk tn ts) (by simp) trivial),⟨n+1,b2,_,⟨by omega,rfl,hb2,hD,by simp at hln ⊢;omega⟩,rfl⟩,by omega⟩
      |cons l0 lt=>
       repeat' first|refine And.intro ?_ ?_|(intro h;try first|exact dz|replace h:=cv)
       all_goals try exact cz
       refine⟨[0],[.ptr 0 0 0,.int .i64 (j:Nat)],[(0,Zu fs ps ns b1)],rfl,⟨.refl _,.refl _,trivial⟩,⟨⟨by decide,_,rfl,.refl _⟩,trivial⟩,fs,ps,ns,j,b1,rfl,rfl,rfl,hm,h1,by omega,hb1,?_⟩
       rcases hq:ZV fs ps ns F j b1 with⟨⟨tk,tn,ts⟩,b2⟩
       rw[hq]at hD hb2
       dsimp only at hD hb2 ⊢
       rw[QL]
       repeat' first|refine And.intro ?_ ?_|(intro h;try first|exact dz|replace h:=cv)
       all_goals try exact cz
       all_goals(try first|(show(_+1)*48≤_;omega)|(show _+1≤_;omega))
       exact⟨_,v8I fs ps ns i b2 j [] k (n+1) ((l0::lt)++[Tr.mk tk tn ts]),QM [0,1,2,3,8] rfl rfl rfl rfl rfl (by exact rfl) ⟨.refl _,.refl _,.refl _,.refl _,.refl _,.refl _,Y8 (Xj _) (by simp) (by simp),Q3 (by first|rfl|omega),trivial⟩ rfl rfl rfl (fun ρ hρ=>⟨.refl _,.refl _,Xg hρ,trivial⟩) rfl (YV (fTr _) (by decide) (by rw[Xj];exact rfl) (by first|exact gr8 [] tk tn ts|exact gr8 _ tk tn ts) (by simp) trivial),⟨n+1,b2,_,⟨by omega,rfl,hb2,hD,by simp at hln ⊢;omega⟩,rfl⟩,by omega⟩
     ·obtain rfl:n=k:=by omega
      rw[Nat.sub_self,Xa]at hD
      subst hD
      dsimp only at hC
      have hjl:[].length≤j:=hkl
      cases l with
      |nil=>
       repeat' first|refine And.intro ?_ ?_|(intro h;try first|exact dz|replace h:=cv)
       all_goals try exact cz
       all_goals(try first|(show(_+1)*24≤_;omega)|(show _+1≤_;omega))
       refine⟨v8L fs ps ns i b1 j ([]++[[]]),Q1 [0,1,2,6,4] (by exact rfl) ⟨.refl _,.refl _,.refl _,.refl _,.refl _,trivial⟩ ⟨⟨by decide,_,rfl,.refl _⟩,⟨by decide,_,rfl,.refl _⟩,⟨by decide,_,rfl,Zg (row:=[.int .i64 0,.str [],Z8 3 1 ([]++[[]])]) ⟨.refl _,.refl _,Y8 (Y9 _) (by simp) (by simp),trivial⟩⟩,Eq (fun bb hbb=>⟨by decide,.cells ([].map encKd++[[.nils]]) false,by rw[Y9];first|exact rfl|exact congrArg (fun z=>some (Blk.cells z false)) (XE _ _),by rw[ZD encKd (by simp)]at hbb;cases hbb;exact JB _ _⟩) trivial⟩,?_⟩
       repeat' first|refine And.intro ?_ ?_|(intro h;try first|exact dz|replace h:=cv)
       all_goals try exact cz
       exact⟨_,v8L fs ps ns i b1 (j+1) ([]++[[]]),QM [0,1,2,3,4] rfl rfl rfl rfl rfl (by exact rfl) ⟨.refl _,.refl _,.refl _,.refl _,Q3 (by first|rfl|omega),trivial⟩ rfl rfl rfl (fun ρ hρ=>⟨.refl _,.refl _,Xg hρ,trivial⟩) rfl trivial,⟨j+1,b1,_,⟨by omega,by omega,rfl,hb1,hC,by simp only[List.length_append,List.length_cons,List.length_nil]at hjl ⊢;omega⟩,rfl⟩,by omega⟩
      |cons l0 lt=>
       repeat' first|refine And.intro ?_ ?_|(intro h;try first|exact dz|replace h:=cv)
       all_goals try exact cz
       all_goals(try first|(show(_+1)*24≤_;omega)|(show _+1≤_;omega))
       refine⟨v8L fs ps ns i b1 j ([]++[(l0::lt)]),Reb.trans (by exact Q1 [0,1,2,6,4] (by exact rfl) ⟨.refl _,.refl _,.refl _,.refl _,.refl _,trivial⟩ ⟨⟨by decide,_,rfl,.refl _⟩,⟨by decide,_,rfl,.refl _⟩,⟨by decide,_,rfl,Zg (row:=[.int .i64 0,.str [],.slice 3 0 ([].length+1) 1 none]) ⟨.refl _,.refl _,.refl _,trivial⟩⟩,⟨by decide,.cells ([].map encKd++[[.slice 4 0 (l0::lt).length 3 none]]) false,(by rw[Y9];first|exact rfl|exact congrArg (fun z=>some (Blk.cells z false)) (XE _ _)),by rw[JA _ (FC _)];exact .refl _⟩,⟨by decide,_,rfl,Qc (fTr _)⟩,trivial⟩) (JC fs ps ns i b1 j [] l0 lt),?_⟩
       repeat' first|refine And.intro ?_ ?_|(intro h;try first|exact dz|replace h:=cv)
       all_goals try exact cz
       exact⟨_,v8L fs ps ns i b1 (j+1) ([]++[(l0::lt)]),QM [0,1,2,3,4] rfl rfl rfl rfl rfl (by exact rfl) ⟨.refl _,.refl _,.refl _,.refl _,Q3 (by first|rfl|omega),trivial⟩ rfl rfl rfl (fun ρ hρ=>⟨.refl _,.refl _,Xg hρ,trivial⟩) rfl trivial,⟨j+1,b1,_,⟨by omega,by omega,rfl,hb1,hC,by simp only[List.length_append,List.length_cons,List.length_nil]at hjl ⊢;omega⟩,rfl⟩,by omega⟩
   |cons k0 kt=>
    repeat' first|refine And.intro ?_ ?_|(intro h;try first|exact dz|replace h:=cv)
    all_goals try exact cz
    ·refine⟨[0],[.ptr 0 0 0],[(0,Zu fs ps ns b)],rfl,⟨.refl _,trivial⟩,⟨⟨by decide,_,rfl,.refl _⟩,trivial⟩,fs,ps,ns,b,rfl,rfl,rfl,hraw,hb,?_⟩
     have hb':=U9 ns hb
     rw[show WJ ns (fs.getD j default) b=((wi (Z9 ns b).1 2).toNat,(Z9 ns b).2) from if_pos ‹_›]at hC
     generalize Z9 ns b=q at *
     obtain⟨x,b'⟩:=q
     dsimp only at hC hb'
     obtain⟨w1,w2⟩:=ZA (a:=x) (n:=2) (by decide)
     obtain⟨k,hk2⟩:∃k:Nat,wi x 2=k:=⟨(wi x 2).toNat,by omega⟩
     rw[hk2,Int.toNat_natCast]at hC
     have hk3:k≤3:=by omega
     refine⟨x,2,rfl,⟨by decide,by decide⟩,?_⟩
     rw[hk2]
     repeat' first|refine And.intro ?_ ?_|(intro h;try first|exact dz|replace h:=cv)
     all_goals try exact cz
     refine⟨v8K fs ps ns i b' j (k0::kt) k,QM [0,1,2,3,4] rfl rfl rfl rfl rfl (by exact rfl) ⟨.refl _,.refl _,.refl _,.refl _,.refl _,Q3 (by first|rfl|omega),.refl _,trivial⟩ rfl rfl rfl (fun ρ hρ=>⟨.refl _,.refl _,Xg hρ,trivial⟩) rfl trivial,?_⟩
     generalize hD:Xa (ZV fs ps ns F j) k b' []=D at *
     repeat' first|refine And.intro ?_ ?_|(intro h;try first|exact dz|replace h:=cv)
     all_goals try exact cz
     refine⟨fun m s=>∃(n b1:Nat) (l:List Tr),(n≤k∧m=k-n∧b1≤ns.length∧Xa (ZV fs ps ns F j) (k-n) b1 l=D∧l.length=n)∧s=v8I fs ps ns i b1 j (k0::kt) k n l,⟨_,v8I fs ps ns i b' j (k0::kt) k 0 [],QM [0,1,2,3,4] rfl rfl rfl rfl rfl (by exact rfl) ⟨.refl _,.refl _,.refl _,.refl _,.refl _,.refl _,.refl _,.refl _,trivial⟩ rfl rfl rfl (fun ρ hρ=>⟨.refl _,.refl _,Xg hρ,trivial⟩) rfl trivial,0,b',[],⟨by omega,rfl,hb',hD,rfl⟩,rfl⟩,?_⟩
     clear hb' hD
     rintro m s ⟨n,b1,l,⟨hn,rfl,hb1,hD,hln⟩,rfl⟩
     by_cases hnk:n<k
     ·have hkn:k-n=(k-(n+1))+1:=by omega
      rw[hkn,Xa]at hD
      have hb2:=Vs fs ps ns F j b1 hb1
      cases l with
      |nil=>
       repeat' first|refine And.intro ?_ ?_|(intro h;try first|exact dz|replace h:=cv)
       all_goals try exact cz
       refine⟨[0],[.ptr 0 0 0,.int .i64 (j:Nat)],[(0,Zu fs ps ns b1)],rfl,⟨.refl _,.refl _,trivial⟩,⟨⟨by decide,_,rfl,.refl _⟩,trivial⟩,fs,ps,ns,j,b1,rfl,rfl,rfl,hm,h1,by omega,hb1,?_⟩
       rcases hq:ZV fs ps ns F j b1 with⟨⟨tk,tn,ts⟩,b2⟩
       rw[hq]at hD hb2
       dsimp only at hD hb2 ⊢
       rw[QL]
       repeat' first|refine And.intro ?_ ?_|(intro h;try first|exact dz|replace h:=cv)
       all_goals try exact cz
       all_goals(try first|(show(_+1)*48≤_;omega)|(show _+1≤_;omega))
       exact⟨_,v8I fs ps ns i b2 j (k0::kt) k (n+1) ([]++[Tr.mk tk tn ts]),QM [0,1,2,3,8] rfl rfl rfl rfl rfl (by exact rfl) ⟨.refl _,.refl _,.refl _,.refl _,.refl _,.refl _,Y8 (Xj _) (by simp) (by simp),Q3 (by first|rfl|omega),trivial⟩ rfl rfl rfl (fun ρ hρ=>⟨.refl _,.refl _,Xg hρ,trivial⟩) rfl (YV (fTr _) (by decide) (by rw[Xj];exact rfl) (by first|exact gr8 [] tk tn ts|exact gr8 _ tk tn ts) (by simp) trivial),⟨n+1,b2,_,⟨by omega,rfl,hb2,hD,by simp at hln ⊢;omega⟩,rfl⟩,by omega⟩
      |cons l0 lt=>
       repeat' first|refine And.intro ?_ ?_|(intro h;try first|exact dz|replace h:=cv)
       all_goals try exact cz
       refine⟨[0],[.ptr 0 0 0,.int .i64 (j:Nat)],[(0,Zu fs ps ns b1)],rfl,⟨.refl _,.refl _,trivial⟩,⟨⟨by decide,_,rfl,.refl _⟩,trivial⟩,fs,ps,ns,j,b1,rfl,rfl,rfl,hm,h1,by omega,hb1,?_⟩
       rcases hq:ZV fs ps ns F j b1 with⟨⟨tk,tn,ts⟩,b2⟩
       rw[hq]at hD hb2
       dsimp only at hD hb2 ⊢
       rw[QL]
       repeat' first|refine And.intro ?_ ?_|(intro h;try first|exact dz|replace h:=cv)
       all_goals try exact cz
       all_goals(try first|(show(_+1)*48≤_;omega)|(show _+1≤_;omega))
       exact⟨_,v8I fs ps ns i b2 j (k0::kt) k (n+1) ((l0::lt)++[Tr.mk tk tn ts]),QM [0,1,2,3,8] rfl rfl rfl rfl rfl (by exact rfl) ⟨.refl _,.refl _,.refl _,.refl _,.refl _,.refl _,Y8 (Xj _) (by simp) (by simp),Q3 (by first|rfl|omega),trivial⟩ rfl rfl rfl (fun ρ hρ=>⟨.refl _,.refl _,Xg hρ,trivial⟩) rfl (YV (fTr _) (by decide) (by rw[Xj];exact rfl) (by first|exact gr8 [] tk tn ts|exact gr8 _ tk tn ts) (by simp) trivial),⟨n+1,b2,_,⟨by omega,rfl,hb2,hD,by simp at hln ⊢;omega⟩,rfl⟩,by omega⟩
     ·obtain rfl:n=k:=by omega
      rw[Nat.sub_self,Xa]at hD
      subst hD
      dsimp only at hC
      have hjl:(k0::kt).length≤j:=hkl
      cases l with
      |nil=>
       repeat' first|refine And.intro ?_ ?_|(intro h;try first|exact dz|replace h:=cv)
       all_goals try exact cz
       all_goals(try first|(show(_+1)*24≤_;omega)|(show _+1≤_;omega))
       refine⟨v8L fs ps ns i b1 j ((k0::kt)++[[]]),Q1 [0,1,2,6,4] (by exact rfl) ⟨.refl _,.refl _,.refl _,.refl _,.refl _,trivial⟩ ⟨⟨by decide,_,rfl,.refl _⟩,⟨by decide,_,rfl,.refl _⟩,⟨by decide,_,rfl,Zg (row:=[.int .i64 0,.str [],Z8 3 1 ((k0::kt)++[[]])]) ⟨.refl _,.refl _,Y8 (Y9 _) (by simp) (by simp),trivial⟩⟩,Eq (fun bb hbb=>⟨by decide,.cells ((k0::kt).map encKd++[[.nils]]) false,by rw[Y9];first|exact rfl|exact congrArg (fun z=>some (Blk.cells z false)) (XE _ _),by rw[ZD encKd (by simp)]at hbb;cases hbb;exact JB _ _⟩) trivial⟩,?_⟩
       repeat' first|refine And.intro ?_ ?_|(intro h;try first|exact dz|replace h:=cv)
       all_goals try exact cz
       exact⟨_,v8L fs ps ns i b1 (j+1) ((k0::kt)++[[]]),QM [0,1,2,3,4] rfl rfl rfl rfl rfl (by exact rfl) ⟨.refl _,.refl _,.refl _,.refl _,Q3 (by first|rfl|omega),trivial⟩ rfl rfl rfl (fun ρ hρ=>⟨.refl _,.refl _,Xg hρ,trivial⟩) rfl trivial,⟨j+1,b1,_,⟨by omega,by omega,rfl,hb1,hC,by simp only[List.length_append,List.length_cons,List.length_nil]at hjl ⊢;omega⟩,rfl⟩,by omega⟩
      |cons l0 lt=>
       repeat' first|refine And.intro ?_ ?_|(intro h;try first|exact dz|replace h:=cv)
       all_goals try exact cz
       all_goals(try first|(show(_+1)*24≤_;omega)|(show _+1≤_;omega))
       refine⟨v8L fs ps ns i b1 j ((k0::kt)++[(l0::lt)]),Reb.trans (by exact Q1 [0,1,2,6,4] (by exact rfl) ⟨.refl _,.refl _,.refl _,.refl _,.refl _,trivial⟩ ⟨⟨by decide,_,rfl,.refl _⟩,⟨by decide,_,rfl,.refl _⟩,⟨by decide,_,rfl,Zg (row:=[.int .i64 0,.str [],.slice 3 0 ((k0::kt).length+1) 1 none]) ⟨.refl _,.refl _,.refl _,trivial⟩⟩,⟨by decide,.cells ((k0::kt).map encKd++[[.slice 4 0 (l0::lt).length 3 none]]) false,(by rw[Y9];first|exact rfl|exact congrArg (fun z=>some (Blk.cells z false)) (XE _ _)),by rw[JA _ (FC _)];exact .refl _⟩,⟨by decide,_,rfl,Qc (fTr _)⟩,trivial⟩) (JC fs ps ns i b1 j (k0::kt) l0 lt),?_⟩
       repeat' first|refine And.intro ?_ ?_|(intro h;try first|exact dz|replace h:=cv)
       all_goals try exact cz
       exact⟨_,v8L fs ps ns i b1 (j+1) ((k0::kt)++[(l0::lt)]),QM [0,1,2,3,4] rfl rfl rfl rfl rfl (by exact rfl) ⟨.refl _,.refl _,.refl _,.refl _,Q3 (by first|rfl|omega),trivial⟩ rfl rfl rfl (fun ρ hρ=>⟨.refl _,.refl _,Xg hρ,trivial⟩) rfl trivial,⟨j+1,b1,_,⟨by omega,by omega,rfl,hb1,hC,by simp only[List.length_append,List.length_cons,List.length_nil]at hjl ⊢;omega⟩,rfl⟩,by omega⟩
    ·refine⟨[0],[.ptr 0 0 0],[(0,Zu fs ps ns b)],rfl,⟨.refl _,trivial⟩,⟨⟨by decide,_,rfl,.refl _⟩,trivial⟩,fs,ps,ns,b,rfl,rfl,rfl,hraw,hb,?_⟩
     have hb':=U9 ns hb
     rw[show WJ ns (fs.getD j default) b=((wi (Z9 ns b).1 4).toNat,(Z9 ns b).2) from(if_neg ‹_›).trans (if_pos ‹_›)]at hC
     generalize Z9 ns b=q at *
     obtain⟨x,b'⟩:=q
     dsimp only at hC hb'
     obtain⟨w1,w2⟩:=ZA (a:=x) (n:=4) (by decide)
     obtain⟨k,hk2⟩:∃k:Nat,wi x 4=k:=⟨(wi x 4).toNat,by omega⟩
     rw[hk2,Int.toNat_natCast]at hC
     have hk3:k≤3:=by omega
     refine⟨x,4,rfl,⟨by decide,by decide⟩,?_⟩
     rw[hk2]
     repeat' first|refine And.intro ?_ ?_|(intro h;try first|exact dz|replace h:=cv)
     all_goals try exact cz
     refine⟨v8K fs ps ns i b' j (k0::kt) k,QM [0,1,2,3,4] rfl rfl rfl rfl rfl (by exact rfl) ⟨.refl _,.refl _,.refl _,.refl _,.refl _,Q3 (by first|rfl|omega),.refl _,trivial⟩ rfl rfl rfl (fun ρ hρ=>⟨.refl _,.refl _,Xg hρ,trivial⟩) rfl trivial,?_⟩
     generalize hD:Xa (ZV fs ps ns F j) k b' []=D at *
     repeat' first|refine And.intro ?_ ?_|(intro h;try first|exact dz|replace h:=cv)
     all_goals try exact cz
     refine⟨fun m s=>∃(n b1:Nat) (l:List Tr),(n≤k∧m=k-n∧b1≤ns.length∧Xa (ZV fs ps ns F j) (k-n) b1 l=D∧l.length=n)∧s=v8I fs ps ns i b1 j (k0::kt) k n l,⟨_,v8I fs ps ns i b' j (k0::kt) k 0 [],QM [0,1,2,3,4] rfl rfl rfl rfl rfl (by exact rfl) ⟨.refl _,.refl _,.refl _,.refl _,.refl _,.refl _,.refl _,.refl _,trivial⟩ rfl rfl rfl (fun ρ hρ=>⟨.refl _,.refl _,Xg hρ,trivial⟩) rfl trivial,0,b',[],⟨by omega,rfl,hb',hD,rfl⟩,rfl⟩,?_⟩
     clear hb' hD
     rintro m s ⟨n,b1,l,⟨hn,rfl,hb1,hD,hln⟩,rfl⟩
     by_cases hnk:n<k
     ·have hkn:k-n=(k-(n+1))+1:=by omega
      rw[hkn,Xa]at hD
      have hb2:=Vs fs ps ns F j b1 hb1
      cases l with
      |nil=>
       repeat' first|refine And.intro ?_ ?_|(intro h;try first|exact dz|replace h:=cv)
       all_goals try exact cz
       refine⟨[0],[.ptr 0 0 0,.int .i64 (j:Nat)],[(0,Zu fs ps ns b1)],rfl,⟨.refl _,.refl _,trivial⟩,⟨⟨by decide,_,rfl,.refl _⟩,trivial⟩,fs,ps,ns,j,b1,rfl,rfl,rfl,hm,h1,by omega,hb1,?_⟩
       rcases hq:ZV fs ps ns F j b1 with⟨⟨tk,tn,ts⟩,b2⟩
       rw[hq]at hD hb2
       dsimp only at hD hb2 ⊢
       rw[QL]
       repeat' first|refine And.intro ?_ ?_|(intro h;try first|exact dz|replace h:=cv)
       all_goals try exact cz
       all_goals(try first|(show(_+1)*48≤_;omega)|(show _+1≤_;omega))
       exact⟨_,v8I fs ps ns i b2 j (k0::kt) k (n+1) ([]++[Tr.mk tk tn ts]),QM [0,1,2,3,8] rfl rfl rfl rfl rfl (by exact rfl) ⟨.refl _,.refl _,.refl _,.refl _,.refl _,.refl _,Y8 (Xj _) (by simp) (by simp),Q3 (by first|rfl|omega),trivial⟩ rfl rfl rfl (fun ρ hρ=>⟨.refl _,.refl _,Xg hρ,trivial⟩) rfl (YV (fTr _) (by decide) (by rw[Xj];exact rfl) (by first|exact gr8 [] tk tn ts|exact gr8 _ tk tn ts) (by simp) trivial),⟨n+1,b2,_,⟨by omega,rfl,hb2,hD,by simp at hln ⊢;omega⟩,rfl⟩,by omega⟩
      |cons l0 lt=>
       repeat' first|refine And.intro ?_ ?_|(intro h;try first|exact dz|replace h:=cv)
       all_goals try exact cz
       refine⟨[0],[.ptr 0 0 0,.int .i64 (j:Nat)],[(0,Zu fs ps ns b1)],rfl,⟨.refl _,.refl _,trivial⟩,⟨⟨by decide,_,rfl,.refl _⟩,trivial⟩,fs,ps,ns,j,b1,rfl,rfl,rfl,hm,h1,by omega,hb1,?_⟩
       rcases hq:ZV fs ps ns F j b1 with⟨⟨tk,tn,ts⟩,b2⟩
       rw[hq]at hD hb2
       dsimp only at hD hb2 ⊢
       rw[QL]
       repeat' first|refine And.intro ?_ ?_|(intro h;try first|exact dz|replace h:=cv)
       all_goals try exact cz
       all_goals(try first|(show(_+1)*48≤_;omega)|(show _+1≤_;omega))
       exact⟨_,v8I fs ps ns i b2 j (k0::kt) k (n+1) ((l0::lt)++[Tr.mk tk tn ts]),QM [0,1,2,3,8] rfl rfl rfl rfl rfl (by exact rfl) ⟨.refl _,.refl _,.refl _,.refl _,.refl _,.refl _,Y8 (Xj _) (by simp) (by simp),Q3 (by first|rfl|omega),trivial⟩ rfl rfl rfl (fun ρ hρ=>⟨.refl _,.refl _,Xg hρ,trivial⟩) rfl (YV (fTr _) (by decide) (by rw[Xj];exact rfl) (by first|exact gr8 [] tk tn ts|exact gr8 _ tk tn ts) (by simp) trivial),⟨n+1,b2,_,⟨by omega,rfl,hb2,hD,by simp at hln ⊢;omega⟩,rfl⟩,by omega⟩
     ·obtain rfl:n=k:=by omega
      rw[Nat.sub_self,Xa]at hD
      subst hD
      dsimp only at hC
      have hjl:(k0::kt).length≤j:=hkl
      cases l with
      |nil=>
       repeat' first|refine And.intro ?_ ?_|(intro h;try first|exact dz|replace h:=cv)
       all_goals try exact cz
       all_goals(try first|(show(_+1)*24≤_;omega)|(show _+1≤_;omega))
       refine⟨v8L fs ps ns i b1 j ((k0::kt)++[[]]),Q1 [0,1,2,6,4] (by exact rfl) ⟨.refl _,.refl _,.refl _,.refl _,.refl _,trivial⟩ ⟨⟨by decide,_,rfl,.refl _⟩,⟨by decide,_,rfl,.refl _⟩,⟨by decide,_,rfl,Zg (row:=[.int .i64 0,.str [],Z8 3 1 ((k0::kt)++[[]])]) ⟨.refl _,.refl _,Y8 (Y9 _) (by simp) (by simp),trivial⟩⟩,Eq (fun bb hbb=>⟨by decide,.cells ((k0::kt).map encKd++[[.nils]]) false,by rw[Y9];first|exact rfl|exact congrArg (fun z=>some (Blk.cells z false)) (XE _ _),by rw[ZD encKd (by simp)]at hbb;cases hbb;exact JB _ _⟩) trivial⟩,?_⟩
       repeat' first|refine And.intro ?_ ?_|(intro h;try first|exact dz|replace h:=cv)
       all_goals try exact cz
       exact⟨_,v8L fs ps ns i b1 (j+1) ((k0::kt)++[[]]),QM [0,1,2,3,4] rfl rfl rfl rfl rfl (by exact rfl) ⟨.refl _,.refl _,.refl _,.refl _,Q3 (by first|rfl|omega),trivial⟩ rfl rfl rfl (fun ρ hρ=>⟨.refl _,.refl _,Xg hρ,trivial⟩) rfl trivial,⟨j+1,b1,_,⟨by omega,by omega,rfl,hb1,hC,by simp only[List.length_append,List.length_cons,List.length_nil]at hjl ⊢;omega⟩,rfl⟩,by omega⟩
      |cons l0 lt=>
       repeat' first|refine And.intro ?_ ?_|(intro h;try first|exact dz|replace h:=cv)
       all_goals try exact cz
       all_goals(try first|(show(_+1)*24≤_;omega)|(show _+1≤_;omega))
       refine⟨v8L fs ps ns i b1 j ((k0::kt)++[(l0::lt)]),Reb.trans (by exact Q1 [0,1,2,6,4] (by exact rfl) ⟨.refl _,.refl _,.refl _,.refl _,.refl _,trivial⟩ ⟨⟨by decide,_,rfl,.refl _⟩,⟨by decide,_,rfl,.refl _⟩,⟨by decide,_,rfl,Zg (row:=[.int .i64 0,.str [],.slice 3 0 ((k0::kt).length+1) 1 none]) ⟨.refl _,.refl _,.refl _,trivial⟩⟩,⟨by decide,.cells ((k0::kt).map encKd++[[.slice 4 0 (l0::lt).length 3 none]]) false,(by rw[Y9];first|exact rfl|exact congrArg (fun z=>some (Blk.cells z false)) (XE _ _)),by rw[JA _ (FC _)];exact .refl _⟩,⟨by decide,_,rfl,Qc (fTr _)⟩,trivial⟩) (JC fs ps ns i b1 j (k0::kt) l0 lt),?_⟩
       repeat' first|refine And.intro ?_ ?_|(intro h;try first|exact dz|replace h:=cv)
       all_goals try exact cz
       exact⟨_,v8L fs ps ns i b1 (j+1) ((k0::kt)++[(l0::lt)]),QM [0,1,2,3,4] rfl rfl rfl rfl rfl (by exact rfl) ⟨.refl _,.refl _,.refl _,.refl _,Q3 (by first|rfl|omega),trivial⟩ rfl rfl rfl (fun ρ hρ=>⟨.refl _,.refl _,Xg hρ,trivial⟩) rfl trivial,⟨j+1,b1,_,⟨by omega,by omega,rfl,hb1,hC,by simp only[List.length_append,List.length_cons,List.length_nil]at hjl ⊢;omega⟩,rfl⟩,by omega⟩
    ·obtain⟨k,hk2⟩:∃k:Nat,k=1:=⟨1,rfl⟩
     rw[show WJ ns (fs.getD j default) b=(k,b) from(if_neg ‹_›).trans ((if_neg ‹_›).trans (by rw[hk2]))]at hC
     have hb':=hb
     obtain⟨b',hbb⟩:∃b',b'=b:=⟨b,rfl⟩
     subst hbb
     have hk3:k≤3:=by omega
     dsimp only at hC
     refine⟨v8K fs ps ns i b' j (k0::kt) k,QM [0,1,2,3,4] rfl rfl rfl rfl rfl (by exact rfl) ⟨.refl _,.refl _,.refl _,.refl _,.refl _,Q3 (by first|rfl|omega),.refl _,trivial⟩ rfl rfl rfl (fun ρ hρ=>⟨.refl _,.refl _,Xg hρ,trivial⟩) rfl trivial,?_⟩
     generalize hD:Xa (ZV fs ps ns F j) k b' []=D at *
     repeat' first|refine And.intro ?_ ?_|(intro h;try first|exact dz|replace h:=cv)
     all_goals try exact cz
     refine⟨fun m s=>∃(n b1:Nat) (l:List Tr),(n≤k∧m=k-n∧b1≤ns.length∧Xa (ZV fs ps ns F j) (k-n) b1 l=D∧l.length=n)∧s=v8I fs ps ns i b1 j (k0::kt) k n l,⟨_,v8I fs ps ns i b' j (k0::kt) k 0 [],QM [0,1,2,3,4] rfl rfl rfl rfl rfl (by exact rfl) ⟨.refl _,.refl _,.refl _,.refl _,.refl _,.refl _,.refl _,.refl _,trivial⟩ rfl rfl rfl (fun ρ hρ=>⟨.refl _,.refl _,Xg hρ,trivial⟩) rfl trivial,0,b',[],⟨by omega,rfl,hb',hD,rfl⟩,rfl⟩,?_⟩
     clear hb' hD
     rintro m s ⟨n,b1,l,⟨hn,rfl,hb1,hD,hln⟩,rfl⟩
     by_cases hnk:n<k
     ·have hkn:k-n=(k-(n+1))+1:=by omega
      rw[hkn,Xa]at hD
      have hb2:=Vs fs ps ns F j b1 hb1
      cases l with
      |nil=>
       repeat' first|refine And.intro ?_ ?_|(intro h;try first|exact dz|replace h:=cv)
       all_goals try exact cz
       refine⟨[0],[.ptr 0 0 0,.int .i64 (j:Nat)],[(0,Zu fs ps ns b1)],rfl,⟨.refl _,.refl _,trivial⟩,⟨⟨by decide,_,rfl,.refl _⟩,trivial⟩,fs,ps,ns,j,b1,rfl,rfl,rfl,hm,h1,by omega,hb1,?_⟩
       rcases hq:ZV fs ps ns F j b1 with⟨⟨tk,tn,ts⟩,b2⟩
       rw[hq]at hD hb2
       dsimp only at hD hb2 ⊢
       rw[QL]
       repeat' first|refine And.intro ?_ ?_|(intro h;try first|exact dz|replace h:=cv)
       all_goals try exact cz
       all_goals(try first|(show(_+1)*48≤_;omega)|(show _+1≤_;omega))
       exact⟨_,v8I fs ps ns i b2 j (k0::kt) k (n+1) ([]++[Tr.mk tk tn ts]),QM [0,1,2,3,8] rfl rfl rfl rfl rfl (by exact rfl) ⟨.refl _,.refl _,.refl _,.refl _,.refl _,.refl _,Y8 (Xj _) (by simp) (by simp),Q3 (by first|rfl|omega),trivial⟩ rfl rfl rfl (fun ρ hρ=>⟨.refl _,.refl _,Xg hρ,trivial⟩) rfl (YV (fTr _) (by decide) (by rw[Xj];exact rfl) (by first|exact gr8 [] tk tn ts|exact gr8 _ tk tn ts) (by simp) trivial),⟨n+1,b2,_,⟨by omega,rfl,hb2,hD,by simp at hln ⊢;omega⟩,rfl⟩,by omega⟩
      |cons l0 lt=>
       repeat' first|refine And.intro ?_ ?_|(intro h;try first|exact dz|replace h:=cv)
       all_goals try exact cz
       refine⟨[0],[.ptr 0 0 0,.int .i64 (j:Nat)],[(0,Zu fs ps ns b1)],rfl,⟨.refl _,.refl _,trivial⟩,⟨⟨by decide,_,rfl,.refl _⟩,trivial⟩,fs,ps,ns,j,b1,rfl,rfl,rfl,hm,h1,by omega,hb1,?_⟩
       rcases hq:ZV fs ps ns F j b1 with⟨⟨tk,tn,ts⟩,b2⟩
       rw[hq]at hD hb2
       dsimp only at hD hb2 ⊢
       rw[QL]
       repeat' first|refine And.intro ?_ ?_|(intro h;try first|exact dz|replace h:=cv)
       all_goals try exact cz
       all_goals(try first|(show(_+1)*48≤_;omega)|(show _+1≤_;omega))
       exact⟨_,v8I fs ps ns i b2 j (k0::kt) k (n+1) ((l0::lt)++[Tr.mk tk tn ts]),QM [0,1,2,3,8] rfl rfl rfl rfl rfl (by exact rfl) ⟨.refl _,.refl _,.refl _,.refl _,.refl _,.refl _,Y8 (Xj _) (by simp) (by simp),Q3 (by first|rfl|omega),trivial⟩ rfl rfl rfl (fun ρ hρ=>⟨.refl _,.refl _,Xg hρ,trivial⟩) rfl (YV (fTr _) (by decide) (by rw[Xj];exact rfl) (by first|exact gr8 [] tk tn ts|exact gr8 _ tk tn ts) (by simp) trivial),⟨n+1,b2,_,⟨by omega,rfl,hb2,hD,by simp at hln ⊢;omega⟩,rfl⟩,by omega⟩
     ·obtain rfl:n=k:=by omega
      rw[Nat.sub_self,Xa]at hD
      subst hD
      dsimp only at hC
      have hjl:(k0::kt).length≤j:=hkl
      cases l with
      |nil=>
       repeat' first|refine And.intro ?_ ?_|(intro h;try first|exact dz|replace h:=cv)
       all_goals try exact cz
       all_goals(try first|(show(_+1)*24≤_;omega)|(show _+1≤_;omega))
       refine⟨v8L fs ps ns i b1 j ((k0::kt)++[[]]),Q1 [0,1,2,6,4] (by exact rfl) ⟨.refl _,.refl _,.refl _,.refl _,.refl _,trivial⟩ ⟨⟨by decide,_,rfl,.refl _⟩,⟨by decide,_,rfl,.refl _⟩,⟨by decide,_,rfl,Zg (row:=[.int .i64 0,.str [],Z8 3 1 ((k0::kt)++[[]])]) ⟨.refl _,.refl _,Y8 (Y9 _) (by simp) (by simp),trivial⟩⟩,Eq (fun bb hbb=>⟨by decide,.cells ((k0::kt).map encKd++[[.nils]]) false,by rw[Y9];first|exact rfl|exact congrArg (fun z=>some (Blk.cells z false)) (XE _ _),by rw[ZD encKd (by simp)]at hbb;cases hbb;exact JB _ _⟩) trivial⟩,?_⟩
       repeat' first|refine And.intro ?_ ?_|(intro h;try first|exact dz|replace h:=cv)
       all_goals try exact cz
       exact⟨_,v8L fs ps ns i b1 (j+1) ((k0::kt)++[[]]),QM [0,1,2,3,4] rfl rfl rfl rfl rfl (by exact rfl) ⟨.refl _,.refl _,.refl _,.refl _,Q3 (by first|rfl|omega),trivial⟩ rfl rfl rfl (fun ρ hρ=>⟨.refl _,.refl _,Xg hρ,trivial⟩) rfl trivial,⟨j+1,b1,_,⟨by omega,by omega,rfl,hb1,hC,by simp only[List.length_append,List.length_cons,List.length_nil]at hjl ⊢;omega⟩,rfl⟩,by omega⟩
      |cons l0 lt=>
       repeat' first|refine And.intro ?_ ?_|(intro h;try first|exact dz|replace h:=cv)
       all_goals try exact cz
       all_goals(try first|(show(_+1)*24≤_;omega)|(show _+1≤_;omega))
       refine⟨v8L fs ps ns i b1 j ((k0::kt)++[(l0::lt)]),Reb.trans (by exact Q1 [0,1,2,6,4] (by exact rfl) ⟨.refl _,.refl _,.refl _,.refl _,.refl _,trivial⟩ ⟨⟨by decide,_,rfl,.refl _⟩,⟨by decide,_,rfl,.refl _⟩,⟨by decide,_,rfl,Zg (row:=[.int .i64 0,.str [],.slice 3 0 ((k0::kt).length+1) 1 none]) ⟨.refl _,.refl _,.refl _,trivial⟩⟩,⟨by decide,.cells ((k0::kt).map encKd++[[.slice 4 0 (l0::lt).length 3 none]]) false,(by rw[Y9];first|exact rfl|exact congrArg (fun z=>some (Blk.cells z false)) (XE _ _)),by rw[JA _ (FC _)];exact .refl _⟩,⟨by decide,_,rfl,Qc (fTr _)⟩,trivial⟩) (JC fs ps ns i b1 j (k0::kt) l0 lt),?_⟩
       repeat' first|refine And.intro ?_ ?_|(intro h;try first|exact dz|replace h:=cv)
       all_goals try exact cz
       exact⟨_,v8L fs ps ns i b1 (j+1) ((k0::kt)++[(l0::lt)]),QM [0,1,2,3,4] rfl rfl rfl rfl rfl (by exact rfl) ⟨.refl _,.refl _,.refl _,.refl _,Q3 (by first|rfl|omega),trivial⟩ rfl rfl rfl (fun ρ hρ=>⟨.refl _,.refl _,Xg hρ,trivial⟩) rfl trivial,⟨j+1,b1,_,⟨by omega,by omega,rfl,hb1,hC,by simp only[List.length_append,List.length_cons,List.length_nil]at hjl ⊢;omega⟩,rfl⟩,by omega⟩
  ·rw[if_neg h2]at hC
   repeat' first|refine And.intro ?_ ?_|(intro h;try first|exact dz|replace h:=cv)
   all_goals try exact cz
   exact⟨_,v8L fs ps ns i b (j+1) ks,QM [0,1,2,3,4] rfl rfl rfl rfl rfl (by exact rfl) ⟨.refl _,.refl _,.refl _,.refl _,Q3 (by first|rfl|omega),trivial⟩ rfl rfl rfl (fun ρ hρ=>⟨.refl _,.refl _,Xg hρ,trivial⟩) rfl trivial,⟨j+1,b,ks,⟨by omega,by omega,rfl,hb,hC,by omega⟩,rfl⟩,by omega⟩
 ·obtain rfl:j=fs.length:=by omega
  rw[Nat.sub_self,XR]at hC
  subst hC
  dsimp only at hP
  rw[QL]at hP
  cases ks with
  |nil=>
   repeat' first|refine And.intro ?_ ?_|(intro h;try first|exact dz|replace h:=cv)
   all_goals try exact cz
   exact LY (k:=4) (n:=1) (row:=[.int .i64 0,.str [],.vs 1 []]) rfl rfl rfl ⟨.refl _,.refl _,.zero _ _ rfl,trivial⟩ (I6 _ _ _) (by exact rfl) rfl hP
  |cons k0 kt=>
   repeat' first|refine And.intro ?_ ?_|(intro h;try first|exact dz|replace h:=cv)
   all_goals try exact cz
   exact⟨⟨[(4,.ptr 1 0 0)],[(0,Zu fs ps ns b),(1,some (.cells [[.int .i64 0,.str [],.vs 1 ((k0::kt).map encKd)]] false))],2⟩,Reb.trans (s':=⟨[(4,.ptr 1 0 0)],[(0,Zu fs ps ns b),(1,some (.cells [[.int .i64 0,.str [],.slice 2 0 (k0::kt).length 1 none]] false)),(2,some (.cells ((k0::kt).map encKd) false))],3⟩) (Q1 [0,1,3] (by exact rfl) ⟨.refl _,trivial⟩ ⟨⟨by decide,_,rfl,.refl _⟩,⟨by decide,_,rfl,.refl _⟩,⟨by decide,_,rfl,Qc (fKd _)⟩,trivial⟩) (R1 fs ps ns b k0 kt),_,rfl,_,Hd,hP⟩
theorem IZ[Syms]:∀F:Nat,(Ns F).ok Try.prog 52
 |0=>by
  rintro args H nx Post ⟨fs,ps,ns,i,a,rfl,rfl,rfl,hm,hi,hF,ha,h⟩
  omega
 |F+1=>by
  rintro args H nx Post ⟨fs,ps,ns,i,a,rfl,rfl,rfl,hm,hi,hF,ha,h⟩
  have hc:(cV F).ok Try.prog:=K2 LC (KA CR (K2 (IZ F) Qy))
  by_cases hk:(fs.getD i default).kind=0
  ·exact YZ.forget (QS QN QO Qn hc Za (Bx F fs ps ns i a hm hi hF ha hk h))
  ·rw[ZV,if_pos hk]at h
   exact YZ.forget (QS QN QO Qn hc Za (CS F fs ps ns i a hm hi ha hk h))
end
end Go.Proofs.Ytcpikannlnmafaa
