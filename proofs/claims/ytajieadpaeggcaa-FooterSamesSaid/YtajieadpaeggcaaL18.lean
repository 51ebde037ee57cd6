/-
  What differs in one thing is not the same. The statement's function. The statements' arguments:numbers,bytes,values.
-/
import Derived.Test.YtajieadpaeggcaaL13
import Derived.Test.YtajieadpaeggcaaL15
import Derived.Test.YtajieadpaeggcaaL17
import Derived.Test.YtajieadpaeggcaaSxOne
import Derived.Test.YtajieadpaeggcaaL10
set_option linter.unusedVariables false
set_option linter.unusedSimpArgs false
namespace Go.Proofs.Ytajieadpaeggcaa
open Go Go.Av
section
set_option maxRecDepth 100000
set_option maxHeartbeats 4000000
def Fk(a b:CallT):CallT:=fun f args H nx K=>a f args H nx K∨b f args H nx K
theorem Gz[Syms]{P:Program}{a b:CallT}(ha:a.ok P)(hb:b.ok P):(Fk a b).ok P:=fun f args H nx K h=>h.elim (ha f args H nx K) (hb f args H nx K)
abbrev Q06[Syms]:CallT:=Qe 10 (Xw S_known19) (Qe 13 (DO G_wi) (Qe 18 (OP S_mtSame) Q9))
theorem Dy[Syms]:Q06.det Try.prog:=Y2 Bd (VL BG (CV CZ Q5))
abbrev cFs[Syms]:CallT:=Fk Q06 (Fk (Qe 11 (Xw S_makeM) Q9) (Qe 11 (Z6 Cv) Q9))
theorem Oq[Syms]:cFs.ok Try.prog:=Gz Dy.ok (Gz (Qm HL Qb) (Qc HJ Qb))
noncomputable def Pf:Nat→Nat→Pl:=VZ ([3,7,15,17,19,21,23,25,27,29,31].map fun r=>(5,r)) (QV plt)
def XO(m:Mt):List AVal:=[.vs 4 (m.s.map encF),.int .i64 m.n,.slice 2 0 m.groups.length 2 none]
def Qw(m:Mt)(i:Nat):List Ck:=(m.groups.getD i default).chunks
def QW(m:Mt)(i k:Nat):List Pg:=((Qw m i).getD k default).pages
abbrev hpL(m m2:Mt)(i k:Nat):Heap:=[(0,some (.cells [Qv m] false)),(6,some (.cells [XO m2] false)),(2,some (.cells ((mkr i 0 m2.groups).map (ZO 4)) false)),(4,some (.cells ((mkd true k 0 (Qw m2 i)).map (X8 9)) false)),(9,some (.cells ((QW m2 i k).map encP) false))]
theorem ZN{ρ:Nat→Nat}{rows rows':List (List AVal)}{ro:Bool}(h:rows'=rows.map (AVal.renL ρ)):WkB (.cells rows' ro) ((Blk.cells rows ro).ren ρ):=by
 rw[Blk.ren,h];exact .refl _
theorem Ye[Syms](m m2:Mt)(i k:Nat):ZA (hpL m m2 i k) (.agg (XO m2)) (.agg (Qv m2)):=Lv (n3:=2) (n7:=4) (n9:=9) (ig:=i) (kg:=k) rfl rfl rfl rfl rfl
theorem BT{z i:Nat}{l:List Rw}(h:i<l.length):((mkr i 0 l).map (ZO z)).getD (0+((i:Nat):Int).toNat) []=[.int .i64 (l.getD i default).n,.slice z 0 (l.getD i default).chunks.length 11 none]:=by
 rw[Nat.zero_add,Int.toNat_natCast,List.getD_eq_getElem?_getD,List.getElem?_map,F4,List.getElem?_eq_getElem h,Nat.zero_add,Nat.beq_refl,List.getD_eq_getElem?_getD,List.getElem?_eq_getElem h]
 rfl
theorem BU{z i:Nat}{l:List Ck}(h:i<l.length):((mkd true i 0 l).map (X8 z)).getD (0+((i:Nat):Int).toNat) []=X8 z (l.getD i default,true):=by
 rw[Nat.zero_add,Int.toNat_natCast,List.getD_eq_getElem?_getD,List.getElem?_map,F5,List.getElem?_eq_getElem h,Nat.zero_add,Nat.beq_refl,List.getD_eq_getElem?_getD,List.getElem?_eq_getElem h]
 rfl
theorem Na{m:Mt}{i:Nat}(hi:i<m.groups.length)(r:Rw):Qw (tuR m i r) i=r.chunks:=congrArg Rw.chunks (Vt _ hi r default)
theorem Nb{m:Mt}{i:Nat}(r:Rw):(mkr i 0 (tuR m i r).groups).map (ZO 4)=((mkr i 0 m.groups).map (ZO 4)).set i (ZO 4 (r,true)):=by
 show(mkr i 0 (m.groups.set i r)).map (ZO 4)=_
 rw[C6 _ _ _ _ _ (Nat.zero_add i),List.map_set]
theorem Uy(m:Mt)(i:Nat)(r:Rw):XO (tuR m i r)=XO m:=by
 show[AVal.vs 4 (m.s.map encF),.int .i64 m.n,.slice 2 0 (m.groups.set i r).length 2 none]=_
 rw[List.length_set];rfl
theorem EV{l:List (List AVal)}{i:Nat}{x:List AVal}(h:i<l.length)(e:l.getD i []=x):l.set i x=l:=by rw[←e];exact EU l h []
theorem J0{m:Mt}{i k:Nat}(hi:i<m.groups.length)(c:Ck):(mkr i 0 (tuC m i k c).groups).map (ZO 4)=(mkr i 0 m.groups).map (ZO 4):=by
 rw[tuC,Nb]
 refine EV (by rw[List.length_map,VM];exact hi) ?_
 have:=BT (z:=4) hi
 rw[Nat.zero_add,Int.toNat_natCast]at this
 rw[this]
 show _=[AVal.int .i64 (m.groups.getD i default).n,.slice 4 0 ((m.groups.getD i default).chunks.set k c).length 11 none]
 rw[List.length_set]
theorem Nc{m:Mt}{i:Nat}(hi:i<m.groups.length)(k:Nat)(c:Ck):Qw (tuC m i k c) i=(Qw m i).set k c:=Na hi _
theorem M6{m:Mt}{i k:Nat}(hi:i<m.groups.length)(c:Ck):(mkd true k 0 (Qw (tuC m i k c) i)).map (X8 9)=((mkd true k 0 (Qw m i)).map (X8 9)).set k (X8 9 (c,true)):=by
 rw[Nc hi,C8 _ _ _ _ _ (Nat.zero_add k),List.map_set]
theorem KZ{m:Mt}{i k:Nat}(hi:i<m.groups.length)(hk:k<(Qw m i).length)(c:Ck):QW (tuC m i k c) i k=c.pages:=by
 rw[QW,Nc hi,Vt _ hk]
theorem EM{m:Mt}{i k j:Nat}(hi:i<m.groups.length)(hk:k<(Qw m i).length)(p:Pg):(mkd true k 0 (Qw (tuP m i k j p) i)).map (X8 9)=(mkd true k 0 (Qw m i)).map (X8 9):=by
 rw[tuP,M6 hi]
 refine EV (by rw[List.length_map,YR];exact hk) ?_
 have:=BU (z:=9) hk
 rw[Nat.zero_add,Int.toNat_natCast]at this
 rw[this]
 show X8 9 ((Qw m i).getD k default,true)=X8 9 ({((Qw m i).getD k default)with pages:=((Qw m i).getD k default).pages.set j p},true)
 simp only[X8,List.length_set]
theorem HN[Syms](ns gs:List Int)(l:List Vl)(w a:Int)(hn:ns.length≤9223372036854775807)(hgl:gs.length≤9223372036854775807)(hll:l.length≤9223372036854775807)(hg:∀g∈gs,I64 g)(hl:∀v∈l,I64 v.n)(hw:I64 w)(ha:I64 a):
 fnT Q06 cFs (QN fns) (Qz tys) Pf 100 5 [vI ns,vI gs,vV l,.int .i64 w,.int .i64 a] [] 0 (UA (fun v H _=>v= .bool true∧H=[])):=by
 have hs:=E1 ns gs hl
 by_cases hA:(gs.take 4).length=0∨wi w 10=0
 · repeat' first|refine And.intro ?_ ?_|(intro h;try first|exact dz|replace h:=cv)
   all_goals try exact cz
   refine .inl ⟨rfl,?_⟩
   repeat' first|refine And.intro ?_ ?_|(intro h;try first|exact dz|replace h:=cv)
   all_goals try exact cz
   refine .inr (.inl ⟨ns,gs,l,rfl,⟨hn,hgl,hll,hg⟩,?_⟩)
   repeat' first|refine And.intro ?_ ?_|(intro h;try first|exact dz|replace h:=cv)
   all_goals try exact cz
   refine .inr (.inl ⟨ns,gs,l,rfl,⟨hn,hgl,hll,hg⟩,?_⟩)
   generalize W6 ns gs l=m at *
   repeat' first|refine And.intro ?_ ?_|(intro h;try first|exact dz|replace h:=cv)
   all_goals try exact cz
   refine⟨⟨[(3,.int .i64 w),(4,.int .i64 a),(11,.ptr 0 0 0),(12,.ptr 2 0 0)],[(0,some (.cells [Qv m] false)),(2,some (.cells [Qv m] false))],3⟩,Q0 [0,2,1] (by exact rfl) ⟨.refl _,.refl _,.refl _,.refl _,trivial⟩ ⟨⟨by decide,_,rfl,Zd (row:=Qv m) ⟨.refl _,.refl _,.refl _,trivial⟩ (eM _)⟩,⟨by decide,_,rfl,Zd (row:=Qv m) ⟨.refl _,.refl _,.refl _,trivial⟩ (eM _)⟩,trivial⟩,?_⟩
   repeat' first|refine And.intro ?_ ?_|(intro h;try first|exact dz|replace h:=cv)
   all_goals try exact cz
   refine .inl ⟨[.agg (Qv m),.agg (Qv m)],⟨ZA.imm rfl,ZA.imm rfl,trivial⟩,m,m,rfl,hs.s,⟨_,rfl⟩,?_⟩
   rw[Mn]
   have hm2:m≠{m with n:=wr .i64 (m.n+1)}:=fun e=>WS m.n (congrArg Mt.n e).symm
   have hs2:MtS {m with n:=wr .i64 (m.n+1)}:=⟨hs.s.s,hs.s.len,hs.s.groups⟩
   obtain⟨hq1,hq2⟩:=Yp hm2
   have hx1:=hs.len
   by_cases hz:(gs.take 4).length=0
   · repeat' first|refine And.intro ?_ ?_|(intro h;try first|exact dz|replace h:=cv)
     all_goals try exact cz
     refine⟨⟨[(11,.ptr 0 0 0),(12,.ptr 2 0 0)],[(0,some (.cells [Qv m] false)),(2,some (.cells [Qv {m with n:=wr .i64 (m.n+1)}] false))],3⟩,Q0 [0,1,2] (by exact rfl) ⟨.refl _,.refl _,trivial⟩ ⟨⟨by decide,_,rfl,Zd (row:=Qv m) ⟨.refl _,.refl _,.refl _,trivial⟩ (eM _)⟩,⟨by decide,.cells [Qv {m with n:=wr .i64 (m.n+1)}] false,rfl,Zd (row':=Qv {m with n:=wr .i64 (m.n+1)}) (row:=Qv {m with n:=wr .i64 (m.n+1)}) ⟨.refl _,.refl _,.refl _,trivial⟩ (eM _)⟩,trivial⟩,?_⟩
     generalize({m with n:=wr .i64 (m.n+1)}:Mt)=m2 at *
     repeat' first|refine And.intro ?_ ?_|(intro h;try first|exact dz|replace h:=cv)
     all_goals try exact cz
     refine .inl ⟨[.agg (Qv m),.agg (Qv m2)],⟨ZA.imm rfl,ZA.imm rfl,trivial⟩,m,m2,rfl,hs.s,⟨_,rfl⟩,?_⟩
     rw[hq1]
     repeat' first|refine And.intro ?_ ?_|(intro h;try first|exact dz|replace h:=cv)
     all_goals try exact cz
     refine .inl ⟨[.agg (Qv m2),.agg (Qv m)],⟨ZA.imm rfl,ZA.imm rfl,trivial⟩,m2,m,rfl,hs2,⟨_,rfl⟩,?_⟩
     rw[hq2]
     repeat' first|refine And.intro ?_ ?_|(intro h;try first|exact dz|replace h:=cv)
     all_goals try exact cz
     exact⟨_,Q4 [10] rfl,_,rfl,[],fun n b h=>(by rw[Heap.get_nil]at h;cases h),rfl,rfl⟩
   · repeat' first|refine And.intro ?_ ?_|(intro h;try first|exact dz|replace h:=cv)
     all_goals try exact cz
     refine .inl ⟨w,10,rfl,by decide,?_⟩
     rw[hA.resolve_left hz]
     repeat' first|refine And.intro ?_ ?_|(intro h;try first|exact dz|replace h:=cv)
     all_goals try exact cz
     refine⟨⟨[(11,.ptr 0 0 0),(12,.ptr 2 0 0)],[(0,some (.cells [Qv m] false)),(2,some (.cells [Qv {m with n:=wr .i64 (m.n+1)}] false))],3⟩,Q0 [0,1,2] (by exact rfl) ⟨.refl _,.refl _,trivial⟩ ⟨⟨by decide,_,rfl,Zd (row:=Qv m) ⟨.refl _,.refl _,.refl _,trivial⟩ (eM _)⟩,⟨by decide,.cells [Qv {m with n:=wr .i64 (m.n+1)}] false,rfl,Zd (row':=Qv {m with n:=wr .i64 (m.n+1)}) (row:=Qv {m with n:=wr .i64 (m.n+1)}) ⟨.refl _,.refl _,.refl _,trivial⟩ (eM _)⟩,trivial⟩,?_⟩
     generalize({m with n:=wr .i64 (m.n+1)}:Mt)=m2 at *
     repeat' first|refine And.intro ?_ ?_|(intro h;try first|exact dz|replace h:=cv)
     all_goals try exact cz
     refine .inl ⟨[.agg (Qv m),.agg (Qv m2)],⟨ZA.imm rfl,ZA.imm rfl,trivial⟩,m,m2,rfl,hs.s,⟨_,rfl⟩,?_⟩
     rw[hq1]
     repeat' first|refine And.intro ?_ ?_|(intro h;try first|exact dz|replace h:=cv)
     all_goals try exact cz
     refine .inl ⟨[.agg (Qv m2),.agg (Qv m)],⟨ZA.imm rfl,ZA.imm rfl,trivial⟩,m2,m,rfl,hs2,⟨_,rfl⟩,?_⟩
     rw[hq2]
     repeat' first|refine And.intro ?_ ?_|(intro h;try first|exact dz|replace h:=cv)
     all_goals try exact cz
     exact⟨_,Q4 [10] rfl,_,rfl,[],fun n b h=>(by rw[Heap.get_nil]at h;cases h),rfl,rfl⟩
 ·have hA1:0<(gs.take 4).length:=by omega
  have hA2:wi w 10≠0:=by omega
  obtain⟨i,hi,hwi⟩:=EI (a:=a) hA1
  obtain⟨k,hk,hwk⟩:=EI (a:=dv a 8) hs.pos
  repeat' first|refine And.intro ?_ ?_|(intro h;try first|exact dz|replace h:=cv)
  all_goals try exact cz
  refine .inl ⟨rfl,?_⟩
  repeat' first|refine And.intro ?_ ?_|(intro h;try first|exact dz|replace h:=cv)
  all_goals try exact cz
  refine .inr (.inl ⟨ns,gs,l,rfl,⟨hn,hgl,hll,hg⟩,?_⟩)
  repeat' first|refine And.intro ?_ ?_|(intro h;try first|exact dz|replace h:=cv)
  all_goals try exact cz
  refine .inr (.inr ⟨[],[vI ns,vI gs,vV l],[],rfl,⟨.refl _,.refl _,.refl _,trivial⟩,trivial,rfl,rfl,ns,gs,l,i,k,rfl,⟨hn,hgl,hll,hg⟩,⟨hi,hk⟩,?_⟩)
  generalize W6 ns gs l=m at *
  generalize(gs.take 4).length=n at *
  generalize(QP (QD ns)).length=q at *
  obtain rfl:=hs.len
  have e2:((mkr i 0 m.groups).map encRo).map (AVal.renL (rho [] 0))=(mkr i 0 m.groups).map (ZO 7):=by rw[LG,X5];rfl
  have e4:((mkd true k 0 (Qw m i)).map encCo).map (AVal.renL (rho [] 0))=(mkd true k 0 (Qw m i)).map (X8 9):=by rw[LH,X7];rfl
  have e9:((QW m i k).map encP).map (AVal.renL (rho [] 0))=(QW m i k).map encP:=WN rfl (fP _) _
  repeat' first|refine And.intro ?_ ?_|(intro h;try first|exact dz|replace h:=cv)
  all_goals try exact cz
  refine⟨⟨[(3,.int .i64 w),(4,.int .i64 a),(11,.ptr 0 0 0),(12,.ptr 6 0 0)],hpL m m i k,10⟩,Q0 [10,0,3,1,7,2,11,4,5,9] (by exact rfl) ⟨.refl _,.refl _,.refl _,.refl _,trivial⟩ ⟨⟨by decide,_,rfl,Zd (row:=Qv m) ⟨.refl _,.refl _,.refl _,trivial⟩ (eM _)⟩,⟨by decide,_,rfl,Q6 (row:=XO m) ⟨.refl _,.refl _,.refl _,trivial⟩⟩,⟨by decide,_,rfl,ZN (e2.trans (by rw[X5];rfl))⟩,⟨by decide,_,rfl,ZN (e4.trans (by rw[X7];rfl))⟩,⟨by decide,_,rfl,ZN (e9.trans (WN rfl (fP _) _).symm)⟩,trivial⟩,?_⟩
  repeat' first|refine And.intro ?_ ?_|(intro h;try first|exact dz|replace h:=cv)
  all_goals try exact cz
  refine .inl ⟨[.agg (Qv m),.agg (Qv m)],⟨ZA.imm rfl,Ye m m i k,trivial⟩,m,m,rfl,hs.s,⟨_,rfl⟩,?_⟩
  rw[Mn]
  repeat' first|refine And.intro ?_ ?_|(intro h;try first|exact dz|replace h:=cv)
  all_goals try exact cz
  refine .inl ⟨w,10,rfl,by decide,?_⟩
  have hw9:=XL (a:=w) (n:=10) (by decide)
  generalize hww:wi w 10=w' at *
  repeat' first|refine And.intro ?_ ?_|(intro h;try first|exact dz|replace h:=cv)
  all_goals try exact cz
  refine .inl ⟨a,m.groups.length,rfl,⟨by omega,by have:=hs.four;omega⟩,?_⟩
  rw[hwi]
  have e3:=BT (z:=4) hi
  have hgm:m.groups.getD i default∈m.groups:=UO hi default
  have hcl:(m.groups.getD i default).chunks.length=q:=hs.ck _ hgm
  have hkc:k<(m.groups.getD i default).chunks.length:=by omega
  have e5:=BU (z:=9) (i:=k) (l:=Qw m i) hkc
  have hcm:(m.groups.getD i default).chunks.getD k default∈(m.groups.getD i default).chunks:=UO hkc default
  obtain⟨hp0,hp4⟩:=hs.pg _ hgm _ hcm
  obtain⟨j,hj,hwj⟩:=EI (a:=dv a 64) hp0
  have e6:((QW m i k).map encP).getD (0+((j:Nat):Int).toNat) []=encP ((QW m i k).getD j default):=by rw[Nat.zero_add,Int.toNat_natCast];exact Vi encP default (l:=QW m i k) hj
  repeat' first|refine And.intro ?_ ?_|(intro h;try first|exact dz|replace h:=cv)
  all_goals try exact cz
  ·rw[e3];rfl
  rw[e3]
  repeat' first|refine And.intro ?_ ?_|(intro h;try first|exact dz|replace h:=cv)
  all_goals try exact cz
  refine .inl ⟨dv a 8,(m.groups.getD i default).chunks.length,rfl,⟨by omega,by have:=hs.most;omega⟩,?_⟩
  rw[hcl,hwk]
  repeat' first|refine And.intro ?_ ?_|(intro h;try first|exact dz|replace h:=cv)
  all_goals try exact cz
  ·rw[e3];rfl
  rw[e3]
  repeat' first|refine And.intro ?_ ?_|(intro h;try first|exact dz|replace h:=cv)
  all_goals try exact cz
  ·rw[e5];rfl
  rw[e5]
  repeat' first|refine And.intro ?_ ?_|(intro h;try first|exact dz|replace h:=cv)
  all_goals try exact cz
  ·rw[e5];rfl
  rw[e5]
  repeat' first|refine And.intro ?_ ?_|(intro h;try first|exact dz|replace h:=cv)
  all_goals try exact cz
  refine⟨dv a 64,((m.groups.getD i default).chunks.getD k default).pages.length,rfl,⟨by omega,by omega⟩,?_⟩
  rw[hwj]
  repeat' first|refine And.intro ?_ ?_|(intro h;try first|exact dz|replace h:=cv)
  all_goals try exact cz
  ·exact Int.ofNat_lt.2 hj
  repeat' first|refine And.intro ?_ ?_|(intro h;try first|exact dz|replace h:=cv)
  all_goals try exact cz
  refine .inl ⟨w,10,rfl,by decide,?_⟩
  rw[hww]
  have h9:w'=1∨w'=2∨w'=3∨w'=4∨w'=5∨w'=6∨w'=7∨w'=8∨w'=9:=by omega
  rcases h9 with rfl|rfl|rfl|rfl|rfl|rfl|rfl|rfl|rfl
  ·have hne:m≠tuR m i {(m.groups.getD i default)with n:=wr .i64 ((m.groups.getD i default).n+1)}:=EL hi (fun e=>WS _ (congrArg Rw.n e).symm)
   have hs2:MtS (tuR m i {(m.groups.getD i default)with n:=wr .i64 ((m.groups.getD i default).n+1)}):=N9 hs.s ⟨(hs.s.groups _ hgm).1,(hs.s.groups _ hgm).2⟩
   have f9:Qw (tuR m i {(m.groups.getD i default)with n:=wr .i64 ((m.groups.getD i default).n+1)}) i=Qw m i:=Na hi _
   have f8:∀m2,Qw m2 i=Qw m i→QW m2 i k=QW m i k:=fun m2 h=>by rw[QW,QW,h]
   have f2:=Nb (m:=m) (i:=i) {(m.groups.getD i default)with n:=wr .i64 ((m.groups.getD i default).n+1)}
   have hO:XO (tuR m i {(m.groups.getD i default)with n:=wr .i64 ((m.groups.getD i default).n+1)})=XO m:=Uy _ _ _
   generalize tuR m i {(m.groups.getD i default)with n:=wr .i64 ((m.groups.getD i default).n+1)}=m2 at *
   repeat' first|refine And.intro ?_ ?_|(intro h;try first|exact dz|replace h:=cv)
   all_goals try exact cz
   all_goals(try first|(rw[e3];rfl)|(rw[Nat.zero_add,Int.toNat_natCast,List.length_map,VM];exact hi)|(rw[e3];exact Nat.le_of_ble_eq_true rfl))
   conv=>whnf
   refine⟨⟨[(11,.ptr 0 0 0),(12,.ptr 6 0 0)],hpL m m2 i k,10⟩,Q0 [0,1,2,3,4,5,6,7,8,9] (by exact rfl) ⟨.refl _,.refl _,trivial⟩ ⟨⟨by decide,_,rfl,Zd (row:=Qv m) ⟨.refl _,.refl _,.refl _,trivial⟩ (eM _)⟩,⟨by decide,_,rfl,by rw[hO];exact Q6 (row:=XO m) ⟨.refl _,.refl _,.refl _,trivial⟩⟩,⟨by decide,_,rfl,ZN ?_⟩,⟨by decide,_,rfl,ZN ?_⟩,⟨by decide,_,rfl,ZN ?_⟩,trivial⟩,?_⟩
   ·rw[X5];show _=(mkr i 0 m2.groups).map (ZO 4);(rw[f2,e3,Nat.zero_add,Int.toNat_natCast]<;>rfl)
   ·rw[X7];show _=(mkd true k 0 (Qw m2 i)).map (X8 9);(rw[f9]<;>rfl)
   ·rw[WN rfl (fP _)];show _=(QW m2 i k).map encP;(rw[f8 m2 f9]<;>rfl)
   obtain⟨hq1,hq2⟩:=Yp hne
   repeat' first|refine And.intro ?_ ?_|(intro h;try first|exact dz|replace h:=cv)
   all_goals try exact cz
   refine .inl ⟨[.agg (Qv m),.agg (Qv m2)],⟨ZA.imm rfl,Ye m m2 i k,trivial⟩,m,m2,rfl,hs.s,⟨_,rfl⟩,?_⟩
   rw[hq1]
   repeat' first|refine And.intro ?_ ?_|(intro h;try first|exact dz|replace h:=cv)
   all_goals try exact cz
   refine .inl ⟨[.agg (Qv m2),.agg (Qv m)],⟨Ye m m2 i k,ZA.imm rfl,trivial⟩,m2,m,rfl,hs2,⟨_,rfl⟩,?_⟩
   rw[hq2]
   repeat' first|refine And.intro ?_ ?_|(intro h;try first|exact dz|replace h:=cv)
   all_goals try exact cz
   exact⟨_,Q4 [10] rfl,_,rfl,[],fun n b h=>(by rw[Heap.get_nil]at h;cases h),rfl,rfl⟩
  ·have hne:m≠tuC m i k {((Qw m i).getD k default)with words:=wr .i64 (((Qw m i).getD k default).words+1)}:=Kp hi hkc (fun e=>WS _ (congrArg Ck.words e).symm)
   have hs2:MtS (tuC m i k {((Qw m i).getD k default)with words:=wr .i64 (((Qw m i).getD k default).words+1)}):=KY hs.s hi (by show((Qw m i).getD k default).pages.length≤_;exact Nat.le_trans hp4 (by decide))
   have f9:QW (tuC m i k {((Qw m i).getD k default)with words:=wr .i64 (((Qw m i).getD k default).words+1)}) i k=QW m i k:=KZ hi hkc _
   have f4:=M6 hi (k:=k) {((Qw m i).getD k default)with words:=wr .i64 (((Qw m i).getD k default).words+1)}
   have f2:=J0 hi (k:=k) {((Qw m i).getD k default)with words:=wr .i64 (((Qw m i).getD k default).words+1)}
   have hO:XO (tuC m i k {((Qw m i).getD k default)with words:=wr .i64 (((Qw m i).getD k default).words+1)})=XO m:=Uy _ _ _
   generalize tuC m i k {((Qw m i).getD k default)with words:=wr .i64 (((Qw m i).getD k default).words+1)}=m2 at *
   repeat' first|refine And.intro ?_ ?_|(intro h;try first|exact dz|replace h:=cv)
   all_goals try exact cz
   all_goals(try first|(rw[e5];rfl)|(rw[Nat.zero_add,Int.toNat_natCast,List.length_map,YR];exact hkc)|(rw[e5];exact Nat.le_of_ble_eq_true rfl))
   conv=>whnf
   refine⟨⟨[(11,.ptr 0 0 0),(12,.ptr 6 0 0)],hpL m m2 i k,10⟩,Q0 [0,1,2,3,4,5,6,7,8,9] (by exact rfl) ⟨.refl _,.refl _,trivial⟩ ⟨⟨by decide,_,rfl,Zd (row:=Qv m) ⟨.refl _,.refl _,.refl _,trivial⟩ (eM _)⟩,⟨by decide,_,rfl,by rw[hO];exact Q6 (row:=XO m) ⟨.refl _,.refl _,.refl _,trivial⟩⟩,⟨by decide,_,rfl,ZN ?_⟩,⟨by decide,_,rfl,ZN ?_⟩,⟨by decide,_,rfl,ZN ?_⟩,trivial⟩,?_⟩
   ·rw[X5];show _=(mkr i 0 m2.groups).map (ZO 4);exact f2.symm
   ·rw[X7];show _=(mkd true k 0 (Qw m2 i)).map (X8 9);(rw[f4,e5,Nat.zero_add,Int.toNat_natCast]<;>rfl)
   ·rw[WN rfl (fP _)];show _=(QW m2 i k).map encP;(rw[f9]<;>rfl)
   obtain⟨hq1,hq2⟩:=Yp hne
   repeat' first|refine And.intro ?_ ?_|(intro h;try first|exact dz|replace h:=cv)
   all_goals try exact cz
   refine .inl ⟨[.agg (Qv m),.agg (Qv m2)],⟨ZA.imm rfl,Ye m m2 i k,trivial⟩,m,m2,rfl,hs.s,⟨_,rfl⟩,?_⟩
   rw[hq1]
   repeat' first|refine And.intro ?_ ?_|(intro h;try first|exact dz|replace h:=cv)
   all_goals try exact cz
   refine .inl ⟨[.agg (Qv m2),.agg (Qv m)],⟨Ye m m2 i k,ZA.imm rfl,trivial⟩,m2,m,rfl,hs2,⟨_,rfl⟩,?_⟩
   rw[hq2]
   repeat' first|refine And.intro ?_ ?_|(intro h;try first|exact dz|replace h:=cv)
   all_goals try exact cz
   exact⟨_,Q4 [10] rfl,_,rfl,[],fun n b h=>(by rw[Heap.get_nil]at h;cases h),rfl,rfl⟩
  ·have hne:m≠tuC m i k {((Qw m i).getD k default)with size:=wr .i64 (((Qw m i).getD k default).size+1)}:=Kp hi hkc (fun e=>WS _ (congrArg Ck.size e).symm)
   have hs2:MtS (tuC m i k {((Qw m i).getD k default)with size:=wr .i64 (((Qw m i).getD k default).size+1)}):=KY hs.s hi (by show((Qw m i).getD k default).pages.length≤_;exact Nat.le_trans hp4 (by decide))
   have f9:QW (tuC m i k {((Qw m i).getD k default)with size:=wr .i64 (((Qw m i).getD k default).size+1)}) i k=QW m i k:=KZ hi hkc _
   have f4:=M6 hi (k:=k) {((Qw m i).getD k default)with size:=wr .i64 (((Qw m i).getD k default).size+1)}
   have f2:=J0 hi (k:=k) {((Qw m i).getD k default)with size:=wr .i64 (((Qw m i).getD k default).size+1)}
   have hO:XO (tuC m i k {((Qw m i).getD k default)with size:=wr .i64 (((Qw m i).getD k default).size+1)})=XO m:=Uy _ _ _
   generalize tuC m i k {((Qw m i).getD k default)with size:=wr .i64 (((Qw m i).getD k default).size+1)}=m2 at *
   repeat' first|refine And.intro ?_ ?_|(intro h;try first|exact dz|replace h:=cv)
   all_goals try exact cz
   all_goals(try first|(rw[e5];rfl)|(rw[Nat.zero_add,Int.toNat_natCast,List.length_map,YR];exact hkc)|(rw[e5];exact Nat.le_of_ble_eq_true rfl))
   conv=>whnf
   refine⟨⟨[(11,.ptr 0 0 0),(12,.ptr 6 0 0)],hpL m m2 i k,10⟩,Q0 [0,1,2,3,4,5,6,7,8,9] (by exact rfl) ⟨.refl _,.refl _,trivial⟩ ⟨⟨by decide,_,rfl,Zd (row:=Qv m) ⟨.refl _,.refl _,.refl _,trivial⟩ (eM _)⟩,⟨by decide,_,rfl,by rw[hO];exact Q6 (row:=XO m) ⟨.refl _,.refl _,.refl _,trivial⟩⟩,⟨by decide,_,rfl,ZN ?_⟩,⟨by decide,_,rfl,ZN ?_⟩,⟨by decide,_,rfl,ZN ?_⟩,trivial⟩,?_⟩
   ·rw[X5];show _=(mkr i 0 m2.groups).map (ZO 4);exact f2.symm
   ·rw[X7];show _=(mkd true k 0 (Qw m2 i)).map (X8 9);(rw[f4,e5,Nat.zero_add,Int.toNat_natCast]<;>rfl)
   ·rw[WN rfl (fP _)];show _=(QW m2 i k).map encP;(rw[f9]<;>rfl)
   obtain⟨hq1,hq2⟩:=Yp hne
   repeat' first|refine And.intro ?_ ?_|(intro h;try first|exact dz|replace h:=cv)
   all_goals try exact cz
   refine .inl ⟨[.agg (Qv m),.agg (Qv m2)],⟨ZA.imm rfl,Ye m m2 i k,trivial⟩,m,m2,rfl,hs.s,⟨_,rfl⟩,?_⟩
   rw[hq1]
   repeat' first|refine And.intro ?_ ?_|(intro h;try first|exact dz|replace h:=cv)
   all_goals try exact cz
   refine .inl ⟨[.agg (Qv m2),.agg (Qv m)],⟨Ye m m2 i k,ZA.imm rfl,trivial⟩,m2,m,rfl,hs2,⟨_,rfl⟩,?_⟩
   rw[hq2]
   repeat' first|refine And.intro ?_ ?_|(intro h;try first|exact dz|replace h:=cv)
   all_goals try exact cz
   exact⟨_,Q4 [10] rfl,_,rfl,[],fun n b h=>(by rw[Heap.get_nil]at h;cases h),rfl,rfl⟩
  ·have hne:m≠tuC m i k {((Qw m i).getD k default)with crc:=wr .u32 (((Qw m i).getD k default).crc+1)}:=Kp hi hkc (fun e=>BF _ (congrArg Ck.crc e).symm)
   have hs2:MtS (tuC m i k {((Qw m i).getD k default)with crc:=wr .u32 (((Qw m i).getD k default).crc+1)}):=KY hs.s hi (by show((Qw m i).getD k default).pages.length≤_;exact Nat.le_trans hp4 (by decide))
   have f9:QW (tuC m i k {((Qw m i).getD k default)with crc:=wr .u32 (((Qw m i).getD k default).crc+1)}) i k=QW m i k:=KZ hi hkc _
   have f4:=M6 hi (k:=k) {((Qw m i).getD k default)with crc:=wr .u32 (((Qw m i).getD k default).crc+1)}
   have f2:=J0 hi (k:=k) {((Qw m i).getD k default)with crc:=wr .u32 (((Qw m i).getD k default).crc+1)}
   have hO:XO (tuC m i k {((Qw m i).getD k default)with crc:=wr .u32 (((Qw m i).getD k default).crc+1)})=XO m:=Uy _ _ _
   generalize tuC m i k {((Qw m i).getD k default)with crc:=wr .u32 (((Qw m i).getD k default).crc+1)}=m2 at *
   repeat' first|refine And.intro ?_ ?_|(intro h;try first|exact dz|replace h:=cv)
   all_goals try exact cz
   all_goals(try first|(rw[e5];rfl)|(rw[Nat.zero_add,Int.toNat_natCast,List.length_map,YR];exact hkc)|(rw[e5];exact Nat.le_of_ble_eq_true rfl))
   conv=>whnf
   refine⟨⟨[(11,.ptr 0 0 0),(12,.ptr 6 0 0)],hpL m m2 i k,10⟩,Q0 [0,1,2,3,4,5,6,7,8,9] (by exact rfl) ⟨.refl _,.refl _,trivial⟩ ⟨⟨by decide,_,rfl,Zd (row:=Qv m) ⟨.refl _,.refl _,.refl _,trivial⟩ (eM _)⟩,⟨by decide,_,rfl,by rw[hO];exact Q6 (row:=XO m) ⟨.refl _,.refl _,.refl _,trivial⟩⟩,⟨by decide,_,rfl,ZN ?_⟩,⟨by decide,_,rfl,ZN ?_⟩,⟨by decide,_,rfl,ZN ?_⟩,trivial⟩,?_⟩
   ·rw[X5];show _=(mkr i 0 m2.groups).map (ZO 4);exact f2.symm
   ·rw[X7];show _=(mkd true k 0 (Qw m2 i)).map (X8 9);(rw[f4,e5,Nat.zero_add,Int.toNat_natCast]<;>rfl)
   ·rw[WN rfl (fP _)];show _=(QW m2 i k).map encP;(rw[f9]<;>rfl)
   obtain⟨hq1,hq2⟩:=Yp hne
   repeat' first|refine And.intro ?_ ?_|(intro h;try first|exact dz|replace h:=cv)
   all_goals try exact cz
   refine .inl ⟨[.agg (Qv m),.agg (Qv m2)],⟨ZA.imm rfl,Ye m m2 i k,trivial⟩,m,m2,rfl,hs.s,⟨_,rfl⟩,?_⟩
   rw[hq1]
   repeat' first|refine And.intro ?_ ?_|(intro h;try first|exact dz|replace h:=cv)
   all_goals try exact cz
   refine .inl ⟨[.agg (Qv m2),.agg (Qv m)],⟨Ye m m2 i k,ZA.imm rfl,trivial⟩,m2,m,rfl,hs2,⟨_,rfl⟩,?_⟩
   rw[hq2]
   repeat' first|refine And.intro ?_ ?_|(intro h;try first|exact dz|replace h:=cv)
   all_goals try exact cz
   exact⟨_,Q4 [10] rfl,_,rfl,[],fun n b h=>(by rw[Heap.get_nil]at h;cases h),rfl,rfl⟩
  ·have hne:m≠tuC m i k {((Qw m i).getD k default)with known:=!((Qw m i).getD k default).known}:=Kp hi hkc (fun e=>(by have:=congrArg Ck.known e;revert this;show((Qw m i).getD k default).known=(!((Qw m i).getD k default).known)→False;cases((Qw m i).getD k default).known<;>intro h<;>cases h))
   have hs2:MtS (tuC m i k {((Qw m i).getD k default)with known:=!((Qw m i).getD k default).known}):=KY hs.s hi (by show((Qw m i).getD k default).pages.length≤_;exact Nat.le_trans hp4 (by decide))
   have f9:QW (tuC m i k {((Qw m i).getD k default)with known:=!((Qw m i).getD k default).known}) i k=QW m i k:=KZ hi hkc _
   have f4:=M6 hi (k:=k) {((Qw m i).getD k default)with known:=!((Qw m i).getD k default).known}
   have f2:=J0 hi (k:=k) {((Qw m i).getD k default)with known:=!((Qw m i).getD k default).known}
   have hO:XO (tuC m i k {((Qw m i).getD k default)with known:=!((Qw m i).getD k default).known})=XO m:=Uy _ _ _
   generalize tuC m i k {((Qw m i).getD k default)with known:=!((Qw m i).getD k default).known}=m2 at *
   repeat' first|refine And.intro ?_ ?_|(intro h;try first|exact dz|replace h:=cv)
   all_goals try exact cz
   all_goals(try first|(rw[e5];rfl)|(rw[Nat.zero_add,Int.toNat_natCast,List.length_map,YR];exact hkc)|(rw[e5];exact Nat.le_of_ble_eq_true rfl))
   conv=>whnf
   refine⟨⟨[(11,.ptr 0 0 0),(12,.ptr 6 0 0)],hpL m m2 i k,10⟩,Q0 [0,1,2,3,4,5,6,7,8,9] (by exact rfl) ⟨.refl _,.refl _,trivial⟩ ⟨⟨by decide,_,rfl,Zd (row:=Qv m) ⟨.refl _,.refl _,.refl _,trivial⟩ (eM _)⟩,⟨by decide,_,rfl,by rw[hO];exact Q6 (row:=XO m) ⟨.refl _,.refl _,.refl _,trivial⟩⟩,⟨by decide,_,rfl,ZN ?_⟩,⟨by decide,_,rfl,ZN ?_⟩,⟨by decide,_,rfl,ZN ?_⟩,trivial⟩,?_⟩
   ·rw[X5];show _=(mkr i 0 m2.groups).map (ZO 4);exact f2.symm
   ·rw[X7];show _=(mkd true k 0 (Qw m2 i)).map (X8 9);(rw[f4,e5,Nat.zero_add,Int.toNat_natCast]<;>rfl)
   ·rw[WN rfl (fP _)];show _=(QW m2 i k).map encP;(rw[f9]<;>rfl)
   obtain⟨hq1,hq2⟩:=Yp hne
   repeat' first|refine And.intro ?_ ?_|(intro h;try first|exact dz|replace h:=cv)
   all_goals try exact cz
   refine .inl ⟨[.agg (Qv m),.agg (Qv m2)],⟨ZA.imm rfl,Ye m m2 i k,trivial⟩,m,m2,rfl,hs.s,⟨_,rfl⟩,?_⟩
   rw[hq1]
   repeat' first|refine And.intro ?_ ?_|(intro h;try first|exact dz|replace h:=cv)
   all_goals try exact cz
   refine .inl ⟨[.agg (Qv m2),.agg (Qv m)],⟨Ye m m2 i k,ZA.imm rfl,trivial⟩,m2,m,rfl,hs2,⟨_,rfl⟩,?_⟩
   rw[hq2]
   repeat' first|refine And.intro ?_ ?_|(intro h;try first|exact dz|replace h:=cv)
   all_goals try exact cz
   exact⟨_,Q4 [10] rfl,_,rfl,[],fun n b h=>(by rw[Heap.get_nil]at h;cases h),rfl,rfl⟩
  ·have hne:m≠tuC m i k {((Qw m i).getD k default)with st:={((Qw m i).getD k default).st with nulls:=wr .i64 (((Qw m i).getD k default).st.nulls+1)}}:=Kp hi hkc (fun e=>WS _ (congrArg (fun c:Ck=>c.st.nulls) e).symm)
   have hs2:MtS (tuC m i k {((Qw m i).getD k default)with st:={((Qw m i).getD k default).st with nulls:=wr .i64 (((Qw m i).getD k default).st.nulls+1)}}):=KY hs.s hi (by show((Qw m i).getD k default).pages.length≤_;exact Nat.le_trans hp4 (by decide))
   have f9:QW (tuC m i k {((Qw m i).getD k default)with st:={((Qw m i).getD k default).st with nulls:=wr .i64 (((Qw m i).getD k default).st.nulls+1)}}) i k=QW m i k:=KZ hi hkc _
   have f4:=M6 hi (k:=k) {((Qw m i).getD k default)with st:={((Qw m i).getD k default).st with nulls:=wr .i64 (((Qw m i).getD k default).st.nulls+1)}}
   have f2:=J0 hi (k:=k) {((Qw m i).getD k default)with st:={((Qw m i).getD k default).st with nulls:=wr .i64 (((Qw m i).getD k default).st.nulls+1)}}
   have hO:XO (tuC m i k {((Qw m i).getD k default)with st:={((Qw m i).getD k default).st with nulls:=wr .i64 (((Qw m i).getD k default).st.nulls+1)}})=XO m:=Uy _ _ _
   generalize tuC m i k {((Qw m i).getD k default)with st:={((Qw m i).getD k default).st with nulls:=wr .i64 (((Qw m i).getD k default).st.nulls+1)}}=m2 at *
   repeat' first|refine And.intro ?_ ?_|(intro h;try first|exact dz|replace h:=cv)
   all_goals try exact cz
   all_goals(try first|(rw[e5];rfl)|(rw[Nat.zero_add,Int.toNat_natCast,List.length_map,YR];exact hkc)|(rw[e5];exact Nat.le_of_ble_eq_true rfl))
   conv=>whnf
   refine⟨⟨[(11,.ptr 0 0 0),(12,.ptr 6 0 0)],hpL m m2 i k,10⟩,Q0 [0,1,2,3,4,5,6,7,8,9] (by exact rfl) ⟨.refl _,.refl _,trivial⟩ ⟨⟨by decide,_,rfl,Zd (row:=Qv m) ⟨.refl _,.refl _,.refl _,trivial⟩ (eM _)⟩,⟨by decide,_,rfl,by rw[hO];exact Q6 (row:=XO m) ⟨.refl _,.refl _,.refl _,trivial⟩⟩,⟨by decide,_,rfl,ZN ?_⟩,⟨by decide,_,rfl,ZN ?_⟩,⟨by decide,_,rfl,ZN ?_⟩,trivial⟩,?_⟩
   ·rw[X5];show _=(mkr i 0 m2.groups).map (ZO 4);exact f2.symm
   ·rw[X7];show _=(mkd true k 0 (Qw m2 i)).map (X8 9);(rw[f4,e5,Nat.zero_add,Int.toNat_natCast]<;>rfl)
   ·rw[WN rfl (fP _)];show _=(QW m2 i k).map encP;(rw[f9]<;>rfl)
   obtain⟨hq1,hq2⟩:=Yp hne
   repeat' first|refine And.intro ?_ ?_|(intro h;try first|exact dz|replace h:=cv)
   all_goals try exact cz
   refine .inl ⟨[.agg (Qv m),.agg (Qv m2)],⟨ZA.imm rfl,Ye m m2 i k,trivial⟩,m,m2,rfl,hs.s,⟨_,rfl⟩,?_⟩
   rw[hq1]
   repeat' first|refine And.intro ?_ ?_|(intro h;try first|exact dz|replace h:=cv)
   all_goals try exact cz
   refine .inl ⟨[.agg (Qv m2),.agg (Qv m)],⟨Ye m m2 i k,ZA.imm rfl,trivial⟩,m2,m,rfl,hs2,⟨_,rfl⟩,?_⟩
   rw[hq2]
   repeat' first|refine And.intro ?_ ?_|(intro h;try first|exact dz|replace h:=cv)
   all_goals try exact cz
   exact⟨_,Q4 [10] rfl,_,rfl,[],fun n b h=>(by rw[Heap.get_nil]at h;cases h),rfl,rfl⟩
  ·have hne:m≠tuP m i k j {((QW m i k).getD j default)with cells:=wr .i64 (((QW m i k).getD j default).cells+1)}:=DP hi hkc hj (fun e=>WS _ (congrArg Pg.cells e).symm)
   have hs2:MtS (tuP m i k j {((QW m i k).getD j default)with cells:=wr .i64 (((QW m i k).getD j default).cells+1)}):=KY hs.s hi (by show((QW m i k).set j _).length≤_;rw[List.length_set];show((Qw m i).getD k default).pages.length≤_;exact Nat.le_trans hp4 (by decide))
   have f9:QW (tuP m i k j {((QW m i k).getD j default)with cells:=wr .i64 (((QW m i k).getD j default).cells+1)}) i k=(QW m i k).set j {((QW m i k).getD j default)with cells:=wr .i64 (((QW m i k).getD j default).cells+1)}:=KZ hi hkc _
   have f4:=EM (j:=j) hi hkc {((QW m i k).getD j default)with cells:=wr .i64 (((QW m i k).getD j default).cells+1)}
   have f2:(mkr i 0 (tuP m i k j {((QW m i k).getD j default)with cells:=wr .i64 (((QW m i k).getD j default).cells+1)}).groups).map (ZO 4)=(mkr i 0 m.groups).map (ZO 4):=J0 hi _
   have hO:XO (tuP m i k j {((QW m i k).getD j default)with cells:=wr .i64 (((QW m i k).getD j default).cells+1)})=XO m:=Uy _ _ _
   generalize tuP m i k j {((QW m i k).getD j default)with cells:=wr .i64 (((QW m i k).getD j default).cells+1)}=m2 at *
   repeat' first|refine And.intro ?_ ?_|(intro h;try first|exact dz|replace h:=cv)
   all_goals try exact cz
   all_goals(try first|(rw[e6];rfl)|(rw[Nat.zero_add,Int.toNat_natCast,List.length_map];exact hj)|(rw[e6];exact Nat.le_of_ble_eq_true rfl))
   conv=>whnf
   refine⟨⟨[(11,.ptr 0 0 0),(12,.ptr 6 0 0)],hpL m m2 i k,10⟩,Q0 [0,1,2,3,4,5,6,7,8,9] (by exact rfl) ⟨.refl _,.refl _,trivial⟩ ⟨⟨by decide,_,rfl,Zd (row:=Qv m) ⟨.refl _,.refl _,.refl _,trivial⟩ (eM _)⟩,⟨by decide,_,rfl,by rw[hO];exact Q6 (row:=XO m) ⟨.refl _,.refl _,.refl _,trivial⟩⟩,⟨by decide,_,rfl,ZN ?_⟩,⟨by decide,_,rfl,ZN ?_⟩,⟨by decide,_,rfl,ZN ?_⟩,trivial⟩,?_⟩
   ·rw[X5];show _=(mkr i 0 m2.groups).map (ZO 4);exact f2.symm
   ·rw[X7];show _=(mkd true k 0 (Qw m2 i)).map (X8 9);exact f4.symm
   ·rw[WN rfl (fP _)];show _=(QW m2 i k).map encP;(rw[f9,List.map_set,e6,Nat.zero_add,Int.toNat_natCast]<;>rfl)
   obtain⟨hq1,hq2⟩:=Yp hne
   repeat' first|refine And.intro ?_ ?_|(intro h;try first|exact dz|replace h:=cv)
   all_goals try exact cz
   refine .inl ⟨[.agg (Qv m),.agg (Qv m2)],⟨ZA.imm rfl,Ye m m2 i k,trivial⟩,m,m2,rfl,hs.s,⟨_,rfl⟩,?_⟩
   rw[hq1]
   repeat' first|refine And.intro ?_ ?_|(intro h;try first|exact dz|replace h:=cv)
   all_goals try exact cz
   refine .inl ⟨[.agg (Qv m2),.agg (Qv m)],⟨Ye m m2 i k,ZA.imm rfl,trivial⟩,m2,m,rfl,hs2,⟨_,rfl⟩,?_⟩
   rw[hq2]
   repeat' first|refine And.intro ?_ ?_|(intro h;try first|exact dz|replace h:=cv)
   all_goals try exact cz
   exact⟨_,Q4 [10] rfl,_,rfl,[],fun n b h=>(by rw[Heap.get_nil]at h;cases h),rfl,rfl⟩
  ·have hne:m≠tuP m i k j {((QW m i k).getD j default)with vlen:=wr .i64 (((QW m i k).getD j default).vlen+1)}:=DP hi hkc hj (fun e=>WS _ (congrArg Pg.vlen e).symm)
   have hs2:MtS (tuP m i k j {((QW m i k).getD j default)with vlen:=wr .i64 (((QW m i k).getD j default).vlen+1)}):=KY hs.s hi (by show((QW m i k).set j _).length≤_;rw[List.length_set];show((Qw m i).getD k default).pages.length≤_;exact Nat.le_trans hp4 (by decide))
   have f9:QW (tuP m i k j {((QW m i k).getD j default)with vlen:=wr .i64 (((QW m i k).getD j default).vlen+1)}) i k=(QW m i k).set j {((QW m i k).getD j default)with vlen:=wr .i64 (((QW m i k).getD j default).vlen+1)}:=KZ hi hkc _
   have f4:=EM (j:=j) hi hkc {((QW m i k).getD j default)with vlen:=wr .i64 (((QW m i k).getD j default).vlen+1)}
   have f2:(mkr i 0 (tuP m i k j {((QW m i k).getD j default)with vlen:=wr .i64 (((QW m i k).getD j default).vlen+1)}).groups).map (ZO 4)=(mkr i 0 m.groups).map (ZO 4):=J0 hi _
   have hO:XO (tuP m i k j {((QW m i k).getD j default)with vlen:=wr .i64 (((QW m i k).getD j default).vlen+1)})=XO m:=Uy _ _ _
   generalize tuP m i k j {((QW m i k).getD j default)with vlen:=wr .i64 (((QW m i k).getD j default).vlen+1)}=m2 at *
   repeat' first|refine And.intro ?_ ?_|(intro h;try first|exact dz|replace h:=cv)
   all_goals try exact cz
   all_goals(try first|(rw[e6];rfl)|(rw[Nat.zero_add,Int.toNat_natCast,List.length_map];exact hj)|(rw[e6];exact Nat.le_of_ble_eq_true rfl))
   conv=>whnf
   refine⟨⟨[(11,.ptr 0 0 0),(12,.ptr 6 0 0)],hpL m m2 i k,10⟩,Q0 [0,1,2,3,4,5,6,7,8,9] (by exact rfl) ⟨.refl _,.refl _,trivial⟩ ⟨⟨by decide,_,rfl,Zd (row:=Qv m) ⟨.refl _,.refl _,.refl _,trivial⟩ (eM _)⟩,⟨by decide,_,rfl,by rw[hO];exact Q6 (row:=XO m) ⟨.refl _,.refl _,.refl _,trivial⟩⟩,⟨by decide,_,rfl,ZN ?_⟩,⟨by decide,_,rfl,ZN ?_⟩,⟨by decide,_,rfl,ZN ?_⟩,trivial⟩,?_⟩
   ·rw[X5];show _=(mkr i 0 m2.groups).map (ZO 4);exact f2.symm
   ·rw[X7];show _=(mkd true k 0 (Qw m2 i)).map (X8 9);exact f4.symm
   ·rw[WN rfl (fP _)];show _=(QW m2 i k).map encP;(rw[f9,List.map_set,e6,Nat.zero_add,Int.toNat_natCast]<;>rfl)
   obtain⟨hq1,hq2⟩:=Yp hne
   repeat' first|refine And.intro ?_ ?_|(intro h;try first|exact dz|replace h:=cv)
   all_goals try exact cz
   refine .inl ⟨[.agg (Qv m),.agg (Qv m2)],⟨ZA.imm rfl,Ye m m2 i k,trivial⟩,m,m2,rfl,hs.s,⟨_,rfl⟩,?_⟩
   rw[hq1]
   repeat' first|refine And.intro ?_ ?_|(intro h;try first|exact dz|replace h:=cv)
   all_goals try exact cz
   refine .inl ⟨[.agg (Qv m2),.agg (Qv m)],⟨Ye m m2 i k,ZA.imm rfl,trivial⟩,m2,m,rfl,hs2,⟨_,rfl⟩,?_⟩
   rw[hq2]
   repeat' first|refine And.intro ?_ ?_|(intro h;try first|exact dz|replace h:=cv)
   all_goals try exact cz
   exact⟨_,Q4 [10] rfl,_,rfl,[],fun n b h=>(by rw[Heap.get_nil]at h;cases h),rfl,rfl⟩
  ·have hne:m≠tuP m i k j {((QW m i k).getD j default)with crc:=wr .u32 (((QW m i k).getD j default).crc+1)}:=DP hi hkc hj (fun e=>BF _ (congrArg Pg.crc e).symm)
   have hs2:MtS (tuP m i k j {((QW m i k).getD j default)with crc:=wr .u32 (((QW m i k).getD j default).crc+1)}):=KY hs.s hi (by show((QW m i k).set j _).length≤_;rw[List.length_set];show((Qw m i).getD k default).pages.length≤_;exact Nat.le_trans hp4 (by decide))
   have f9:QW (tuP m i k j {((QW m i k).getD j default)with crc:=wr .u32 (((QW m i k).getD j default).crc+1)}) i k=(QW m i k).set j {((QW m i k).getD j default)with crc:=wr .u32 (((QW m i k).getD j default).crc+1)}:=KZ hi hkc _
   have f4:=EM (j:=j) hi hkc {((QW m i k).getD j default)with crc:=wr .u32 (((QW m i k).getD j default).crc+1)}
   have f2:(mkr i 0 (tuP m i k j {((QW m i k).getD j default)with crc:=wr .u32 (((QW m i k).getD j default).crc+1)}).groups).map (ZO 4)=(mkr i 0 m.groups).map (ZO 4):=J0 hi _
   have hO:XO (tuP m i k j {((QW m i k).getD j default)with crc:=wr .u32 (((QW m i k).getD j default).crc+1)})=XO m:=Uy _ _ _
   generalize tuP m i k j {((QW m i k).getD j default)with crc:=wr .u32 (((QW m i k).getD j default).crc+1)}=m2 at *
   repeat' first|refine And.intro ?_ ?_|(intro h;try first|exact dz|replace h:=cv)
   all_goals try exact cz
   all_goals(try first|(rw[e6];rfl)|(rw[Nat.zero_add,Int.toNat_natCast,List.length_map];exact hj)|(rw[e6];exact Nat.le_of_ble_eq_true rfl))
   conv=>whnf
   refine⟨⟨[(11,.ptr 0 0 0),(12,.ptr 6 0 0)],hpL m m2 i k,10⟩,Q0 [0,1,2,3,4,5,6,7,8,9] (by exact rfl) ⟨.refl _,.refl _,trivial⟩ ⟨⟨by decide,_,rfl,Zd (row:=Qv m) ⟨.refl _,.refl _,.refl _,trivial⟩ (eM _)⟩,⟨by decide,_,rfl,by rw[hO];exact Q6 (row:=XO m) ⟨.refl _,.refl _,.refl _,trivial⟩⟩,⟨by decide,_,rfl,ZN ?_⟩,⟨by decide,_,rfl,ZN ?_⟩,⟨by decide,_,rfl,ZN ?_⟩,trivial⟩,?_⟩
   ·rw[X5];show _=(mkr i 0 m2.groups).map (ZO 4);exact f2.symm
   ·rw[X7];show _=(mkd true k 0 (Qw m2 i)).map (X8 9);exact f4.symm
   ·rw[WN rfl (fP _)];show _=(QW m2 i k).map encP;(rw[f9,List.map_set,e6,Nat.zero_add,Int.toNat_natCast]<;>rfl)
   obtain⟨hq1,hq2⟩:=Yp hne
   repeat' first|refine And.intro ?_ ?_|(intro h;try first|exact dz|replace h:=cv)
   all_goals try exact cz
   refine .inl ⟨[.agg (Qv m),.agg (Qv m2)],⟨ZA.imm rfl,Ye m m2 i k,trivial⟩,m,m2,rfl,hs.s,⟨_,rfl⟩,?_⟩
   rw[hq1]
   repeat' first|refine And.intro ?_ ?_|(intro h;try first|exact dz|replace h:=cv)
   all_goals try exact cz
   refine .inl ⟨[.agg (Qv m2),.agg (Qv m)],⟨Ye m m2 i k,ZA.imm rfl,trivial⟩,m2,m,rfl,hs2,⟨_,rfl⟩,?_⟩
   rw[hq2]
   repeat' first|refine And.intro ?_ ?_|(intro h;try first|exact dz|replace h:=cv)
   all_goals try exact cz
   exact⟨_,Q4 [10] rfl,_,rfl,[],fun n b h=>(by rw[Heap.get_nil]at h;cases h),rfl,rfl⟩
theorem NO[Syms](ns gs:List Int)(l:List Vl)(w a:Int)(hn:ns.length≤9223372036854775807)(_:∀g∈ns,I64 g)(hgl:gs.length≤9223372036854775807)(hg:∀g∈gs,I64 g)(hll:l.length≤9223372036854775807)(hl:∀v∈l,I64 v.n)(hw:I64 w)(ha:I64 a):
 XI Try.prog 5 [vI ns,vI gs,vV l,.int .i64 w,.int .i64 a] [] 0 (fun v H _=>v= .bool true∧H=[]):=
 XI.forget (QC Qp Qq Dy Oq QJ (HN ns gs l w a hn hgl hll hg hl hw ha))
end
abbrev kI:Shp:=.slice (.int .i64)
abbrev kV:Shp:=.slice (.struct (.pair (.int .i64) (.pair .str .unit)))
theorem P5[Syms]{ι:Inj}{x:AVal}{v:Value}(h:kI.ok [x])(hr:RelV ι x v):∃l:List Int,RelV ι (vI l) v∧l.length≤9223372036854775807∧ ∀a∈l,I64 a:=
 Shp.slice_of (enc:=Qk) (G:=I64) 0 (fun r h=>by obtain⟨z,rfl,hz⟩:=h;exact⟨z,rfl,DN hz⟩) h hr
theorem P4[Syms]{ι:Inj}{x:AVal}{v:Value}(h:kV.ok [x])(hr:RelV ι x v):∃l:List Vl,RelV ι (vV l) v∧l.length≤9223372036854775807∧ ∀a∈l,I64 a.n:=
 Shp.slice_of (enc:=Yi) (G:=fun a=>I64 a.n) default (fun r h=>by
  obtain⟨r1,r2,rfl,⟨z,rfl,hz⟩,r3,r4,rfl,⟨s,rfl,hs⟩,rfl⟩:=h
  exact⟨⟨z,s⟩,rfl,DN hz⟩) h hr
theorem P6[Syms]{ι:Inj}{x:AVal}{v:Value}(h:(Shp.int .i64).ok [x])(hr:RelV ι x v):∃z:Int,RelV ι (.int .i64 z) v∧I64 z:=by
 obtain⟨z,h1,hz⟩:=h
 cases h1
 exact⟨z,hr,DN hz⟩
end Go.Proofs.Ytajieadpaeggcaa
