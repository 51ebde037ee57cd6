/-
  'Make':a shape,of raw numbers.
-/
import Derived.Test.YtcpikannlnmafaaL1
import Derived.Test.YtcpikannlnmafaaWithin
set_option linter.unusedVariables false
set_option linter.unusedSimpArgs false
namespace Go.Proofs.Ytcpikannlnmafaa
open Go Go.Av
section
set_option maxRecDepth 100000
set_option maxHeartbeats 4000000
def G_within:List AVal→(AVal→Prop)→Prop:=fun args K=>∃a n,args=[.int .i64 a,.int .i64 n]∧(0<n∧n≤4611686018427387904)∧K (.int .i64 (wi a n))
theorem Fs[Syms]:HZ Try.prog 11 G_within:=by
 rintro args K ⟨a,n,rfl,⟨h1,h2⟩,hk⟩
 refine⟨GQ,_,hk,fun ι w vs hv=>?_⟩
 obtain⟨v0,vs0,rfl,hv0,hv⟩:=hv.uncons
 obtain⟨v1,vs1,rfl,hv1,hv⟩:=hv.uncons
 obtain rfl:=hv.unnil
 obtain rfl:=hv0.of_int
 obtain rfl:=hv1.of_int
 refine(Kl a n h1 h2 w).mono ?_
 rintro e w' ⟨rfl,rfl⟩
 exact⟨_,rfl,.int _ _,rfl⟩
abbrev cWi:CallT:=Qv 11 (L0 G_within) Qz
theorem Ot[Syms]:cWi.det Try.prog:=FI Fs Qn
theorem Pz[Syms]:cWi.ok Try.prog:=KA Fs Qy
theorem Q6(k:IntKind)(n:Int):asI (.int k n)=n:=rfl
theorem Qb(a:Int):(encI a).getD 0 .any= .int .i64 a:=rfl
theorem Qr(f:Fd):(encF f).getD 3 .any= .int .i64 f.kids:=rfl
theorem Ql(f:Fd):(encF f).getD (0+3) .any= .int .i64 f.kids:=rfl
theorem Qu(f:Fd):(encF f).length=4:=rfl
theorem Ib{fs:List Fd}{n:Nat}{a:Int}{t:List Int}(h:n=0∨t=[]∨ ¬0<(fs.getD a.toNat default).kids):U3 fs n (a::t)=a::t:=by
 cases n with
 |zero=>rfl
 |succ n=>cases t with
  |nil=>rfl
  |cons b t2=>rcases h with h|h|h
              ·exact absurd h (by omega)
              ·exact absurd h (by simp)
              ·simp only[U3,h,if_false]
theorem Q3{k:IntKind}{a b:Int}(h:a=b):WkV (.int k a) (.int k b):=h▸ .refl _
theorem Q4{n off l l' sz:Nat}{c:Option Nat}(h:l=l'):WkV (.slice n off l sz c) (.slice n off l' sz none):=h▸ .cap _ _ _ _ _
def pSt(ns:List Int)(i:Nat)(fs:List Fd)(m:Nat)(R:List (List AVal))(k:Nat):St:=
 ⟨[(0,vI ns),(3,.slice 0 0 fs.length 4 none),(4,.slice 1 0 m 1 none),(5,.int .i64 i),(6,.int .i64 k)],[(0,some (.cells (fs.map encF) false)),(1,some (.cells R false))],2⟩
def mSt(ns:List Int)(i:Nat)(fs:List Fd)(m:Nat)(R:List (List AVal)):St:=
 ⟨[(0,vI ns),(3,.slice 0 0 fs.length 4 none),(4,.slice 1 0 m 1 none),(5,.int .i64 i)],[(0,some (.cells (fs.map encF) false)),(1,some (.cells R false))],2⟩
theorem Pa[Syms](ns:List Int)(hn:ns.length≤9223372036854775807):
 fnT cWi cWi (Zc fns) (Z5 tys) (ZS plt) 100 13 [vI ns] [] 0 (fun v H _=>v=vF (Q7 ns)∧H=[]):=by
 refine⟨fun n s=>∃(i:Nat) (fs:List Fd) (op:List Int) (m:Nat) (junk R:List (List AVal)),(n=12-i∧i≤12∧ZW ns (12-i) i fs op=ZW ns 12 0 [⟨[109],0,0,0⟩] [0]∧fs.length=i+1∧m=op.length∧op≠[]∧(∀p∈op,0≤p∧p<fs.length)∧(∀f∈fs,0≤f.kids∧f.kids≤i)∧op.length≤i+1∧R=op.reverse.map encI++junk∧Qe junk)∧s=mSt ns i fs m R,
  ⟨_,mSt ns 0 [⟨[109],0,0,0⟩] 1 [[.int .i64 0]],Q1 [0,1] rfl ?_ ?_,0,_,[0],_,[],_,⟨rfl,by omega,rfl,rfl,rfl,by simp,by simp,by simp,by simp,rfl,QG⟩,rfl⟩,?_⟩
 ·exact⟨.refl _,.cap _ _ _ _ _,.cap _ _ _ _ _,.refl _,trivial⟩
 ·exact⟨⟨by decide,_,rfl,Q2 rfl (fF [⟨[109],0,0,0⟩])⟩,⟨by decide,_,rfl,.refl _⟩,trivial⟩
 rintro n s ⟨i,fs,op,m,junk,R,⟨rfl,hi,hrun,hlen,rfl,hne,hop,hkid,hol0,hR,hj⟩,rfl⟩
 have hop0:0≤ZJ op∧ZJ op<fs.length:=by
  cases op with
  |nil=>exact absurd rfl hne
  |cons a t=>exact hop a (List.mem_cons_self ..)
 have hx1:(0:Nat)+0=0:=rfl
 have hx2:R.getD (0+((↑op.length:Int)-1).toNat) []=encI (ZJ op):=by
  obtain⟨a,t,rfl⟩:∃a t,op=a::t:=by cases op with|nil=>exact absurd rfl hne|cons a t=>exact⟨a,t,rfl⟩
  rw[show 0+((↑(a::t).length:Int)-1).toNat=t.length by rw[List.length_cons];omega,hR];simp[List.getElem?_append,List.getElem?_map,ZJ]
 have hx3:(fs.map encF).getD (0+(ZJ op).toNat) []=encF (fs.getD (ZJ op).toNat default):=by rw[Nat.zero_add];exact WR encF default (by omega)
 have hRl:R.length=op.length+junk.length:=by rw[hR];simp
 have hkb:0≤(fs.getD (ZJ op).toNat default).kids∧(fs.getD (ZJ op).toNat default).kids≤i:=by
  have hlt:(ZJ op).toNat<fs.length:=by omega
  have:fs.getD (ZJ op).toNat default=fs[(ZJ op).toNat]:=by simp[List.getD_eq_getElem?_getD,hlt]
  rw[this];exact hkid _ (List.getElem_mem hlt)
 have hol1:0<op.length:=List.length_pos_iff.2 hne
 repeat' first|refine And.intro ?_ ?_|(intro h;try simp only[decide_eq_true_eq,decide_eq_false_iff_not,Int.not_lt,Int.not_le,Int.toNat_natCast,↓reduceIte,Nat.reduceAdd,reduceCtorEq,Int.reduceLT,Int.lt_irrefl,gt_iff_lt,not_true_eq_false,not_false_eq_true,Bool.not_true,Bool.not_false,decide_false,decide_true,Int.reduceLE,Int.reduceSub,Bool.false_eq_true,Bool.true_eq_false,Nat.reduceEqDiff,Nat.one_ne_zero,Nat.reduceLT,and_self,and_true,true_and,Int.natCast_zero,Int.cast_ofNat_Int,List.length_nil,ne_eq,Decidable.not_not,hx1,hx2,hx3,Q6,Qb,Qr,Ql]at h)
 all_goals(try first|exact PlanIs.mk (by kernel_rfl)|omega|exact rfl|exact Nat.le_of_ble_eq_true rfl|(show(_:Int)≤(_:Int);simp only[hx1,hx2,hx3,Q6,Qb,Qr,Ql,Qu,List.length_set,List.length_map,hRl];omega)|(show(_:Int)<(_:Int);simp only[hx1,hx2,hx3,Q6,Qb,Qr,Ql,Qu,List.length_set,List.length_map,hRl];omega)|(show(_:Nat)≤(_:Nat);simp only[hx1,hx2,hx3,Q6,Qb,Qr,Ql,Qu,List.length_set,List.length_map,hRl];omega)|(show isC _ _ _=true;simp only[hx1,hx2,hx3,Q6,Qb,Qr,Ql,Qu,List.length_set,List.length_map,hRl];exact rfl))
 ·refine⟨_,3,rfl,by omega,?_⟩
  obtain⟨hw1,hw2⟩:=ZA (a:=wr .i64 ((ns.getD i 0).tdiv 64)) (n:=3) (by omega)
  generalize hk0:wi (wr .i64 ((ns.getD i 0).tdiv 64)) 3=k0 at hw1 hw2
  obtain⟨k0,rfl⟩:=Int.eq_ofNat_of_zero_le hw1
  have hfF:Qe (fs.map encF):=fF fs
  have hfR:Qe R:=by rw[hR];exact QC (fI _) hj
  refine⟨fun n s=>∃(kk:Nat) (o:List Int) (j1:List (List AVal)),(n=kk∧kk≤3∧U3 fs kk o=U3 fs k0 op∧R=o.reverse.map encI++j1∧Qe j1∧o≠[]∧(∀p∈o,0≤p∧p<fs.length)∧o.length≤op.length)∧s=pSt ns i fs o.length R kk,⟨_,pSt ns i fs op.length R k0,Q1 [0,1] rfl ?_ ?_,k0,op,junk,⟨rfl,by omega,rfl,hR,hj,hne,hop,Nat.le_refl _⟩,rfl⟩,?_⟩
  ·exact⟨.refl _,.cap _ _ _ _ _,.cap _ _ _ _ _,.refl _,Q3 hk0,trivial⟩
  ·exact⟨⟨by decide,_,rfl,Q2 rfl hfF⟩,⟨by decide,_,rfl,Q2 rfl hfR⟩,trivial⟩
  rintro n s ⟨kk,o,j1,⟨rfl,hk3,hpop,hR1,hj1,ho,hop1,hol⟩,rfl⟩
  obtain⟨a,t,rfl⟩:∃a t,o=a::t:=by cases o with|nil=>exact absurd rfl ho|cons a t=>exact⟨a,t,rfl⟩
  have hol2:t.length+1≤i+1:=by rw[List.length_cons]at hol;omega
  have ha:=hop1 a (List.mem_cons_self ..)
  have hx1:0+((↑(t.length+1):Int)-1).toNat=t.length:=by omega
  have hx2:R.getD t.length []=encI a:=by rw[hR1];simp[List.getElem?_append,List.getElem?_map]
  have hc1:isC (Cf 1) (.int .i64 0) ((R.getD (0+((↑(t.length+1):Int)-1).toNat) []).getD 0 .any)=true:=by rw[hx1,hx2];exact rfl
  have hx3:(fs.map encF).getD (0+a.toNat) []=encF (fs.getD a.toNat default):=by rw[Nat.zero_add];exact WR encF default (by omega)
  have hRl:R.length=t.length+1+j1.length:=by rw[hR1];simp;omega
  have hkb:0≤(fs.getD a.toNat default).kids∧(fs.getD a.toNat default).kids≤i:=by
   have hlt:a.toNat<fs.length:=by omega
   have:fs.getD a.toNat default=fs[a.toNat]:=by simp[List.getD_eq_getElem?_getD,hlt]
   rw[this];exact hkid _ (List.getElem_mem hlt)
  rw[List.length_cons]
  repeat' first|refine And.intro ?_ ?_|(intro h;try simp only[decide_eq_true_eq,decide_eq_false_iff_not,Int.not_lt,Int.not_le,Int.toNat_natCast,↓reduceIte,Nat.reduceAdd,reduceCtorEq,Int.reduceLT,Int.lt_irrefl,gt_iff_lt,not_true_eq_false,not_false_eq_true,Bool.not_true,Bool.not_false,decide_false,decide_true,Int.reduceLE,Int.reduceSub,Bool.false_eq_true,Bool.true_eq_false,Nat.reduceEqDiff,Nat.one_ne_zero,Nat.reduceLT,and_self,and_true,true_and,Int.natCast_zero,Int.cast_ofNat_Int,List.length_nil,ne_eq,Decidable.not_not,hx1,hx2,hx3,Q6,Qb,Qr,Ql]at h)
  all_goals(try first|exact PlanIs.mk (by kernel_rfl)|omega|exact rfl|exact Nat.le_of_ble_eq_true rfl|(show(_:Int)≤(_:Int);simp only[hx1,hx2,hx3,Q6,Qb,Qr,Ql,Qu,List.length_set,List.length_map,hRl];omega)|(show(_:Int)<(_:Int);simp only[hx1,hx2,hx3,Q6,Qb,Qr,Ql,Qu,List.length_set,List.length_map,hRl];omega)|(show(_:Nat)≤(_:Nat);simp only[hx1,hx2,hx3,Q6,Qb,Qr,Ql,Qu,List.length_set,List.length_map,hRl];omega)|(show isC _ _ _=true;simp only[hx1,hx2,hx3,Q6,Qb,Qr,Ql,Qu,List.length_set,List.length_map,hRl];exact rfl))
  ·have h':0<(fs.getD a.toNat default).kids:=by assumption
   obtain⟨b,t2,rfl⟩:∃b t2,t=b::t2:=by
    cases t with
    |nil=>simp only[List.length_nil]at *;omega
    |cons b t2=>exact⟨b,t2,rfl⟩
   have hn0:0<n:=by omega
   refine⟨n-1,pSt ns i fs (b::t2).length R (n-1),Q1 [0,1] rfl ?_ ?_,⟨n-1,b::t2,encI a::j1,⟨rfl,by omega,?_,?_,Xs (by simp[encI];rfl) hj1,by simp,fun p hp=>hop1 p (List.mem_cons_of_mem _ hp),by simp only[List.length_cons]at *;omega⟩,rfl⟩,by omega⟩
   ·exact⟨.refl _,.cap _ _ _ _ _,Q4 (by simp only[List.length_cons];omega),.refl _,Q3 (by omega),trivial⟩
   ·exact⟨⟨by decide,_,rfl,Q2 rfl hfF⟩,⟨by decide,_,rfl,Q2 rfl hfR⟩,trivial⟩
   ·rw[←hpop]
    obtain⟨n',rfl⟩:∃n',n=n'+1:=⟨n-1,by omega⟩
    simp only[U3,h',if_true,Nat.add_sub_cancel]
   ·rw[hR1];simp
  all_goals
   have hp:U3 fs k0 op=a::t:=by
    rw[←hpop]
    refine Ib ?_
    first
    |exact Or.inr (Or.inr (Int.not_lt.2 (by assumption)))
    |exact Or.inl (by omega)
    |exact Or.inr (Or.inl (List.length_eq_zero_iff.1 (by omega)))
   refine⟨_,3,rfl,by omega,?_⟩
  ·skip
   repeat' first|refine And.intro ?_ ?_|(intro h;try simp only[decide_eq_true_eq,decide_eq_false_iff_not,Int.not_lt,Int.not_le,Int.toNat_natCast,↓reduceIte,Nat.reduceAdd,reduceCtorEq,Int.reduceLT,Int.lt_irrefl,gt_iff_lt,not_true_eq_false,not_false_eq_true,Bool.not_true,Bool.not_false,decide_false,decide_true,Int.reduceLE,Int.reduceSub,Bool.false_eq_true,Bool.true_eq_false,Nat.reduceEqDiff,Nat.one_ne_zero,Nat.reduceLT,and_self,and_true,true_and,Int.natCast_zero,Int.cast_ofNat_Int,List.length_nil,ne_eq,Decidable.not_not,hx1,hx2,hx3,Q6,Qb,Qr,Ql]at h)
   all_goals(try first|exact PlanIs.mk (by kernel_rfl)|omega|exact rfl|exact Nat.le_of_ble_eq_true rfl|(show(_:Int)≤(_:Int);simp only[hx1,hx2,hx3,Q6,Qb,Qr,Ql,Qu,List.length_set,List.length_map,hRl];omega)|(show(_:Int)<(_:Int);simp only[hx1,hx2,hx3,Q6,Qb,Qr,Ql,Qu,List.length_set,List.length_map,hRl];omega)|(show(_:Nat)≤(_:Nat);simp only[hx1,hx2,hx3,Q6,Qb,Qr,Ql,Qu,List.length_set,List.length_map,hRl];omega)|(show isC _ _ _=true;simp only[hx1,hx2,hx3,Q6,Qb,Qr,Ql,Qu,List.length_set,List.length_map,hRl];exact rfl))
   all_goals refine⟨_,8,rfl,by omega,?_⟩
   repeat' first|refine And.intro ?_ ?_|(intro h;try simp only[decide_eq_true_eq,decide_eq_false_iff_not,Int.not_lt,Int.not_le,Int.toNat_natCast,↓reduceIte,Nat.reduceAdd,reduceCtorEq,Int.reduceLT,Int.lt_irrefl,gt_iff_lt,not_true_eq_false,not_false_eq_true,Bool.not_true,Bool.not_false,decide_false,decide_true,Int.reduceLE,Int.reduceSub,Bool.false_eq_true,Bool.true_eq_false,Nat.reduceEqDiff,Nat.one_ne_zero,Nat.reduceLT,and_self,and_true,true_and,Int.natCast_zero,Int.cast_ofNat_Int,List.length_nil,ne_eq,Decidable.not_not,hx1,hx2,hx3,Q6,Qb,Qr,Ql]at h)
   all_goals(try first|exact PlanIs.mk (by kernel_rfl)|omega|exact rfl|exact Nat.le_of_ble_eq_true rfl|(show(_:Int)≤(_:Int);simp only[hx1,hx2,hx3,Q6,Qb,Qr,Ql,Qu,List.length_set,List.length_map,hRl];omega)|(show(_:Int)<(_:Int);simp only[hx1,hx2,hx3,Q6,Qb,Qr,Ql,Qu,List.length_set,List.length_map,hRl];omega)|(show(_:Nat)≤(_:Nat);simp only[hx1,hx2,hx3,Q6,Qb,Qr,Ql,Qu,List.length_set,List.length_map,hRl];omega)|(show isC _ _ _=true;simp only[hx1,hx2,hx3,Q6,Qb,Qr,Ql,Qu,List.length_set,List.length_map,hRl];exact rfl))
   ·exact absurd (show(2:Int)=0 from by assumption) (by decide)
   ·have hq:(wi (ns.getD i 0) 8).tmod 5=0:=by assumption
    obtain⟨g1,g2,g3,g4,g5,g6⟩:=Xx hrun hlen hkid (by omega) (by omega) hk0 hp hop1 hol2 2 (by rw[Xw,if_pos ⟨by rw[List.length_cons];omega,hq⟩]) (a::t) (by first|rfl|(rw[if_neg ‹_›])) _ rfl
    refine⟨_,mSt ns (i+1) (X3 fs a.toNat++[⟨nmM i,wi (wr .i64 ((ns.getD i 0).tdiv 8)) 3,2,0⟩]) (a::t).length (R),Q1 [2+19*RR+4,1] (by kernel_rfl) ?_ ?_,⟨i+1,_,a::t,_,j1,_,⟨rfl,by omega,g1,g2,rfl,g3,g4,g5,g6,hR1,hj1⟩,rfl⟩,by omega⟩
    ·exact⟨.refl _,Q4 (by rw[g2,hlen]),Q4 rfl,Q3 (by omega),trivial⟩
    ·refine⟨⟨by decide,_,rfl,Q2 ?_ (fF _)⟩,⟨by decide,_,rfl,Q2 ?_ hfR⟩,trivial⟩
     ·show List.take fs.length (List.drop 0 ((fs.map encF).set (0+(asI ((R.getD (0+((↑(t.length+1):Int)-1).toNat) []).getD 0 .any)).toNat) (Qm ((fs.map encF).getD (0+(asI ((R.getD (0+((↑(t.length+1):Int)-1).toNat) []).getD 0 .any)).toNat) []) (0+3) [.int .i64 (asI (((fs.map encF).getD (0+(asI ((R.getD (0+((↑(t.length+1):Int)-1).toNat) []).getD 0 .any)).toNat) []).getD (0+3) .any)+1)])))++[[.str (Xl [[.int .u8 (wr .u8 (97+(i:Int)))]]),.int .i64 (wi (wr .i64 ((ns.getD i 0).tdiv 8)) 3),.int .i64 (2),.int .i64 0]]=_
      simp only[hx1,hx2,Qb,Q6]
      rw[hx3,UN i (by omega),show Qm (encF (fs.getD a.toNat default)) (0+3) [.int .i64 (asI ((encF (fs.getD a.toNat default)).getD (0+3) .any)+1)]=[.str (fs.getD a.toNat default).name,.int .i64 (fs.getD a.toNat default).rep,.int .i64 (fs.getD a.toNat default).kind,.int .i64 ((fs.getD a.toNat default).kids+1)] from rfl,Nat.zero_add,Xb (by omega),List.drop_zero,List.take_of_length_le (by simp[Q8])]
      simp[encF]
     ·rfl
   ·have hq:¬(wi (ns.getD i 0) 8).tmod 5=0:=by assumption
    obtain⟨g1,g2,g3,g4,g5,g6⟩:=Xx hrun hlen hkid (by omega) (by omega) hk0 hp hop1 hol2 ((wi (ns.getD i 0) 8).tmod 5) (by rw[Xw,if_neg (fun h=>hq h.2)]) (a::t) (by rw[if_neg hq]) _ rfl
    refine⟨_,mSt ns (i+1) (X3 fs a.toNat++[⟨nmM i,wi (wr .i64 ((ns.getD i 0).tdiv 8)) 3,(wi (ns.getD i 0) 8).tmod 5,0⟩]) (a::t).length (R),Q1 [2+19*RR+3,1] (by kernel_rfl) ?_ ?_,⟨i+1,_,a::t,_,j1,_,⟨rfl,by omega,g1,g2,rfl,g3,g4,g5,g6,hR1,hj1⟩,rfl⟩,by omega⟩
    ·exact⟨.refl _,Q4 (by rw[g2,hlen]),Q4 rfl,Q3 (by omega),trivial⟩
    ·refine⟨⟨by decide,_,rfl,Q2 ?_ (fF _)⟩,⟨by decide,_,rfl,Q2 ?_ hfR⟩,trivial⟩
     ·show List.take fs.length (List.drop 0 ((fs.map encF).set (0+(asI ((R.getD (0+((↑(t.length+1):Int)-1).toNat) []).getD 0 .any)).toNat) (Qm ((fs.map encF).getD (0+(asI ((R.getD (0+((↑(t.length+1):Int)-1).toNat) []).getD 0 .any)).toNat) []) (0+3) [.int .i64 (asI (((fs.map encF).getD (0+(asI ((R.getD (0+((↑(t.length+1):Int)-1).toNat) []).getD 0 .any)).toNat) []).getD (0+3) .any)+1)])))++[[.str (Xl [[.int .u8 (wr .u8 (97+(i:Int)))]]),.int .i64 (wi (wr .i64 ((ns.getD i 0).tdiv 8)) 3),.int .i64 ((wi (ns.getD i 0) 8).tmod 5),.int .i64 0]]=_
      simp only[hx1,hx2,Qb,Q6]
      rw[hx3,UN i (by omega),show Qm (encF (fs.getD a.toNat default)) (0+3) [.int .i64 (asI ((encF (fs.getD a.toNat default)).getD (0+3) .any)+1)]=[.str (fs.getD a.toNat default).name,.int .i64 (fs.getD a.toNat default).rep,.int .i64 (fs.getD a.toNat default).kind,.int .i64 ((fs.getD a.toNat default).kids+1)] from rfl,Nat.zero_add,Xb (by omega),List.drop_zero,List.take_of_length_le (by simp[Q8])]
      simp[encF]
     ·rfl
   ·have hq:(wi (ns.getD i 0) 8).tmod 5=0:=by assumption
    obtain⟨g1,g2,g3,g4,g5,g6⟩:=Xx hrun hlen hkid (by omega) (by omega) hk0 hp hop1 hol2 ((wi (ns.getD i 0) 8).tmod 5) (by rw[Xw,if_neg (fun h=>by simp only[List.length_cons]at h;omega)]) ((fs.length:Int)::a::t) (by rw[if_pos hq]) _ rfl
    refine⟨_,mSt ns (i+1) (X3 fs a.toNat++[⟨nmM i,wi (wr .i64 ((ns.getD i 0).tdiv 8)) 3,(wi (ns.getD i 0) 8).tmod 5,0⟩]) ((fs.length:Int)::a::t).length (((fs.length:Int)::a::t).reverse.map encI),Q1 [2+19*RR+3,2+19*RR+5] (by kernel_rfl) ?_ ?_,⟨i+1,_,(fs.length:Int)::a::t,_,[],_,⟨rfl,by omega,g1,g2,rfl,g3,g4,g5,g6,by simp,QG⟩,rfl⟩,by omega⟩
    ·exact⟨.refl _,Q4 (by rw[g2,hlen]),Q4 rfl,Q3 (by omega),trivial⟩
    ·refine⟨⟨by decide,_,rfl,Q2 ?_ (fF _)⟩,⟨by decide,_,rfl,Q2 ?_ (fI _)⟩,trivial⟩
     ·show List.take fs.length (List.drop 0 ((fs.map encF).set (0+(asI ((R.getD (0+((↑(t.length+1):Int)-1).toNat) []).getD 0 .any)).toNat) (Qm ((fs.map encF).getD (0+(asI ((R.getD (0+((↑(t.length+1):Int)-1).toNat) []).getD 0 .any)).toNat) []) (0+3) [.int .i64 (asI (((fs.map encF).getD (0+(asI ((R.getD (0+((↑(t.length+1):Int)-1).toNat) []).getD 0 .any)).toNat) []).getD (0+3) .any)+1)])))++[[.str (Xl [[.int .u8 (wr .u8 (97+(i:Int)))]]),.int .i64 (wi (wr .i64 ((ns.getD i 0).tdiv 8)) 3),.int .i64 ((wi (ns.getD i 0) 8).tmod 5),.int .i64 0]]=_
      simp only[hx1,hx2,Qb,Q6]
      rw[hx3,UN i (by omega),show Qm (encF (fs.getD a.toNat default)) (0+3) [.int .i64 (asI ((encF (fs.getD a.toNat default)).getD (0+3) .any)+1)]=[.str (fs.getD a.toNat default).name,.int .i64 (fs.getD a.toNat default).rep,.int .i64 (fs.getD a.toNat default).kind,.int .i64 ((fs.getD a.toNat default).kids+1)] from rfl,Nat.zero_add,Xb (by omega),List.drop_zero,List.take_of_length_le (by simp[Q8])]
      simp[encF]
     ·show List.take (t.length+1) (List.drop 0 R)++[[.int .i64 (↑(fs.length+1)-1)]]=_
      rw[hR1,List.drop_zero,show t.length+1=((a::t).reverse.map encI).length by simp,List.take_left]
      simp[encI]
   ·have hq:¬(wi (ns.getD i 0) 8).tmod 5=0:=by assumption
    obtain⟨g1,g2,g3,g4,g5,g6⟩:=Xx hrun hlen hkid (by omega) (by omega) hk0 hp hop1 hol2 ((wi (ns.getD i 0) 8).tmod 5) (by rw[Xw,if_neg (fun h=>hq h.2)]) (a::t) (by rw[if_neg hq]) _ rfl
    refine⟨_,mSt ns (i+1) (X3 fs a.toNat++[⟨nmM i,wi (wr .i64 ((ns.getD i 0).tdiv 8)) 3,(wi (ns.getD i 0) 8).tmod 5,0⟩]) (a::t).length (R),Q1 [2+19*RR+3,1] (by kernel_rfl) ?_ ?_,⟨i+1,_,a::t,_,j1,_,⟨rfl,by omega,g1,g2,rfl,g3,g4,g5,g6,hR1,hj1⟩,rfl⟩,by omega⟩
    ·exact⟨.refl _,Q4 (by rw[g2,hlen]),Q4 rfl,Q3 (by omega),trivial⟩
    ·refine⟨⟨by decide,_,rfl,Q2 ?_ (fF _)⟩,⟨by decide,_,rfl,Q2 ?_ hfR⟩,trivial⟩
     ·show List.take fs.length (List.drop 0 ((fs.map encF).set (0+(asI ((R.getD (0+((↑(t.length+1):Int)-1).toNat) []).getD 0 .any)).toNat) (Qm ((fs.map encF).getD (0+(asI ((R.getD (0+((↑(t.length+1):Int)-1).toNat) []).getD 0 .any)).toNat) []) (0+3) [.int .i64 (asI (((fs.map encF).getD (0+(asI ((R.getD (0+((↑(t.length+1):Int)-1).toNat) []).getD 0 .any)).toNat) []).getD (0+3) .any)+1)])))++[[.str (Xl [[.int .u8 (wr .u8 (97+(i:Int)))]]),.int .i64 (wi (wr .i64 ((ns.getD i 0).tdiv 8)) 3),.int .i64 ((wi (ns.getD i 0) 8).tmod 5),.int .i64 0]]=_
      simp only[hx1,hx2,Qb,Q6]
      rw[hx3,UN i (by omega),show Qm (encF (fs.getD a.toNat default)) (0+3) [.int .i64 (asI ((encF (fs.getD a.toNat default)).getD (0+3) .any)+1)]=[.str (fs.getD a.toNat default).name,.int .i64 (fs.getD a.toNat default).rep,.int .i64 (fs.getD a.toNat default).kind,.int .i64 ((fs.getD a.toNat default).kids+1)] from rfl,Nat.zero_add,Xb (by omega),List.drop_zero,List.take_of_length_le (by simp[Q8])]
      simp[encF]
     ·rfl
  ·skip
   repeat' first|refine And.intro ?_ ?_|(intro h;try simp only[decide_eq_true_eq,decide_eq_false_iff_not,Int.not_lt,Int.not_le,Int.toNat_natCast,↓reduceIte,Nat.reduceAdd,reduceCtorEq,Int.reduceLT,Int.lt_irrefl,gt_iff_lt,not_true_eq_false,not_false_eq_true,Bool.not_true,Bool.not_false,decide_false,decide_true,Int.reduceLE,Int.reduceSub,Bool.false_eq_true,Bool.true_eq_false,Nat.reduceEqDiff,Nat.one_ne_zero,Nat.reduceLT,and_self,and_true,true_and,Int.natCast_zero,Int.cast_ofNat_Int,List.length_nil,ne_eq,Decidable.not_not,hx1,hx2,hx3,Q6,Qb,Qr,Ql]at h)
   all_goals(try first|exact PlanIs.mk (by kernel_rfl)|omega|exact rfl|exact Nat.le_of_ble_eq_true rfl|(show(_:Int)≤(_:Int);simp only[hx1,hx2,hx3,Q6,Qb,Qr,Ql,Qu,List.length_set,List.length_map,hRl];omega)|(show(_:Int)<(_:Int);simp only[hx1,hx2,hx3,Q6,Qb,Qr,Ql,Qu,List.length_set,List.length_map,hRl];omega)|(show(_:Nat)≤(_:Nat);simp only[hx1,hx2,hx3,Q6,Qb,Qr,Ql,Qu,List.length_set,List.length_map,hRl];omega)|(show isC _ _ _=true;simp only[hx1,hx2,hx3,Q6,Qb,Qr,Ql,Qu,List.length_set,List.length_map,hRl];exact rfl))
   all_goals refine⟨_,8,rfl,by omega,?_⟩
   repeat' first|refine And.intro ?_ ?_|(intro h;try simp only[decide_eq_true_eq,decide_eq_false_iff_not,Int.not_lt,Int.not_le,Int.toNat_natCast,↓reduceIte,Nat.reduceAdd,reduceCtorEq,Int.reduceLT,Int.lt_irrefl,gt_iff_lt,not_true_eq_false,not_false_eq_true,Bool.not_true,Bool.not_false,decide_false,decide_true,Int.reduceLE,Int.reduceSub,Bool.false_eq_true,Bool.true_eq_false,Nat.reduceEqDiff,Nat.one_ne_zero,Nat.reduceLT,and_self,and_true,true_and,Int.natCast_zero,Int.cast_ofNat_Int,List.length_nil,ne_eq,Decidable.not_not,hx1,hx2,hx3,Q6,Qb,Qr,Ql]at h)
   all_goals(try first|exact PlanIs.mk (by kernel_rfl)|omega|exact rfl|exact Nat.le_of_ble_eq_true rfl|(show(_:Int)≤(_:Int);simp only[hx1,hx2,hx3,Q6,Qb,Qr,Ql,Qu,List.length_set,List.length_map,hRl];omega)|(show(_:Int)<(_:Int);simp only[hx1,hx2,hx3,Q6,Qb,Qr,Ql,Qu,List.length_set,List.length_map,hRl];omega)|(show(_:Nat)≤(_:Nat);simp only[hx1,hx2,hx3,Q6,Qb,Qr,Ql,Qu,List.length_set,List.length_map,hRl];omega)|(show isC _ _ _=true;simp only[hx1,hx2,hx3,Q6,Qb,Qr,Ql,Qu,List.length_set,List.length_map,hRl];exact rfl))
   ·have hq:(wi (ns.getD i 0) 8).tmod 5=0:=by first|assumption|exact of_decide_eq_true (by assumption)
    obtain⟨g1,g2,g3,g4,g5,g6⟩:=Xx hrun hlen hkid (by omega) (by omega) hk0 hp hop1 hol2 ((wi (ns.getD i 0) 8).tmod 5) (by rw[Xw,if_neg (fun h=>by simp only[List.length_cons]at h;omega)]) ((fs.length:Int)::a::t) (by rw[if_pos hq]) _ rfl
    refine⟨_,mSt ns (i+1) (X3 fs a.toNat++[⟨nmM i,wi (wr .i64 ((ns.getD i 0).tdiv 8)) 3,(wi (ns.getD i 0) 8).tmod 5,0⟩]) ((fs.length:Int)::a::t).length (((fs.length:Int)::a::t).reverse.map encI),Q1 [2+19*RR+3,2+19*RR+5] (by kernel_rfl) ?_ ?_,⟨i+1,_,(fs.length:Int)::a::t,_,[],_,⟨rfl,by omega,g1,g2,rfl,g3,g4,g5,g6,by simp,QG⟩,rfl⟩,by omega⟩
    ·exact⟨.refl _,Q4 (by rw[g2,hlen]),Q4 rfl,Q3 (by omega),trivial⟩
    ·refine⟨⟨by decide,_,rfl,Q2 ?_ (fF _)⟩,⟨by decide,_,rfl,Q2 ?_ (fI _)⟩,trivial⟩
     ·show List.take fs.length (List.drop 0 ((fs.map encF).set (0+(asI ((R.getD (0+((↑(t.length+1):Int)-1).toNat) []).getD 0 .any)).toNat) (Qm ((fs.map encF).getD (0+(asI ((R.getD (0+((↑(t.length+1):Int)-1).toNat) []).getD 0 .any)).toNat) []) (0+3) [.int .i64 (asI (((fs.map encF).getD (0+(asI ((R.getD (0+((↑(t.length+1):Int)-1).toNat) []).getD 0 .any)).toNat) []).getD (0+3) .any)+1)])))++[[.str (Xl [[.int .u8 (wr .u8 (97+(i:Int)))]]),.int .i64 (wi (wr .i64 ((ns.getD i 0).tdiv 8)) 3),.int .i64 ((wi (ns.getD i 0) 8).tmod 5),.int .i64 0]]=_
      simp only[hx1,hx2,Qb,Q6]
      rw[hx3,UN i (by omega),show Qm (encF (fs.getD a.toNat default)) (0+3) [.int .i64 (asI ((encF (fs.getD a.toNat default)).getD (0+3) .any)+1)]=[.str (fs.getD a.toNat default).name,.int .i64 (fs.getD a.toNat default).rep,.int .i64 (fs.getD a.toNat default).kind,.int .i64 ((fs.getD a.toNat default).kids+1)] from rfl,Nat.zero_add,Xb (by omega),List.drop_zero,List.take_of_length_le (by simp[Q8])]
      simp[encF]
     ·show List.take (t.length+1) (List.drop 0 R)++[[.int .i64 (↑(fs.length+1)-1)]]=_
      rw[hR1,List.drop_zero,show t.length+1=((a::t).reverse.map encI).length by simp,List.take_left]
      simp[encI]
   ·have hq:¬(wi (ns.getD i 0) 8).tmod 5=0:=by first|assumption|exact of_decide_eq_false (by assumption)|exact fun h=>absurd (decide_eq_true h) (by assumption)
    obtain⟨g1,g2,g3,g4,g5,g6⟩:=Xx hrun hlen hkid (by omega) (by omega) hk0 hp hop1 hol2 ((wi (ns.getD i 0) 8).tmod 5) (by rw[Xw,if_neg (fun h=>hq h.2)]) (a::t) (by rw[if_neg hq]) _ rfl
    refine⟨_,mSt ns (i+1) (X3 fs a.toNat++[⟨nmM i,wi (wr .i64 ((ns.getD i 0).tdiv 8)) 3,(wi (ns.getD i 0) 8).tmod 5,0⟩]) (a::t).length (R),Q1 [2+19*RR+3,1] (by kernel_rfl) ?_ ?_,⟨i+1,_,a::t,_,j1,_,⟨rfl,by omega,g1,g2,rfl,g3,g4,g5,g6,hR1,hj1⟩,rfl⟩,by omega⟩
    ·exact⟨.refl _,Q4 (by rw[g2,hlen]),Q4 rfl,Q3 (by omega),trivial⟩
    ·refine⟨⟨by decide,_,rfl,Q2 ?_ (fF _)⟩,⟨by decide,_,rfl,Q2 ?_ hfR⟩,trivial⟩
     ·show List.take fs.length (List.drop 0 ((fs.map encF).set (0+(asI ((R.getD (0+((↑(t.length+1):Int)-1).toNat) []).getD 0 .any)).toNat) (Qm ((fs.map encF).getD (0+(asI ((R.getD (0+((↑(t.length+1):Int)-1).toNat) []).getD 0 .any)).toNat) []) (0+3) [.int .i64 (asI (((fs.map encF).getD (0+(asI ((R.getD (0+((↑(t.length+1):Int)-1).toNat) []).getD 0 .any)).toNat) []).getD (0+3) .any)+1)])))++[[.str (Xl [[.int .u8 (wr .u8 (97+(i:Int)))]]),.int .i64 (wi (wr .i64 ((ns.getD i 0).tdiv 8)) 3),.int .i64 ((wi (ns.getD i 0) 8).tmod 5),.int .i64 0]]=_
      simp only[hx1,hx2,Qb,Q6]
      rw[hx3,UN i (by omega),show Qm (encF (fs.getD a.toNat default)) (0+3) [.int .i64 (asI ((encF (fs.getD a.toNat default)).getD (0+3) .any)+1)]=[.str (fs.getD a.toNat default).name,.int .i64 (fs.getD a.toNat default).rep,.int .i64 (fs.getD a.toNat default).kind,.int .i64 ((fs.getD a.toNat default).kids+1)] from rfl,Nat.zero_add,Xb (by omega),List.drop_zero,List.take_of_length_le (by simp[Q8])]
      simp[encF]
     ·rfl
  ·skip
   repeat' first|refine And.intro ?_ ?_|(intro h;try simp only[decide_eq_true_eq,decide_eq_false_iff_not,Int.not_lt,Int.not_le,Int.toNat_natCast,↓reduceIte,Nat.reduceAdd,reduceCtorEq,Int.reduceLT,Int.lt_irrefl,gt_iff_lt,not_true_eq_false,not_false_eq_true,Bool.not_true,Bool.not_false,decide_false,decide_true,Int.reduceLE,Int.reduceSub,Bool.false_eq_true,Bool.true_eq_false,Nat.reduceEqDiff,Nat.one_ne_zero,Nat.reduceLT,and_self,and_true,true_and,Int.natCast_zero,Int.cast_ofNat_Int,List.length_nil,ne_eq,Decidable.not_not,hx1,hx2,hx3,Q6,Qb,Qr,Ql]at h)
   all_goals(try first|exact PlanIs.mk (by kernel_rfl)|omega|exact rfl|exact Nat.le_of_ble_eq_true rfl|(show(_:Int)≤(_:Int);simp only[hx1,hx2,hx3,Q6,Qb,Qr,Ql,Qu,List.length_set,List.length_map,hRl];omega)|(show(_:Int)<(_:Int);simp only[hx1,hx2,hx3,Q6,Qb,Qr,Ql,Qu,List.length_set,List.length_map,hRl];omega)|(show(_:Nat)≤(_:Nat);simp only[hx1,hx2,hx3,Q6,Qb,Qr,Ql,Qu,List.length_set,List.length_map,hRl];omega)|(show isC _ _ _=true;simp only[hx1,hx2,hx3,Q6,Qb,Qr,Ql,Qu,List.length_set,List.length_map,hRl];exact rfl))
   all_goals refine⟨_,8,rfl,by omega,?_⟩
   repeat' first|refine And.intro ?_ ?_|(intro h;try simp only[decide_eq_true_eq,decide_eq_false_iff_not,Int.not_lt,Int.not_le,Int.toNat_natCast,↓reduceIte,Nat.reduceAdd,reduceCtorEq,Int.reduceLT,Int.lt_irrefl,gt_iff_lt,not_true_eq_false,not_false_eq_true,Bool.not_true,Bool.not_false,decide_false,decide_true,Int.reduceLE,Int.reduceSub,Bool.false_eq_true,Bool.true_eq_false,Nat.reduceEqDiff,Nat.one_ne_zero,Nat.reduceLT,and_self,and_true,true_and,Int.natCast_zero,Int.cast_ofNat_Int,List.length_nil,ne_eq,Decidable.not_not,hx1,hx2,hx3,Q6,Qb,Qr,Ql]at h)
   all_goals(try first|exact PlanIs.mk (by kernel_rfl)|omega|exact rfl|exact Nat.le_of_ble_eq_true rfl|(show(_:Int)≤(_:Int);simp only[hx1,hx2,hx3,Q6,Qb,Qr,Ql,Qu,List.length_set,List.length_map,hRl];omega)|(show(_:Int)<(_:Int);simp only[hx1,hx2,hx3,Q6,Qb,Qr,Ql,Qu,List.length_set,List.length_map,hRl];omega)|(show(_:Nat)≤(_:Nat);simp only[hx1,hx2,hx3,Q6,Qb,Qr,Ql,Qu,List.length_set,List.length_map,hRl];omega)|(show isC _ _ _=true;simp only[hx1,hx2,hx3,Q6,Qb,Qr,Ql,Qu,List.length_set,List.length_map,hRl];exact rfl))
   ·exact absurd (show(2:Int)=0 from by assumption) (by decide)
   ·have hq:(wi (ns.getD i 0) 8).tmod 5=0:=by first|assumption|exact of_decide_eq_true (by assumption)
    obtain⟨g1,g2,g3,g4,g5,g6⟩:=Xx hrun hlen hkid (by omega) (by omega) hk0 hp hop1 hol2 2 (by rw[Xw,if_pos ⟨by rw[List.length_cons];omega,hq⟩]) (a::t) (by first|rfl|(rw[if_neg ‹_›])) _ rfl
    refine⟨_,mSt ns (i+1) (X3 fs a.toNat++[⟨nmM i,wi (wr .i64 ((ns.getD i 0).tdiv 8)) 3,2,0⟩]) (a::t).length (R),Q1 [2+19*RR+4,1] (by kernel_rfl) ?_ ?_,⟨i+1,_,a::t,_,j1,_,⟨rfl,by omega,g1,g2,rfl,g3,g4,g5,g6,hR1,hj1⟩,rfl⟩,by omega⟩
    ·exact⟨.refl _,Q4 (by rw[g2,hlen]),Q4 rfl,Q3 (by omega),trivial⟩
    ·refine⟨⟨by decide,_,rfl,Q2 ?_ (fF _)⟩,⟨by decide,_,rfl,Q2 ?_ hfR⟩,trivial⟩
     ·show List.take fs.length (List.drop 0 ((fs.map encF).set (0+(asI ((R.getD (0+((↑(t.length+1):Int)-1).toNat) []).getD 0 .any)).toNat) (Qm ((fs.map encF).getD (0+(asI ((R.getD (0+((↑(t.length+1):Int)-1).toNat) []).getD 0 .any)).toNat) []) (0+3) [.int .i64 (asI (((fs.map encF).getD (0+(asI ((R.getD (0+((↑(t.length+1):Int)-1).toNat) []).getD 0 .any)).toNat) []).getD (0+3) .any)+1)])))++[[.str (Xl [[.int .u8 (wr .u8 (97+(i:Int)))]]),.int .i64 (wi (wr .i64 ((ns.getD i 0).tdiv 8)) 3),.int .i64 (2),.int .i64 0]]=_
      simp only[hx1,hx2,Qb,Q6]
      rw[hx3,UN i (by omega),show Qm (encF (fs.getD a.toNat default)) (0+3) [.int .i64 (asI ((encF (fs.getD a.toNat default)).getD (0+3) .any)+1)]=[.str (fs.getD a.toNat default).name,.int .i64 (fs.getD a.toNat default).rep,.int .i64 (fs.getD a.toNat default).kind,.int .i64 ((fs.getD a.toNat default).kids+1)] from rfl,Nat.zero_add,Xb (by omega),List.drop_zero,List.take_of_length_le (by simp[Q8])]
      simp[encF]
     ·rfl
   ·exact absurd (of_decide_eq_true (p:=(wi (ns.getD i 0) 8).tmod 5=0) (by assumption)) (of_decide_eq_false (p:=(wi (ns.getD i 0) 8).tmod 5=0) (by assumption))
   ·have hq:¬(wi (ns.getD i 0) 8).tmod 5=0:=by first|assumption|exact of_decide_eq_false (by assumption)|exact fun h=>absurd (decide_eq_true h) (by assumption)
    obtain⟨g1,g2,g3,g4,g5,g6⟩:=Xx hrun hlen hkid (by omega) (by omega) hk0 hp hop1 hol2 ((wi (ns.getD i 0) 8).tmod 5) (by rw[Xw,if_neg (fun h=>hq h.2)]) (a::t) (by rw[if_neg hq]) _ rfl
    refine⟨_,mSt ns (i+1) (X3 fs a.toNat++[⟨nmM i,wi (wr .i64 ((ns.getD i 0).tdiv 8)) 3,(wi (ns.getD i 0) 8).tmod 5,0⟩]) (a::t).length (R),Q1 [2+19*RR+3,1] (by kernel_rfl) ?_ ?_,⟨i+1,_,a::t,_,j1,_,⟨rfl,by omega,g1,g2,rfl,g3,g4,g5,g6,hR1,hj1⟩,rfl⟩,by omega⟩
    ·exact⟨.refl _,Q4 (by rw[g2,hlen]),Q4 rfl,Q3 (by omega),trivial⟩
    ·refine⟨⟨by decide,_,rfl,Q2 ?_ (fF _)⟩,⟨by decide,_,rfl,Q2 ?_ hfR⟩,trivial⟩
     ·show List.take fs.length (List.drop 0 ((fs.map encF).set (0+(asI ((R.getD (0+((↑(t.length+1):Int)-1).toNat) []).getD 0 .any)).toNat) (Qm ((fs.map encF).getD (0+(asI ((R.getD (0+((↑(t.length+1):Int)-1).toNat) []).getD 0 .any)).toNat) []) (0+3) [.int .i64 (asI (((fs.map encF).getD (0+(asI ((R.getD (0+((↑(t.length+1):Int)-1).toNat) []).getD 0 .any)).toNat) []).getD (0+3) .any)+1)])))++[[.str (Xl [[.int .u8 (wr .u8 (97+(i:Int)))]]),.int .i64 (wi (wr .i64 ((ns.getD i 0).tdiv 8)) 3),.int .i64 ((wi (ns.getD i 0) 8).tmod 5),.int .i64 0]]=_
      simp only[hx1,hx2,Qb,Q6]
      rw[hx3,UN i (by omega),show Qm (encF (fs.getD a.toNat default)) (0+3) [.int .i64 (asI ((encF (fs.getD a.toNat default)).getD (0+3) .any)+1)]=[.str (fs.getD a.toNat default).name,.int .i64 (fs.getD a.toNat default).rep,.int .i64 (fs.getD a.toNat default).kind,.int .i64 ((fs.getD a.toNat default).kids+1)] from rfl,Nat.zero_add,Xb (by omega),List.drop_zero,List.take_of_length_le (by simp[Q8])]
      simp[encF]
     ·rfl
   ·have hq:(wi (ns.getD i 0) 8).tmod 5=0:=by first|assumption|exact of_decide_eq_true (by assumption)
    obtain⟨g1,g2,g3,g4,g5,g6⟩:=Xx hrun hlen hkid (by omega) (by omega) hk0 hp hop1 hol2 ((wi (ns.getD i 0) 8).tmod 5) (by rw[Xw,if_neg (fun h=>by simp only[List.length_cons]at h;omega)]) ((fs.length:Int)::a::t) (by rw[if_pos hq]) _ rfl
    refine⟨_,mSt ns (i+1) (X3 fs a.toNat++[⟨nmM i,wi (wr .i64 ((ns.getD i 0).tdiv 8)) 3,(wi (ns.getD i 0) 8).tmod 5,0⟩]) ((fs.length:Int)::a::t).length (((fs.length:Int)::a::t).reverse.map encI),Q1 [2+19*RR+3,2+19*RR+5] (by kernel_rfl) ?_ ?_,⟨i+1,_,(fs.length:Int)::a::t,_,[],_,⟨rfl,by omega,g1,g2,rfl,g3,g4,g5,g6,by simp,QG⟩,rfl⟩,by omega⟩
    ·exact⟨.refl _,Q4 (by rw[g2,hlen]),Q4 rfl,Q3 (by omega),trivial⟩
    ·refine⟨⟨by decide,_,rfl,Q2 ?_ (fF _)⟩,⟨by decide,_,rfl,Q2 ?_ (fI _)⟩,trivial⟩
     ·show List.take fs.length (List.drop 0 ((fs.map encF).set (0+(asI ((R.getD (0+((↑(t.length+1):Int)-1).toNat) []).getD 0 .any)).toNat) (Qm ((fs.map encF).getD (0+(asI ((R.getD (0+((↑(t.length+1):Int)-1).toNat) []).getD 0 .any)).toNat) []) (0+3) [.int .i64 (asI (((fs.map encF).getD (0+(asI ((R.getD (0+((↑(t.length+1):Int)-1).toNat) []).getD 0 .any)).toNat) []).getD (0+3) .any)+1)])))++[[.str (Xl [[.int .u8 (wr .u8 (97+(i:Int)))]]),.int .i64 (wi (wr .i64 ((ns.getD i 0).tdiv 8)) 3),.int .i64 ((wi (ns.getD i 0) 8).tmod 5),.int .i64 0]]=_
      simp only[hx1,hx2,Qb,Q6]
      rw[hx3,UN i (by omega),show Qm (encF (fs.getD a.toNat default)) (0+3) [.int .i64 (asI ((encF (fs.getD a.toNat default)).getD (0+3) .any)+1)]=[.str (fs.getD a.toNat default).name,.int .i64 (fs.getD a.toNat default).rep,.int .i64 (fs.getD a.toNat default).kind,.int .i64 ((fs.getD a.toNat default).kids+1)] from rfl,Nat.zero_add,Xb (by omega),List.drop_zero,List.take_of_length_le (by simp[Q8])]
      simp[encF]
     ·show List.take (t.length+1) (List.drop 0 R)++[[.int .i64 (↑(fs.length+1)-1)]]=_
      rw[hR1,List.drop_zero,show t.length+1=((a::t).reverse.map encI).length by simp,List.take_left]
      simp[encI]
   ·have hq:¬(wi (ns.getD i 0) 8).tmod 5=0:=by first|assumption|exact of_decide_eq_false (by assumption)|exact fun h=>absurd (decide_eq_true h) (by assumption)
    obtain⟨g1,g2,g3,g4,g5,g6⟩:=Xx hrun hlen hkid (by omega) (by omega) hk0 hp hop1 hol2 ((wi (ns.getD i 0) 8).tmod 5) (by rw[Xw,if_neg (fun h=>hq h.2)]) (a::t) (by rw[if_neg hq]) _ rfl
    refine⟨_,mSt ns (i+1) (X3 fs a.toNat++[⟨nmM i,wi (wr .i64 ((ns.getD i 0).tdiv 8)) 3,(wi (ns.getD i 0) 8).tmod 5,0⟩]) (a::t).length (R),Q1 [2+19*RR+3,1] (by kernel_rfl) ?_ ?_,⟨i+1,_,a::t,_,j1,_,⟨rfl,by omega,g1,g2,rfl,g3,g4,g5,g6,hR1,hj1⟩,rfl⟩,by omega⟩
    ·exact⟨.refl _,Q4 (by rw[g2,hlen]),Q4 rfl,Q3 (by omega),trivial⟩
    ·refine⟨⟨by decide,_,rfl,Q2 ?_ (fF _)⟩,⟨by decide,_,rfl,Q2 ?_ hfR⟩,trivial⟩
     ·show List.take fs.length (List.drop 0 ((fs.map encF).set (0+(asI ((R.getD (0+((↑(t.length+1):Int)-1).toNat) []).getD 0 .any)).toNat) (Qm ((fs.map encF).getD (0+(asI ((R.getD (0+((↑(t.length+1):Int)-1).toNat) []).getD 0 .any)).toNat) []) (0+3) [.int .i64 (asI (((fs.map encF).getD (0+(asI ((R.getD (0+((↑(t.length+1):Int)-1).toNat) []).getD 0 .any)).toNat) []).getD (0+3) .any)+1)])))++[[.str (Xl [[.int .u8 (wr .u8 (97+(i:Int)))]]),.int .i64 (wi (wr .i64 ((ns.getD i 0).tdiv 8)) 3),.int .i64 ((wi (ns.getD i 0) 8).tmod 5),.int .i64 0]]=_
      simp only[hx1,hx2,Qb,Q6]
      rw[hx3,UN i (by omega),show Qm (encF (fs.getD a.toNat default)) (0+3) [.int .i64 (asI ((encF (fs.getD a.toNat default)).getD (0+3) .any)+1)]=[.str (fs.getD a.toNat default).name,.int .i64 (fs.getD a.toNat default).rep,.int .i64 (fs.getD a.toNat default).kind,.int .i64 ((fs.getD a.toNat default).kids+1)] from rfl,Nat.zero_add,Xb (by omega),List.drop_zero,List.take_of_length_le (by simp[Q8])]
      simp[encF]
     ·rfl
 ·have hend:Q7 ns=Y4 fs op:=by rw[Q7,←hrun,Uq (by omega)]
  have h0:(fs.getD (ZJ op).toNat default).kids=0:=by assumption
  have hE:Y4 fs op=X3 fs (ZJ op).toNat++[⟨[122],0,4,0⟩]:=by rw[Y4,if_pos h0]
  have hl:(Y4 fs op).length=fs.length+1:=by rw[hE];simp[Q8]
  have heq:List.take fs.length (List.drop 0 ((fs.map encF).set (0+(asI ((R.getD (0+((↑op.length:Int)-1).toNat) []).getD 0 .any)).toNat) (Qm ((fs.map encF).getD (0+(asI ((R.getD (0+((↑op.length:Int)-1).toNat) []).getD 0 .any)).toNat) []) (0+3) [.int .i64 (asI (((fs.map encF).getD (0+(asI ((R.getD (0+((↑op.length:Int)-1).toNat) []).getD 0 .any)).toNat) []).getD (0+3) .any)+1)])))++[[.str [122],.int .i64 0,.int .i64 4,.int .i64 0]]=(Y4 fs op).map encF:=by
   rw[hE,hx2]
   simp only[Qb,Q6]
   rw[hx3,show Qm (encF (fs.getD (ZJ op).toNat default)) (0+3) [.int .i64 (asI ((encF (fs.getD (ZJ op).toNat default)).getD (0+3) .any)+1)]=[.str (fs.getD (ZJ op).toNat default).name,.int .i64 (fs.getD (ZJ op).toNat default).rep,.int .i64 (fs.getD (ZJ op).toNat default).kind,.int .i64 ((fs.getD (ZJ op).toNat default).kids+1)] from rfl,Nat.zero_add,Xb (by omega),List.drop_zero,List.take_of_length_le (by simp[Q8])]
   simp[encF]
  refine⟨_,XD (enc:=encF) (k:=2) (rows:=List.take fs.length (List.drop 0 ((fs.map encF).set (0+(asI ((R.getD (0+((↑op.length:Int)-1).toNat) []).getD 0 .any)).toNat) (Qm ((fs.map encF).getD (0+(asI ((R.getD (0+((↑op.length:Int)-1).toNat) []).getD 0 .any)).toNat) []) (0+3) [.int .i64 (asI (((fs.map encF).getD (0+(asI ((R.getD (0+((↑op.length:Int)-1).toNat) []).getD 0 .any)).toNat) []).getD (0+3) .any)+1)])))++[[.str [122],.int .i64 0,.int .i64 4,.int .i64 0]]) default (l:=Y4 fs op) rfl rfl (by rw[heq];exact fF _) ?_ ?_,_,rfl,?_,rfl⟩
  ·rw[heq];show List.take (fs.length+1) _=_;exact List.take_of_length_le (by simp[hl])
  ·rw[heq];show fs.length+1≤_;simp[hl]
  ·rw[hend];rfl
 ·have hend:Q7 ns=Y4 fs op:=by rw[Q7,←hrun,Uq (by omega)]
  have h0:¬(fs.getD (ZJ op).toNat default).kids=0:=by assumption
  have hE:Y4 fs op=fs:=by rw[Y4,if_neg h0]
  refine⟨_,XD (enc:=encF) (k:=2) (rows:=fs.map encF) default (l:=fs) rfl rfl (fF fs) ?_ ?_,_,rfl,?_,rfl⟩
  ·show List.take fs.length _=_;exact List.take_of_length_le (by simp)
  ·show fs.length≤_;simp
  ·rw[hend,hE];rfl
 ·have hend:Q7 ns=Y4 fs op:=by rw[Q7,←hrun,Uq (by omega)]
  have h0:(fs.getD (ZJ op).toNat default).kids=0:=by assumption
  have hE:Y4 fs op=X3 fs (ZJ op).toNat++[⟨[122],0,4,0⟩]:=by rw[Y4,if_pos h0]
  have hl:(Y4 fs op).length=fs.length+1:=by rw[hE];simp[Q8]
  have heq:List.take fs.length (List.drop 0 ((fs.map encF).set (0+(asI ((R.getD (0+((↑op.length:Int)-1).toNat) []).getD 0 .any)).toNat) (Qm ((fs.map encF).getD (0+(asI ((R.getD (0+((↑op.length:Int)-1).toNat) []).getD 0 .any)).toNat) []) (0+3) [.int .i64 (asI (((fs.map encF).getD (0+(asI ((R.getD (0+((↑op.length:Int)-1).toNat) []).getD 0 .any)).toNat) []).getD (0+3) .any)+1)])))++[[.str [122],.int .i64 0,.int .i64 4,.int .i64 0]]=(Y4 fs op).map encF:=by
   rw[hE,hx2]
   simp only[Qb,Q6]
   rw[hx3,show Qm (encF (fs.getD (ZJ op).toNat default)) (0+3) [.int .i64 (asI ((encF (fs.getD (ZJ op).toNat default)).getD (0+3) .any)+1)]=[.str (fs.getD (ZJ op).toNat default).name,.int .i64 (fs.getD (ZJ op).toNat default).rep,.int .i64 (fs.getD (ZJ op).toNat default).kind,.int .i64 ((fs.getD (ZJ op).toNat default).kids+1)] from rfl,Nat.zero_add,Xb (by omega),List.drop_zero,List.take_of_length_le (by simp[Q8])]
   simp[encF]
  refine⟨_,XD (enc:=encF) (k:=2) (rows:=List.take fs.length (List.drop 0 ((fs.map encF).set (0+(asI ((R.getD (0+((↑op.length:Int)-1).toNat) []).getD 0 .any)).toNat) (Qm ((fs.map encF).getD (0+(asI ((R.getD (0+((↑op.length:Int)-1).toNat) []).getD 0 .any)).toNat) []) (0+3) [.int .i64 (asI (((fs.map encF).getD (0+(asI ((R.getD (0+((↑op.length:Int)-1).toNat) []).getD 0 .any)).toNat) []).getD (0+3) .any)+1)])))++[[.str [122],.int .i64 0,.int .i64 4,.int .i64 0]]) default (l:=Y4 fs op) rfl rfl (by rw[heq];exact fF _) ?_ ?_,_,rfl,?_,rfl⟩
  ·rw[heq];show List.take (fs.length+1) _=_;exact List.take_of_length_le (by simp[hl])
  ·rw[heq];show fs.length+1≤_;simp[hl]
  ·rw[hend];rfl
 ·have hend:Q7 ns=Y4 fs op:=by rw[Q7,←hrun,Uq (by omega)]
  have h0:¬(fs.getD (ZJ op).toNat default).kids=0:=by assumption
  have hE:Y4 fs op=fs:=by rw[Y4,if_neg h0]
  refine⟨_,XD (enc:=encF) (k:=2) (rows:=fs.map encF) default (l:=fs) rfl rfl (fF fs) ?_ ?_,_,rfl,?_,rfl⟩
  ·show List.take fs.length _=_;exact List.take_of_length_le (by simp)
  ·show fs.length≤_;simp
  ·rw[hend,hE];rfl
end
end Go.Proofs.Ytcpikannlnmafaa
