/-
  What is asked,looked at. The program's (query.asks). A value of a kind,of a raw one. The statements' (chapter 11).
-/
import Derived.Test.YtekipcaifckffaaGreatL7
import Derived.Test.YtekipcaifckffaaGreatL9
import Derived.Test.YtekipcaifckffaaGreatL10
import Derived.Test.YtekipcaifckffaaGreatL5
set_option linter.unusedVariables false
set_option linter.unusedSimpArgs false
namespace Go.Proofs.YtekipcaifckffaaGreat
open Go Go.Av
section
set_option maxRecDepth 100000
set_option maxHeartbeats 4000000
structure Cd where
 path:List UInt8
 op:Int
 v:Vl
 deriving Inhabited
def encC(c:Cd):List AVal:=[.str c.path,.int .i64 c.op]++ZT c.v
abbrev vC(cs:List Cd):AVal:=vT 4 encC default cs
def Xk(fs:List Fd)(c:Cd):Lf:=(Q3 fs).getD (Xp fs c.path).toNat default
def Zj(fs:List Fd)(c:Cd):Int:=
 if Xp fs c.path<0 then 2 else if 0<(Xk fs c).r∨c.op<0∨5<c.op∨(c.op≠5∧ZX (Xk fs c).kind c.v.n c.v.s=false)then 3 else 0
def Uj(fs:List Fd)(c:Cd):Ask:=⟨Xp fs c.path,Xk fs c,Vy fs c.path,c.path,c.op,c.v⟩
def Xc(fs:List Fd):List Cd→Int
 |[]=>0
 |c::t=>if Zj fs c=0 then Xc fs t else Zj fs c
def Z0(fs:List Fd)(cs:List Cd):Int:=if 8<cs.length then 4 else Xc fs cs
def Y5(fs:List Fd)(cs:List Cd):List Ask:=if Z0 fs cs=0 then cs.map (Uj fs)else[]
structure QOk(fs:List Fd):Prop where
 ok:FsOk fs
 pos:0<fs.length
 kind:∀k,k<(Q3 fs).length→((Q3 fs).getD k default).kind≠0
 path:∀k,k<(Q3 fs).length→(X7 fs k).length≤1000∧ ∀j,j<(X7 fs k).length→((X7 fs k).getD j 0).toNat<128
theorem Ld{fs:List Fd}{p:List UInt8}:∀{n:Nat},n≤(Q3 fs).length→0≤ixP fs p n→ ∃k,k<(Q3 fs).length∧ixP fs p n=(k:Int)∧X7 fs k=p
 |0,_,h=>absurd h (by show ¬(0:Int)≤ -1;decide)
 |n+1,hn,h=>by
  rw[ixP]at h ⊢
  by_cases hp:X7 fs ((Q3 fs).length-(n+1))=p
  ·rw[if_pos hp]
   exact⟨_,by omega,rfl,hp⟩
  ·rw[if_neg hp]at h ⊢
   exact Ld (by omega) h
theorem Wg{fs:List Fd}{p:List UInt8}(h:0≤Xp fs p):∃k,k<(Q3 fs).length∧Xp fs p=(k:Int)∧X7 fs k=p:=Ld (Nat.le_refl _) h
theorem fA(l:List Ask):Ql (l.map encA):=Xo (fun a x hx=>by simp[encA,QT,ZT]at hx;rcases hx with rfl|rfl|rfl|rfl|rfl|rfl|rfl|rfl|rfl|rfl<;>rfl) l
theorem gA(l:List Ask)(x:Ask):List.take l.length (List.drop 0 (l.map encA))++[encA x]=(l++[x]).map encA:=by
 rw[List.drop_zero,List.take_of_length_le (by simp),List.map_append];rfl
abbrev fnA(fs:List Fd):AVal:=.func 45 [.vp [rLs (Q3 fs)] 0,.vp [rFs fs] 0]
def akS(fs:List Fd)(cs:List Cd)(i:Nat)(e:Int)(out:List Ask):St:=⟨[(2,.vp [rFs fs] 0),(4,XU 0 10 out),(5,.int .i64 e),(6,.vp [rLs (Q3 fs)] 0),(7,fnA fs),(17,vC cs),(18,.int .i64 cs.length),(19,.int .i64 i)],[(0,Xy encA out)],1⟩
abbrev Ou:CallT:=Qm 49 (Zd S_sound) (Qm 50 (Zd (MC S_way)) Qi)
theorem LV[Syms]:Ou.det Tryz.prog:=Zk DW (Zk Ik.see Qd)
theorem Ot[Syms]:Ou.ok Tryz.prog:=Q6 DW (Q6 Ik.see Qh)
abbrev cAk:CallT:=Qm 44 (Zd S_leaves) (Qm 45 (Zd S_find) Ou)
theorem Rl[Syms]:cAk.ok Tryz.prog:=Q6 HC (Q6 NV Ot)
theorem RJ(fs:List Fd):SeeV (vF fs) (rFs fs):=.un _ _ _ _ (Qj encF default fs).symm
theorem RI(l:List Lf):SeeV (vL l) (rLs l):=.un _ _ _ _ (Qj QT default l).symm
theorem Rx[Syms]{N nx:Nat}{e:Env}{H:Heap}{fs:List Fd}{cs:List Cd}(he:Mx (rho [0,1] nx) e [(2,.ptr 0 0 0),(4,.nils),(5,.int .i64 4),(6,.ptr 1 0 0),(7,.func 45 [.ptr 1 0 0,.ptr 0 0 0]),(17,vC cs),(18,.int .i64 cs.length),(19,.int .i64 (0:Nat))])
 (hn:Vp 0 nx [0,1]=true) (h0:H.get 0=some (.cells [[vF fs]] false)) (h1:H.get 1=some (.cells [[vL (Q3 fs)]] false)):Reb 0 N ⟨e,H,nx⟩ (akS fs cs 0 4 []):=by
 have f1:∀v:AVal,v.flat=true→ ∀q∈[[v]],∀y∈q,y.flat=true:=fun v hv q hq y hy=>by simp at hq;subst hq;simp at hy;subst hy;exact hv
 refine Reb.trans (Q1 (H3:=[(0,some (.cells [[vF fs]] false)),(1,some (.cells [[vL (Q3 fs)]] false))]) [0,1] hn he ⟨⟨by decide,_,h0,Qp (f1 _ rfl)⟩,⟨by decide,_,h1,Qp (f1 _ rfl)⟩,trivial⟩) ?_
 refine Reb.trans (s':=⟨[(2,.vp [rFs fs] 0),(4,.nils),(5,.int .i64 4),(6,.ptr 1 0 0),(7,.func 45 [.ptr 1 0 0,.vp [rFs fs] 0]),(17,vC cs),(18,.int .i64 cs.length),(19,.int .i64 (0:Nat))],[(1,some (.cells [[vL (Q3 fs)]] false))],2⟩) (QV (n:=0) (rows:=[[vF fs]]) rfl (f1 _ rfl) ⟨.pt 0 0 [vF fs] [rFs fs] rfl ⟨RJ fs,trivial⟩,.same _,.same _,.same _,.func ⟨.same _,.pt 0 0 [vF fs] [rFs fs] rfl ⟨RJ fs,trivial⟩,trivial⟩,.same _,.same _,.same _,trivial⟩ ⟨⟨by decide,_,rfl,.same _⟩,trivial⟩) ?_
 refine Reb.trans (s':=⟨[(2,.vp [rFs fs] 0),(4,.nils),(5,.int .i64 4),(6,.vp [rLs (Q3 fs)] 0),(7,fnA fs),(17,vC cs),(18,.int .i64 cs.length),(19,.int .i64 (0:Nat))],[],2⟩) (QV (n:=1) (rows:=[[vL (Q3 fs)]]) rfl (f1 _ rfl) ⟨.same _,.same _,.same _,.pt 0 0 [vL (Q3 fs)] [rLs (Q3 fs)] rfl ⟨RI _,trivial⟩,.func ⟨.pt 0 0 [vL (Q3 fs)] [rLs (Q3 fs)] rfl ⟨RI _,trivial⟩,.same _,trivial⟩,.same _,.same _,.same _,trivial⟩ trivial) ?_
 exact Q1 [0] (by exact rfl) ⟨.refl _,.refl _,.refl _,.refl _,.refl _,.refl _,.refl _,.refl _,trivial⟩ trivial
def akT(fs:List Fd)(cs:List Cd)(i:Nat)(e:Int)(out:List Ask)(c:Cd):St:=⟨[(2,.vp [rFs fs] 0),(4,XU 0 10 out),(5,.int .i64 e),(6,.vp [rLs (Q3 fs)] 0),(7,fnA fs),(9,.ptr 2 0 0),(17,vC cs),(18,.int .i64 cs.length),(19,.int .i64 i)],[(0,Xy encA out),(2,some (.cells [[.str c.path,.int .i64 c.op,.int .i64 c.v.n,.str c.v.s]] false))],3⟩
noncomputable def SU:Nat→Nat→Pl:=Xx [(21,7)] (QW plt)
theorem Rp[Syms](fs:List Fd)(cs:List Cd)(hQ:QOk fs)(hc:cs.length≤1000)(hs:∀i,(cs.getD i default).v.s.length≤9223372036854775807):
 fnT Ou cAk (QK fns) (QH tys) SU 100 21 [vF fs,vC cs] [] 0 (fun v H _=>v= .tup [.vs 10 ((Y5 fs cs).map encA),.int .i64 (Z0 fs cs)]∧H=[]):=by
 have hl:=hQ.ok.len
 have hle:(Q3 fs).length≤fs.length:=Zb _ _ _
 repeat' first|refine And.intro ?_ ?_|(intro h;try first|exact dz|replace h:=cv)
 all_goals try exact cz
 refine .inl ?_
 repeat' first|refine And.intro ?_ ?_|(intro h;try first|exact dz|replace h:=cv)
 all_goals try exact cz
 refine⟨fs,rfl,hQ.ok,?_⟩
 by_cases h8:8<cs.length
 ·have hE:Z0 fs cs=4:=if_pos h8
  have hF:Y5 fs cs=[]:=if_neg (by rw[hE];decide)
  rw[hE,hF]
  repeat' first|refine And.intro ?_ ?_|(intro h;try first|exact dz|replace h:=cv)
  all_goals try exact cz
  exact⟨⟨[(4,.vs 10 []),(5,.int .i64 4)],[],0⟩,Q1 [] (by exact rfl) ⟨.zero _ _ rfl,.refl _,trivial⟩ trivial,_,rfl,rfl,rfl⟩
 ·have hE:Z0 fs cs=Xc fs cs:=if_neg h8
  repeat' first|refine And.intro ?_ ?_|(intro h;try first|exact dz|replace h:=cv)
  all_goals try exact cz
  refine⟨fun m s=>∃(i:Nat) (e:Int) (out:List Ask),(i≤cs.length∧m=cs.length-i∧Xc fs (cs.drop i)=Xc fs cs∧out=(cs.take i).map (Uj fs))∧s=akS fs cs i e out,⟨_,akS fs cs 0 4 [],Rx ⟨.refl _,.refl _,.refl _,.refl _,.refl _,.refl _,.refl _,.refl _,trivial⟩ (by exact rfl) rfl rfl,0,4,[],⟨by omega,rfl,rfl,rfl⟩,rfl⟩,?_⟩
  rintro m s ⟨i,e,out,⟨hi,rfl,hv,ho⟩,rfl⟩
  unfold akS
  by_cases h1:i<cs.length
  ·have hd:cs.drop i=cs.getD i default::cs.drop (i+1):=by
    rw[List.drop_eq_getElem_cons h1,List.getD_eq_getElem?_getD,List.getElem?_eq_getElem h1];rfl
   have ht:cs.take (i+1)=cs.take i++[cs.getD i default]:=by
    rw[List.take_add_one,List.getElem?_eq_getElem h1,List.getD_eq_getElem?_getD,List.getElem?_eq_getElem h1];rfl
   rw[hd,Xc]at hv
   have hs1:=hs i
   cases out with
   |nil=>
    repeat' first|refine And.intro ?_ ?_|(intro h;try first|exact dz|replace h:=cv)
    all_goals try exact cz
    refine⟨akT fs cs i e [] (cs.getD i default),?_,?_⟩
    ·unfold akT
     exact(ZB (nx':=5) (by omega)).trans (Q1 [0,3,1] (by exact rfl) ⟨.refl _,.refl _,.refl _,.refl _,.refl _,.refl _,.refl _,.refl _,.refl _,trivial⟩ ⟨⟨by decide,_,rfl,.refl _⟩,trivial⟩)
    unfold akT
    generalize cs.getD i default=c at *
    have hx2:∀rows,asR (.vs 4 rows)=rows:=fun _=>rfl
    by_cases hn:Xp fs c.path<0
    ·have hw:Zj fs c=2:=if_pos hn
     rw[if_neg (by rw[hw];decide)]at hv
     have hx1:(0:Int)=0:=rfl
     have hx3:(0:Int)=0:=rfl
     have hx4:(0:Int)=0:=rfl
     have hE2:Z0 fs cs=2:=by rw[hE,←hv,hw]
     have hF:Y5 fs cs=[]:=if_neg (by rw[hE2];decide)
     rw[hE2,hF]
     repeat' first|refine And.intro ?_ ?_|(intro h;try first|exact dzi|replace h:=cvi)
     all_goals try exact cz
     refine⟨fs,c.path,rfl,hQ.ok,?_⟩
     repeat' first|refine And.intro ?_ ?_|(intro h;try first|exact dzi|replace h:=cvi)
     all_goals try exact cz
     exact⟨⟨[(4,.vs 10 []),(5,.int .i64 2)],[],0⟩,Q1 [] (by exact rfl) ⟨.zero _ _ rfl,.refl _,trivial⟩ trivial,_,rfl,rfl,rfl⟩
    ·obtain⟨k,hk,hkf,hp⟩:=Wg (Int.not_lt.1 hn)
     have hkind:=hQ.kind k hk
     have hpa:=hp▸hQ.path k hk
     have hrow:((Q3 fs).map QT).getD k []=QT ((Q3 fs).getD k default):=VB QT default hk
     have hlf:Xk fs c=(Q3 fs).getD k default:=by unfold Xk;rw[hkf];rfl
     generalize(Q3 fs).getD k default=lf at *
     have hak:Uj fs c=⟨k,lf,Vy fs c.path,c.path,c.op,c.v⟩:=by unfold Uj;rw[hkf,hlf]
     have hx1:=hrow
     have hx3:(0:Int)=0:=rfl
     have hx4:(0:Int)=0:=rfl
     have sA:((k:Nat):Int)<((asR ([rLs (Q3 fs)].getD 0 .any)).length:Int):=by
      show(k:Int)<(((Q3 fs).map QT).length:Int)
      rw[List.length_map];omega
     have e5:(asR ([rLs (Q3 fs)].getD 0 .any)).getD ((k:Nat):Int).toNat []=QT lf:=hrow
     have sB1:isC true (AVal.int .i64 0) (((asR ([rLs (Q3 fs)].getD 0 .any)).getD ((k:Nat):Int).toNat []).getD 1 .any)=true:=by rw[e5];rfl
     have sB3:isC true (AVal.int .i64 0) (((asR ([rLs (Q3 fs)].getD 0 .any)).getD ((k:Nat):Int).toNat []).getD 3 .any)=true:=by rw[e5];rfl
     have sB0:isC true (AVal.int .i64 0) (((asR ([rLs (Q3 fs)].getD 0 .any)).getD ((k:Nat):Int).toNat []).getD 0 .any)=true:=by rw[e5];rfl
     have sR:Fb true [AVal.int .i64 0,AVal.int .i64 0,AVal.int .i64 0,AVal.int .i64 0] ((asR ([rLs (Q3 fs)].getD 0 .any)).getD ((k:Nat):Int).toNat []) 0=true:=by rw[e5];rfl
     have sB2:isC true (AVal.int .i64 0) (((asR ([rLs (Q3 fs)].getD 0 .any)).getD ((k:Nat):Int).toNat []).getD 2 .any)=true:=by rw[e5];rfl
     by_cases hbad:0<lf.r∨c.op<0∨5<c.op∨(c.op≠5∧ZX lf.kind c.v.n c.v.s=false)
     ·have hw:Zj fs c=3:=by unfold Zj;rw[if_neg hn,hlf,if_pos hbad]
      rw[if_neg (by rw[hw];decide)]at hv
      have hE2:Z0 fs cs=3:=by rw[hE,←hv,hw]
      have hF:Y5 fs cs=[]:=if_neg (by rw[hE2];decide)
      rw[hE2,hF]
      by_cases b1:0<lf.r
      · repeat' first|refine And.intro ?_ ?_|(intro h;try first|exact dzi|replace h:=cvi)
        all_goals try exact cz
        refine⟨fs,c.path,rfl,hQ.ok,?_⟩
        rw[hkf]
        repeat' first|refine And.intro ?_ ?_|(intro h;try first|exact dzi|replace h:=cvi)
        all_goals try exact cz
        all_goals(conv=>whnf)
        all_goals(try first|exact sA|exact sB1|exact sB3)
        exact⟨⟨[(4,.vs 10 []),(5,.int .i64 3)],[],0⟩,Q1 [] (by exact rfl) ⟨.zero _ _ rfl,.refl _,trivial⟩ trivial,_,rfl,rfl,rfl⟩
      ·by_cases b2:c.op<0
       · repeat' first|refine And.intro ?_ ?_|(intro h;try first|exact dzi|replace h:=cvi)
         all_goals try exact cz
         refine⟨fs,c.path,rfl,hQ.ok,?_⟩
         rw[hkf]
         repeat' first|refine And.intro ?_ ?_|(intro h;try first|exact dzi|replace h:=cvi)
         all_goals try exact cz
         all_goals(conv=>whnf)
         all_goals(try first|exact sA|exact sB1|exact sB3)
         exact⟨⟨[(4,.vs 10 []),(5,.int .i64 3)],[],0⟩,Q1 [] (by exact rfl) ⟨.zero _ _ rfl,.refl _,trivial⟩ trivial,_,rfl,rfl,rfl⟩
       ·by_cases b3:5<c.op
        · repeat' first|refine And.intro ?_ ?_|(intro h;try first|exact dzi|replace h:=cvi)
          all_goals try exact cz
          refine⟨fs,c.path,rfl,hQ.ok,?_⟩
          rw[hkf]
          repeat' first|refine And.intro ?_ ?_|(intro h;try first|exact dzi|replace h:=cvi)
          all_goals try exact cz
          all_goals(conv=>whnf)
          all_goals(try first|exact sA|exact sB1|exact sB3)
          exact⟨⟨[(4,.vs 10 []),(5,.int .i64 3)],[],0⟩,Q1 [] (by exact rfl) ⟨.zero _ _ rfl,.refl _,trivial⟩ trivial,_,rfl,rfl,rfl⟩
        ·obtain⟨b4,b5⟩:=hbad.resolve_left b1 |>.resolve_left b2 |>.resolve_left b3
         repeat' first|refine And.intro ?_ ?_|(intro h;try first|exact dzi|replace h:=cvi)
         all_goals try exact cz
         refine⟨fs,c.path,rfl,hQ.ok,?_⟩
         rw[hkf]
         repeat' first|refine And.intro ?_ ?_|(intro h;try first|exact dzi|replace h:=cvi)
         all_goals try exact cz
         all_goals(conv=>whnf)
         all_goals(try first|exact sA|exact sB1|exact sB3)
         rw[e5]
         refine⟨lf.kind,c.v.n,c.v.s,rfl,⟨hkind,hs1⟩,?_⟩
         rw[b5]
         repeat' first|refine And.intro ?_ ?_|(intro h;try first|exact dzi|replace h:=cvi)
         all_goals try exact cz
         all_goals(conv=>whnf)
         exact⟨⟨[(4,.vs 10 []),(5,.int .i64 3)],[],0⟩,Q1 [] (by exact rfl) ⟨.zero _ _ rfl,.refl _,trivial⟩ trivial,_,rfl,rfl,rfl⟩
     ·have hw:Zj fs c=0:=by unfold Zj;rw[if_neg hn,hlf,if_neg hbad]
      rw[if_pos hw]at hv
      have b1:¬0<lf.r:=fun h=>hbad (.inl h)
      have b2:¬c.op<0:=fun h=>hbad (.inr (.inl h))
      have b3:¬5<c.op:=fun h=>hbad (.inr (.inr (.inl h)))
      by_cases b4:c.op=5
      · repeat' first|refine And.intro ?_ ?_|(intro h;try first|exact dzi|replace h:=cvi)
        all_goals try exact cz
        refine⟨fs,c.path,rfl,hQ.ok,?_⟩
        rw[hkf]
        repeat' first|refine And.intro ?_ ?_|(intro h;try first|exact dzi|replace h:=cvi)
        all_goals try exact cz
        all_goals(conv=>whnf)
        all_goals(try first|exact sA|exact sB1|exact sB3)
        all_goals(try first|exact sA|exact sR|exact sB0|exact sB1|exact sB2|exact sB3)
        rw[e5]
        refine⟨[vF fs,.str c.path],⟨DZ fs,.same _,trivial⟩,fs,c.path,rfl,⟨hQ.ok,hQ.pos,hpa.1,hpa.2⟩,?_⟩
        repeat' first|refine And.intro ?_ ?_|(intro h;try first|exact dzi|replace h:=cvi)
        all_goals try exact cz
        refine⟨_,akS fs cs (i+1) 3 ([]++[⟨k,lf,Vy fs c.path,c.path,c.op,c.v⟩]),?_,⟨i+1,3,_,⟨by omega,rfl,hv,by rw[ht,List.map_append,←ho,←hak];rfl⟩,rfl⟩,by omega⟩
        unfold akS
        exact Q1 [167503724548] (by exact rfl) ⟨.refl _,.cap _ _ _ _ _,.refl _,.refl _,.refl _,.refl _,.refl _,Q8 (by first|rfl|omega),trivial⟩ ⟨⟨by decide,_,rfl,Q4 (by exact rfl) (fA _)⟩,trivial⟩
      ·have b5:ZX lf.kind c.v.n c.v.s=true:=by
        cases h:ZX lf.kind c.v.n c.v.s with
        |true=>rfl
        |false=>exact absurd (.inr (.inr (.inr ⟨b4,h⟩))) hbad
       repeat' first|refine And.intro ?_ ?_|(intro h;try first|exact dzi|replace h:=cvi)
       all_goals try exact cz
       refine⟨fs,c.path,rfl,hQ.ok,?_⟩
       rw[hkf]
       repeat' first|refine And.intro ?_ ?_|(intro h;try first|exact dzi|replace h:=cvi)
       all_goals try exact cz
       all_goals(conv=>whnf)
       all_goals(try first|exact sA|exact sB1|exact sB3)
       rw[e5]
       refine⟨lf.kind,c.v.n,c.v.s,rfl,⟨hkind,hs1⟩,?_⟩
       rw[b5]
       repeat' first|refine And.intro ?_ ?_|(intro h;try first|exact dzi|replace h:=cvi)
       all_goals try exact cz
       all_goals(conv=>whnf)
       all_goals(try first|exact sA|exact sR|exact sB0|exact sB1|exact sB2|exact sB3)
       rw[e5]
       refine⟨[vF fs,.str c.path],⟨DZ fs,.same _,trivial⟩,fs,c.path,rfl,⟨hQ.ok,hQ.pos,hpa.1,hpa.2⟩,?_⟩
       repeat' first|refine And.intro ?_ ?_|(intro h;try first|exact dzi|replace h:=cvi)
       all_goals try exact cz
       refine⟨_,akS fs cs (i+1) 3 ([]++[⟨k,lf,Vy fs c.path,c.path,c.op,c.v⟩]),?_,⟨i+1,3,_,⟨by omega,rfl,hv,by rw[ht,List.map_append,←ho,←hak];rfl⟩,rfl⟩,by omega⟩
       unfold akS
       exact Q1 [167503724548] (by exact rfl) ⟨.refl _,.cap _ _ _ _ _,.refl _,.refl _,.refl _,.refl _,.refl _,Q8 (by first|rfl|omega),trivial⟩ ⟨⟨by decide,_,rfl,Q4 (by exact rfl) (fA _)⟩,trivial⟩
   |cons o0 ot=>
    have hol:(o0::ot).length≤1000:=by rw[ho,List.length_map,List.length_take];omega
    repeat' first|refine And.intro ?_ ?_|(intro h;try first|exact dz|replace h:=cv)
    all_goals try exact cz
    refine⟨akT fs cs i e (o0::ot) (cs.getD i default),?_,?_⟩
    ·unfold akT
     exact(ZB (nx':=5) (by omega)).trans (Q1 [0,3,1] (by exact rfl) ⟨.refl _,.refl _,.refl _,.refl _,.refl _,.refl _,.refl _,.refl _,.refl _,trivial⟩ ⟨⟨by decide,_,rfl,Qp (fA _)⟩,⟨by decide,_,rfl,.refl _⟩,trivial⟩)
    unfold akT
    generalize cs.getD i default=c at *
    have hx2:∀rows,asR (.vs 4 rows)=rows:=fun _=>rfl
    by_cases hn:Xp fs c.path<0
    ·have hw:Zj fs c=2:=if_pos hn
     rw[if_neg (by rw[hw];decide)]at hv
     have hx1:(0:Int)=0:=rfl
     have hx3:(0:Int)=0:=rfl
     have hx4:(0:Int)=0:=rfl
     have hE2:Z0 fs cs=2:=by rw[hE,←hv,hw]
     have hF:Y5 fs cs=[]:=if_neg (by rw[hE2];decide)
     rw[hE2,hF]
     repeat' first|refine And.intro ?_ ?_|(intro h;try first|exact dzi|replace h:=cvi)
     all_goals try exact cz
     refine⟨fs,c.path,rfl,hQ.ok,?_⟩
     repeat' first|refine And.intro ?_ ?_|(intro h;try first|exact dzi|replace h:=cvi)
     all_goals try exact cz
     exact⟨⟨[(4,.vs 10 []),(5,.int .i64 2)],[],0⟩,Q1 [] (by exact rfl) ⟨.zero _ _ rfl,.refl _,trivial⟩ trivial,_,rfl,rfl,rfl⟩
    ·obtain⟨k,hk,hkf,hp⟩:=Wg (Int.not_lt.1 hn)
     have hkind:=hQ.kind k hk
     have hpa:=hp▸hQ.path k hk
     have hrow:((Q3 fs).map QT).getD k []=QT ((Q3 fs).getD k default):=VB QT default hk
     have hlf:Xk fs c=(Q3 fs).getD k default:=by unfold Xk;rw[hkf];rfl
     generalize(Q3 fs).getD k default=lf at *
     have hak:Uj fs c=⟨k,lf,Vy fs c.path,c.path,c.op,c.v⟩:=by unfold Uj;rw[hkf,hlf]
     have hx1:=hrow
     have hx3:(0:Int)=0:=rfl
     have hx4:(0:Int)=0:=rfl
     have sA:((k:Nat):Int)<((asR ([rLs (Q3 fs)].getD 0 .any)).length:Int):=by
      show(k:Int)<(((Q3 fs).map QT).length:Int)
      rw[List.length_map];omega
     have e5:(asR ([rLs (Q3 fs)].getD 0 .any)).getD ((k:Nat):Int).toNat []=QT lf:=hrow
     have sB1:isC true (AVal.int .i64 0) (((asR ([rLs (Q3 fs)].getD 0 .any)).getD ((k:Nat):Int).toNat []).getD 1 .any)=true:=by rw[e5];rfl
     have sB3:isC true (AVal.int .i64 0) (((asR ([rLs (Q3 fs)].getD 0 .any)).getD ((k:Nat):Int).toNat []).getD 3 .any)=true:=by rw[e5];rfl
     have sB0:isC true (AVal.int .i64 0) (((asR ([rLs (Q3 fs)].getD 0 .any)).getD ((k:Nat):Int).toNat []).getD 0 .any)=true:=by rw[e5];rfl
     have sR:Fb true [AVal.int .i64 0,AVal.int .i64 0,AVal.int .i64 0,AVal.int .i64 0] ((asR ([rLs (Q3 fs)].getD 0 .any)).getD ((k:Nat):Int).toNat []) 0=true:=by rw[e5];rfl
     have sB2:isC true (AVal.int .i64 0) (((asR ([rLs (Q3 fs)].getD 0 .any)).getD ((k:Nat):Int).toNat []).getD 2 .any)=true:=by rw[e5];rfl
     by_cases hbad:0<lf.r∨c.op<0∨5<c.op∨(c.op≠5∧ZX lf.kind c.v.n c.v.s=false)
     ·have hw:Zj fs c=3:=by unfold Zj;rw[if_neg hn,hlf,if_pos hbad]
      rw[if_neg (by rw[hw];decide)]at hv
      have hE2:Z0 fs cs=3:=by rw[hE,←hv,hw]
      have hF:Y5 fs cs=[]:=if_neg (by rw[hE2];decide)
      rw[hE2,hF]
      by_cases b1:0<lf.r
      · repeat' first|refine And.intro ?_ ?_|(intro h;try first|exact dzi|replace h:=cvi)
        all_goals try exact cz
        refine⟨fs,c.path,rfl,hQ.ok,?_⟩
        rw[hkf]
        repeat' first|refine And.intro ?_ ?_|(intro h;try first|exact dzi|replace h:=cvi)
        all_goals try exact cz
        all_goals(conv=>whnf)
        all_goals(try first|exact sA|exact sB1|exact sB3)
        exact⟨⟨[(4,.vs 10 []),(5,.int .i64 3)],[],0⟩,Q1 [] (by exact rfl) ⟨.zero _ _ rfl,.refl _,trivial⟩ trivial,_,rfl,rfl,rfl⟩
      ·by_cases b2:c.op<0
       · repeat' first|refine And.intro ?_ ?_|(intro h;try first|exact dzi|replace h:=cvi)
         all_goals try exact cz
         refine⟨fs,c.path,rfl,hQ.ok,?_⟩
         rw[hkf]
         repeat' first|refine And.intro ?_ ?_|(intro h;try first|exact dzi|replace h:=cvi)
         all_goals try exact cz
         all_goals(conv=>whnf)
         all_goals(try first|exact sA|exact sB1|exact sB3)
         exact⟨⟨[(4,.vs 10 []),(5,.int .i64 3)],[],0⟩,Q1 [] (by exact rfl) ⟨.zero _ _ rfl,.refl _,trivial⟩ trivial,_,rfl,rfl,rfl⟩
       ·by_cases b3:5<c.op
        · repeat' first|refine And.intro ?_ ?_|(intro h;try first|exact dzi|replace h:=cvi)
          all_goals try exact cz
          refine⟨fs,c.path,rfl,hQ.ok,?_⟩
          rw[hkf]
          repeat' first|refine And.intro ?_ ?_|(intro h;try first|exact dzi|replace h:=cvi)
          all_goals try exact cz
          all_goals(conv=>whnf)
          all_goals(try first|exact sA|exact sB1|exact sB3)
          exact⟨⟨[(4,.vs 10 []),(5,.int .i64 3)],[],0⟩,Q1 [] (by exact rfl) ⟨.zero _ _ rfl,.refl _,trivial⟩ trivial,_,rfl,rfl,rfl⟩
        ·obtain⟨b4,b5⟩:=hbad.resolve_left b1 |>.resolve_left b2 |>.resolve_left b3
         repeat' first|refine And.intro ?_ ?_|(intro h;try first|exact dzi|replace h:=cvi)
         all_goals try exact cz
         refine⟨fs,c.path,rfl,hQ.ok,?_⟩
         rw[hkf]
         repeat' first|refine And.intro ?_ ?_|(intro h;try first|exact dzi|replace h:=cvi)
         all_goals try exact cz
         all_goals(conv=>whnf)
         all_goals(try first|exact sA|exact sB1|exact sB3)
         rw[e5]
         refine⟨lf.kind,c.v.n,c.v.s,rfl,⟨hkind,hs1⟩,?_⟩
         rw[b5]
         repeat' first|refine And.intro ?_ ?_|(intro h;try first|exact dzi|replace h:=cvi)
         all_goals try exact cz
         all_goals(conv=>whnf)
         exact⟨⟨[(4,.vs 10 []),(5,.int .i64 3)],[],0⟩,Q1 [] (by exact rfl) ⟨.zero _ _ rfl,.refl _,trivial⟩ trivial,_,rfl,rfl,rfl⟩
     ·have hw:Zj fs c=0:=by unfold Zj;rw[if_neg hn,hlf,if_neg hbad]
      rw[if_pos hw]at hv
      have b1:¬0<lf.r:=fun h=>hbad (.inl h)
      have b2:¬c.op<0:=fun h=>hbad (.inr (.inl h))
      have b3:¬5<c.op:=fun h=>hbad (.inr (.inr (.inl h)))
      by_cases b4:c.op=5
      · repeat' first|refine And.intro ?_ ?_|(intro h;try first|exact dzi|replace h:=cvi)
        all_goals try exact cz
        refine⟨fs,c.path,rfl,hQ.ok,?_⟩
        rw[hkf]
        repeat' first|refine And.intro ?_ ?_|(intro h;try first|exact dzi|replace h:=cvi)
        all_goals try exact cz
        all_goals(conv=>whnf)
        all_goals(try first|exact sA|exact sB1|exact sB3)
        all_goals(try first|exact sA|exact sR|exact sB0|exact sB1|exact sB2|exact sB3)
        rw[e5]
        refine⟨[vF fs,.str c.path],⟨DZ fs,.same _,trivial⟩,fs,c.path,rfl,⟨hQ.ok,hQ.pos,hpa.1,hpa.2⟩,?_⟩
        repeat' first|refine And.intro ?_ ?_|(intro h;try first|exact dzi|replace h:=cvi)
        all_goals try exact cz
        refine⟨_,akS fs cs (i+1) 3 ((o0::ot)++[⟨k,lf,Vy fs c.path,c.path,c.op,c.v⟩]),?_,⟨i+1,3,_,⟨by omega,rfl,hv,by rw[ht,List.map_append,←ho,←hak];rfl⟩,rfl⟩,by omega⟩
        unfold akS
        exact Q1 [167503724548] (by exact rfl) ⟨.refl _,Q7 (by simp),.refl _,.refl _,.refl _,.refl _,.refl _,Q8 (by first|rfl|omega),trivial⟩ ⟨⟨by decide,_,rfl,Q4 (by exact gA (o0::ot) ⟨k,lf,Vy fs c.path,c.path,c.op,c.v⟩) (fA _)⟩,trivial⟩
      ·have b5:ZX lf.kind c.v.n c.v.s=true:=by
        cases h:ZX lf.kind c.v.n c.v.s with
        |true=>rfl
        |false=>exact absurd (.inr (.inr (.inr ⟨b4,h⟩))) hbad
       repeat' first|refine And.intro ?_ ?_|(intro h;try first|exact dzi|replace h:=cvi)
       all_goals try exact cz
       refine⟨fs,c.path,rfl,hQ.ok,?_⟩
       rw[hkf]
       repeat' first|refine And.intro ?_ ?_|(intro h;try first|exact dzi|replace h:=cvi)
       all_goals try exact cz
       all_goals(conv=>whnf)
       all_goals(try first|exact sA|exact sB1|exact sB3)
       rw[e5]
       refine⟨lf.kind,c.v.n,c.v.s,rfl,⟨hkind,hs1⟩,?_⟩
       rw[b5]
       repeat' first|refine And.intro ?_ ?_|(intro h;try first|exact dzi|replace h:=cvi)
       all_goals try exact cz
       all_goals(conv=>whnf)
       all_goals(try first|exact sA|exact sR|exact sB0|exact sB1|exact sB2|exact sB3)
       rw[e5]
       refine⟨[vF fs,.str c.path],⟨DZ fs,.same _,trivial⟩,fs,c.path,rfl,⟨hQ.ok,hQ.pos,hpa.1,hpa.2⟩,?_⟩
       repeat' first|refine And.intro ?_ ?_|(intro h;try first|exact dzi|replace h:=cvi)
       all_goals try exact cz
       refine⟨_,akS fs cs (i+1) 3 ((o0::ot)++[⟨k,lf,Vy fs c.path,c.path,c.op,c.v⟩]),?_,⟨i+1,3,_,⟨by omega,rfl,hv,by rw[ht,List.map_append,←ho,←hak];rfl⟩,rfl⟩,by omega⟩
       unfold akS
       exact Q1 [167503724548] (by exact rfl) ⟨.refl _,Q7 (by simp),.refl _,.refl _,.refl _,.refl _,.refl _,Q8 (by first|rfl|omega),trivial⟩ ⟨⟨by decide,_,rfl,Q4 (by exact gA (o0::ot) ⟨k,lf,Vy fs c.path,c.path,c.op,c.v⟩) (fA _)⟩,trivial⟩
  ·obtain rfl:i=cs.length:=by omega
   rw[List.drop_length,Xc]at hv
   have hE2:Z0 fs cs=0:=hE.trans hv.symm
   have hF:Y5 fs cs=out:=by rw[Y5,if_pos hE2,ho,List.take_length]
   rw[hE2,hF]
   cases out with
   |nil=>
    repeat' first|refine And.intro ?_ ?_|(intro h;try first|exact dz|replace h:=cv)
    all_goals try exact cz
    exact⟨⟨[(4,.vs 10 []),(5,.int .i64 0)],[],0⟩,Q1 [] (by exact rfl) ⟨.zero _ _ rfl,.refl _,trivial⟩ trivial,_,rfl,rfl,rfl⟩
   |cons o0 ot=>
    repeat' first|refine And.intro ?_ ?_|(intro h;try first|exact dz|replace h:=cv)
    all_goals try exact cz
    refine⟨⟨[(4,.vs 10 ((o0::ot).map encA)),(5,.int .i64 0)],[],1⟩,?_,_,rfl,rfl,rfl⟩
    have hz:=FzV.sl (n:=0) (rows:=(o0::ot).map encA) 0 (o0::ot).length 10 none (by simp) (by simp)
    rw[List.drop_zero,List.take_of_length_le (by simp)]at hz
    refine Reb.trans (s':=⟨[(4,.slice 0 0 (o0::ot).length 10 none),(5,.int .i64 0)],[(0,some (.cells ((o0::ot).map encA) false))],1⟩) (Q1 [0] (by exact rfl) ⟨.refl _,.refl _,trivial⟩ ⟨⟨by decide,_,rfl,Qp (fA _)⟩,trivial⟩) ?_
    exact QV (n:=0) (rows:=(o0::ot).map encA) rfl (fA _) ⟨hz,.same _,trivial⟩ trivial
def S_asks:SpecI:=fun args K=>∃(fs:List Fd) (cs:List Cd),args=[vF fs,vC cs]∧(QOk fs∧cs.length≤1000∧ ∀i,(cs.getD i default).v.s.length≤9223372036854775807)∧K (.tup [.vs 10 ((Y5 fs cs).map encA),.int .i64 (Z0 fs cs)])
theorem Ov[Syms]:Z5 Tryz.prog 21 S_asks:=by
 rintro args K ⟨fs,cs,rfl,⟨h1,h2,h3⟩,hk⟩
 exact⟨rfl,_,rfl,hk,fnI Qu Qs LV Rl QJ (Rp fs cs h1 h2 h3)⟩
end
section
set_option maxRecDepth 100000
set_option maxHeartbeats 4000000
theorem wrI{x:Int}(h:-9223372036854775808≤x∧x≤9223372036854775807):wr .i64 x=x:=if_pos h
theorem OU(x:Int):wr .i64 (wr .i32 x)=wr .i32 x:=by
 apply wrI
 unfold wr
 split
 ·rename_i h
  have h1:(-2147483648:Int)≤x:=h.1
  have h2:x≤(2147483647:Int):=h.2
  omega
 ·show(-9223372036854775808:Int)≤(if(true&&decide (x%(2^32:Int)≥(2^31:Int)))=true then x%(2^32:Int)-(2^32:Int)else x%(2^32:Int))∧(if(true&&decide (x%(2^32:Int)≥(2^31:Int)))=true then x%(2^32:Int)-(2^32:Int)else x%(2^32:Int))≤(9223372036854775807:Int)
  split<;>omega
theorem OW{a b:List UInt8}(h:a=b):WkV (.str a) (.str b):=h▸ .refl _
theorem fV(v:Vl):∀x∈ZT v,x.flat=true:=fun x hx=>by simp[ZT]at hx;rcases hx with rfl|rfl<;>rfl
def XG(kind:Int)(v:Vl):Vl:=if kind=1 then⟨wi v.n 2,[]⟩else if kind=2 then⟨wr .i32 v.n,[]⟩else if kind=3 then⟨v.n,[]⟩else⟨0,v.s.take 100⟩
def G_wi:List AVal→(AVal→Prop)→Prop:=fun args K=>∃a n,args=[.int .i64 a,.int .i64 n]∧(0<n∧n≤4611686018427387904)∧K (.int .i64 (wi a n))
theorem Ni[Syms]:FA Tryz.prog 43 G_wi:=by
 rintro args K ⟨a,n,rfl,⟨h1,h2⟩,hk⟩
 refine⟨JW,_,hk,fun ι w vs hv=>?_⟩
 obtain⟨v0,vs0,rfl,hv0,hv⟩:=hv.uncons
 obtain⟨v1,vs1,rfl,hv1,hv⟩:=hv.uncons
 obtain rfl:=hv.unnil
 obtain rfl:=hv0.of_int
 obtain rfl:=hv1.of_int
 refine(UC a n h1 h2 w).mono ?_
 rintro e w' ⟨rfl,rfl⟩
 exact⟨_,rfl,.int _ _,rfl⟩
theorem Ee[Syms]:FA Tryz.prog 11 G_wi:=by
 rintro args K ⟨a,n,rfl,⟨h1,h2⟩,hk⟩
 refine⟨JV,_,hk,fun ι w vs hv=>?_⟩
 obtain⟨v0,vs0,rfl,hv0,hv⟩:=hv.uncons
 obtain⟨v1,vs1,rfl,hv1,hv⟩:=hv.uncons
 obtain rfl:=hv.unnil
 obtain rfl:=hv0.of_int
 obtain rfl:=hv1.of_int
 refine(UB a n h1 h2 w).mono ?_
 rintro e w' ⟨rfl,rfl⟩
 exact⟨_,rfl,.int _ _,rfl⟩
abbrev cGd:CallT:=Qm 43 (C9 G_wi) Qi
theorem Re[Syms]:cGd.ok Tryz.prog:=YT Ni Qh
theorem De[Syms]{N nx:Nat}{e:Env}{H:Heap}{row:List AVal}{v:Vl}{rs:List ResultVar}(hk:e.get 4= .ptr 1 0 0)(H1:H.get 1=some (.cells [row] false))(hrow:KP row (ZT v))(hn:Vp 0 nx [0,1]=true)
 (hrs:X6 (QH tys) ⟨[(4,.ptr 1 0 0)],[(1,some (.cells [ZT v] false))],2⟩ rs=some (.agg (ZT v))):
 ∃s3,Reb 0 N ⟨e,H,nx⟩ s3∧ ∃u,X6 (QH tys) s3 rs=some u∧FI (fun u H _=>u= .agg (ZT v)∧H=[]) u s3.heap s3.nx:=
 ⟨⟨[(4,.ptr 1 0 0)],[(1,some (.cells [ZT v] false))],2⟩,Q1 [0,1] hn ⟨by rw[hk];exact .refl _,trivial⟩ ⟨⟨Nat.lt_succ_self _,_,H1,Ed hrow (fV v)⟩,trivial⟩,_,hrs,[],fun n b h=>(by rw[Heap.get_nil]at h;cases h),rfl,rfl⟩
theorem Nl(s:List UInt8):((s.drop 0).take ((if(100:Int)<(s.length:Int)then 100 else(s.length:Int)).toNat-0))=s.take 100:=by
 rw[List.drop_zero]
 split
 ·rfl
 ·rw[List.take_of_length_le (by omega),List.take_of_length_le (by omega)]
theorem Py[Syms](k:Int)(v:Vl):fnT Qi cGd (QK fns) (QH tys) (QW plt) 100 20 [.int .i64 k,.agg (ZT v)] [] 0 (FI (fun u H _=>u= .agg (ZT (XG k v))∧H=[])):=by
 unfold XG
 by_cases h1:k=1
 ·rw[if_pos h1]
  repeat' first|refine And.intro ?_ ?_|(intro h;try first|exact dz|replace h:=cv)
  all_goals try exact cz
  refine⟨v.n,2,rfl,by decide,?_⟩
  repeat' first|refine And.intro ?_ ?_|(intro h;try first|exact dz|replace h:=cv)
  all_goals try exact cz
  exact De (v:=⟨wi v.n 2,[]⟩) rfl rfl ⟨.refl _,.refl _,trivial⟩ (by exact rfl) (by exact rfl)
 rw[if_neg h1]
 by_cases h2:k=2
 ·rw[if_pos h2]
  have hw:=OU v.n
  repeat' first|refine And.intro ?_ ?_|(intro h;try first|exact dz|replace h:=cv)
  all_goals try exact cz
  exact De (v:=⟨wr .i32 v.n,[]⟩) rfl rfl ⟨Q8 hw,.refl _,trivial⟩ (by exact rfl) (by exact rfl)
 rw[if_neg h2]
 by_cases h3:k=3
 ·rw[if_pos h3]
  repeat' first|refine And.intro ?_ ?_|(intro h;try first|exact dz|replace h:=cv)
  all_goals try exact cz
  exact De (v:=⟨v.n,[]⟩) rfl rfl ⟨.refl _,.refl _,trivial⟩ (by exact rfl) (by exact rfl)
 rw[if_neg h3]
 repeat' first|refine And.intro ?_ ?_|(intro h;try first|exact dz|replace h:=cv)
 all_goals try exact cz
 exact De (v:=⟨0,v.s.take 100⟩) rfl rfl ⟨.refl _,OW (Nl v.s),trivial⟩ (by exact rfl) (by exact rfl)
def S_good:SpecI:=fun args K=>∃k v,args=[.int .i64 k,.agg (ZT v)]∧K (.agg (ZT (XG k v)))
theorem EQ[Syms]:Z5 Tryz.prog 20 S_good:=by
 rintro args K ⟨k,v,rfl,hk⟩
 exact⟨rfl,_,rfl,hk,Xw.forget (Zw Qu Qs Qd Re QJ (Py k v))⟩
end
end Go.Proofs.YtekipcaifckffaaGreat
