/-
  Files' descriptions made of raw numbers,one group's chunks and one chunk's pages left to be written. The statements'.
-/
import Derived.Test.YtajieadpaeggcaaL14
set_option linter.unusedVariables false
set_option linter.unusedSimpArgs false
namespace Go.Proofs.Ytajieadpaeggcaa
open Go Go.Av
section
set_option maxRecDepth 100000
set_option maxHeartbeats 40000000
theorem EQ{k:Nat}{b:Option Blk}{t:Heap}(h:t.get k=none):t.sub ((k,b)::t):=fun n c hn=>by
 rw[Heap.get_cons]
 by_cases e:n=k
 ·subst e;rw[h]at hn;cases hn
 ·rw[QL e];exact hn
def Lh(ig kg:Nat)(m:Mt):Heap:=[(3,some (.cells ((mkr ig 0 m.groups).map encRo) false)),(7,bC kg (m.groups.getD ig default).chunks),(9,bP ((m.groups.getD ig default).chunks.getD kg default).pages)]
def NJ(m:Mt):List AVal:=[.vs 4 (m.s.map encF),.int .i64 m.n,.slice 3 0 m.groups.length 2 none]
def zSo(s:List Fd)(zs:List RwO)(C:List Ck)(P:List Pg)(kg:Nat):St:=⟨[(6,.ptr 1 0 0),(7,.ptr 0 0 0),(31,.bool false)],[(0,some (.cells [QK (vF s) (XD zs) (.slice 3 0 zs.length 2 none)] false)),(1,some (.cells [QK .nils 0 .nils] false)),(3,some (.cells (zs.map encRo) false)),(7,bC kg C),(9,bP P)],10⟩
theorem Ns[Syms]{N:Nat}{s:List Fd}{zs:List RwO}{C:List Ck}{P:List Pg}{kg:Nat}(h:0<zs.length):Reb 0 N (OD (bC kg C) (bP P) s zs) (zSo s zs C P kg):=by
 cases zs with
 |nil=>cases h
 |cons r t=>exact .refl _ _ _
theorem E2[Syms](ns gs:List Int)(l:List Vl)(ig kg:Nat)(hn:ns.length≤9223372036854775807)(hgl:gs.length≤9223372036854775807)(hll:l.length≤9223372036854775807)(hg:∀g∈gs,I64 g)(hig:ig<(gs.take 4).length)(hkg:kg<(QP (QD ns)).length):
 fnT cMk cMk (QN fns) (Qz tys) OI 100 11 [vI ns,vI gs,vV l] [] 0 (UA (fun v H nx=>v= .agg (NJ (W6 ns gs l))∧H=Lh ig kg (W6 ns gs l)∧nx=10)):=by
 repeat' first|refine And.intro ?_ ?_|(intro h;try first|exact dzq|replace h:=cvq)
 all_goals try exact cz
 refine⟨ns,rfl,hn,?_⟩
 have hfs:=F7 ns
 have hmk:W6 ns gs l=⟨QD ns,Z5 (Xf (Q2 (QP (QD ns))) l gs (gs.take 4).length).1,(Xf (Q2 (QP (QD ns))) l gs (gs.take 4).length).1⟩:=by
  have h4:(gs.take 4).length≤gs.length:=by rw[List.length_take];omega
  rw[Fb _ _ _ _ h4,List.length_take,show gs.take (min 4 gs.length)=gs.take 4 from by rw[←List.take_take,List.take_length]]
  rfl
 rw[hmk]
 clear hmk
 generalize QD ns=s at *
 repeat' first|refine And.intro ?_ ?_|(intro h;try first|exact dzq|replace h:=cvq)
 all_goals try exact cz
 refine⟨⟨[(1,vI gs),(2,vV l),(6,.ptr 1 0 0),(7,.ptr 0 0 0)],[(0,some (.cells [Ba s 0 []] false)),(1,some (.cells [QK .nils 0 .nils] false))],2⟩,Q0 [1,0] (by exact rfl) ⟨.refl _,.refl _,.refl _,.refl _,trivial⟩ ⟨⟨by decide,_,rfl,.refl _⟩,⟨by decide,_,rfl,.refl _⟩,trivial⟩,?_⟩
 repeat' first|refine And.intro ?_ ?_|(intro h;try first|exact dzq|replace h:=cvq)
 all_goals try exact cz
 refine⟨s,rfl,hfs,?_⟩
 have hlb:(QP s).length≤1000:=by have h1:(QP s).length≤s.length:=Zs _ _ _;have h2:=hfs.len;omega
 generalize QP s=ls at *
 repeat' first|refine And.intro ?_ ?_|(intro h;try first|exact dzq|replace h:=cvq)
 all_goals try exact cz
 refine⟨fun m st=>∃(i:Nat) (u v:Option Blk),(i≤(gs.take 4).length∧m=(gs.take 4).length-i)∧(XOk u v∧VO ig kg (Xf (Q2 ls) l gs i).1 i u v)∧st=oSo u v s gs l ls (Xf (Q2 ls) l gs i).2 i (XD (mkr ig 0 (Xf (Q2 ls) l gs i).1)) (mkr ig 0 (Xf (Q2 ls) l gs i).1),⟨_,oSo none none s gs l ls 0 0 0 [],(Hf (nx':=10) (by omega)).trans (QG [0,1,2,3,4,5,6,7,8,9] rfl rfl rfl rfl rfl rfl (by exact rfl) ⟨.refl _,.refl _,.refl _,.refl _,.refl _,.refl _,.refl _,trivial⟩ rfl (fun ρ hρ=>⟨.refl _,.refl _,Qi hρ,trivial⟩) rfl rfl rfl rfl (XOk.start _ rfl rfl) (fxR _ rfl) trivial),0,none,none,⟨by omega,rfl⟩,⟨XOk.start,.inl ⟨Nat.zero_le _,rfl,rfl⟩⟩,rfl⟩,?_⟩
 rintro m st ⟨i,u,v0,⟨hi,rfl⟩,⟨hX,hVO⟩,rfl⟩
 have hi4:(gs.take 4).length=min 4 gs.length:=List.length_take
 by_cases h1:i<gs.length∧i<4
 ·obtain⟨h1,h2⟩:=h1
  have hgi:I64 (gs.getD i 0):=by
   rw[List.getD_eq_getElem?_getD,List.getElem?_eq_getElem h1];exact hg _ (List.getElem_mem h1)
  have hat:=Fc (Q2 ls) l gs i
  have hsm:=Gj (Q2 ls) l gs i
  have hrl:=UM (Q2 ls) l gs i
  have hst:Xf (Q2 ls) l gs (i+1)=((Xf (Q2 ls) l gs i).1++[⟨nM (gs.getD i 0),(QZ (gs.getD i 0) l (Q2 ls) 0 (Xf (Q2 ls) l gs i).2).1⟩],(QZ (gs.getD i 0) l (Q2 ls) 0 (Xf (Q2 ls) l gs i).2).2):=rfl
  generalize Xf (Q2 ls) l gs i=qa at *
  obtain⟨rs,a⟩:=qa
  dsimp only at hst hat hsm hrl hVO
  generalize hge:gs.getD i 0=g at *
  have hnM:=U3 g
  have hd2:wr .i64 ((gs.getD i 0).tdiv 2)=dv g 2:=by rw[hge];rfl
  have hd5:wr .i64 ((gs.getD i 0).tdiv 5)=dv g 5:=by rw[hge];rfl
  have hd7:wr .i64 ((gs.getD i 0).tdiv 7)=dv g 7:=by rw[hge];rfl
  have hd9:wr .i64 ((gs.getD i 0).tdiv 9)=dv g 9:=by rw[hge];rfl
  have hd11:wr .i64 ((gs.getD i 0).tdiv 11)=dv g 11:=by rw[hge];rfl
  have hd13:wr .i64 ((gs.getD i 0).tdiv 13)=dv g 13:=by rw[hge];rfl
  have hwn:wr .i64 (1+wi g 40)=nM g:=by rw[wrI (by have:=XL (a:=g) (n:=40) (by decide);omega)];rfl
  obtain⟨ow,hoi⟩:∃ow,ow=Nat.beq i ig:=⟨_,rfl⟩
  have hun:ow=true→u=none:=fun h=>(hVO.start (hoi.symm.trans h)).1
  have hW0:WV ow kg v0 [] 0 v0:=by
   cases how:ow
   ·exact .inl ⟨rfl,rfl⟩
   ·exact .inr (.inl ⟨rfl,Nat.zero_le _,(hVO.start (hoi.symm.trans how)).2⟩)
  have hzr:∀r:Rw,mkr ig 0 (rs++[r])=mkr ig 0 rs++[(r,Nat.beq i ig)]:=fun r=>by rw[C7,hrl,Nat.zero_add]
  have hzs:(mkr ig 0 rs).length=i:=by rw[VM,hrl]
  have hRf:ow=true→ ∀ρ,((mkr ig 0 rs).map encRo).map (AVal.renL ρ)=(mkr ig 0 rs).map encRo:=fun h ρ=>by
   have:=Nat.eq_of_beq_eq_true (hoi.symm.trans h)
   exact WN (Hz rs 0 (by omega)) (fR rs) ρ
  have hsr:0≤XD (mkr ig 0 rs)∧XD (mkr ig 0 rs)≤1000000:=by
   have:XD (mkr ig 0 rs)=Z5 rs:=by rw[XD,Jr]
   omega
  generalize mkr ig 0 rs=zs at *
  rcases zs with _|⟨r0,rt⟩
  rotate_left
  let rz:List RwO:=r0::rt
  have hrz:rz.length=i:=hzs
  have hsz:0≤XD rz∧XD rz≤1000000:=hsr
  rotate_left
  let rz:List RwO:=[]
  have hrz:rz.length=i:=hzs
  have hsz:0≤XD rz∧XD rz≤1000000:=hsr
  all_goals(
   repeat' first|refine And.intro ?_ ?_|(intro h;try first|exact dzq|replace h:=cvq)
   all_goals try exact czq
   refine⟨_,.refl _ _ _,?_⟩
   repeat' first|refine And.intro ?_ ?_|(intro h;try first|exact dzq|replace h:=cvq)
   all_goals try exact czq
   refine⟨g,40,congrArg (fun z=>[AVal.int .i64 z,AVal.int .i64 40]) hge,by decide,?_⟩
   repeat' first|refine And.intro ?_ ?_|(intro h;try first|exact dzq|replace h:=cvq)
   all_goals try exact czq
   refine⟨Pq u v0 s gs l ls a i g rz,QG [0,1,10,3,4,5,6,7,8,9] rfl rfl rfl rfl rfl rfl (by exact rfl) ⟨.refl _,.refl _,.refl _,.refl _,.refl _,.refl _,.refl _,.refl _,trivial⟩ rfl (fun ρ hρ=>⟨.refl _,.refl _,Qi hρ,trivial⟩) rfl rfl rfl rfl (hX _ rfl rfl) (fxR _ rfl) ⟨⟨by decide,_,rfl,Q6 (row:=QI (nM g) .nils) ⟨Qg hwn,.refl _,trivial⟩⟩,trivial⟩,?_⟩
   have hb1:-9223372036854775808≤XD rz+nM g∧XD rz+nM g≤9223372036854775807:=by omega
   repeat' first|refine And.intro ?_ ?_|(intro h;try first|exact dzq|replace h:=cvq)
   all_goals try exact czq
   all_goals(try first|exact hb1.1|exact hb1.2)
   refine⟨fun m st=>∃(k:Nat) (v:Option Blk),(k≤ls.length∧m=ls.length-k)∧(XOk u v∧WV ow kg v0 (ZG g l (Q2 ls) a k).1 k v)∧st=iSo u v s gs l ls (ZG g l (Q2 ls) a k).2 i g rz k (mkd ow kg 0 (ZG g l (Q2 ls) a k).1),⟨_,iSo u v0 s gs l ls a i g rz 0 [],QG [0,1,2,3,4,5,6,7,8,9] rfl rfl rfl rfl rfl rfl (by exact rfl) ⟨.refl _,.refl _,.refl _,.refl _,.refl _,.refl _,.refl _,.refl _,.refl _,trivial⟩ rfl (fun ρ hρ=>⟨.refl _,.refl _,Qi hρ,trivial⟩) rfl rfl rfl rfl (hX _ rfl rfl) (fxR _ rfl) ⟨⟨by decide,_,rfl,Q6 (row:=QI (nM g) .nils) ⟨.refl _,.refl _,trivial⟩⟩,trivial⟩,0,v0,⟨by omega,rfl⟩,⟨hX,hW0⟩,rfl⟩,?_⟩
   clear hX
   rintro m st ⟨k,v,⟨hk,rfl⟩,⟨hX,hW⟩,rfl⟩
   have hkl:(Q2 ls).length=ls.length:=List.length_map ..
   by_cases hk1:k<ls.length
   ·have hct:=Fr g l (Q2 ls) a k
    have hcs:ZG g l (Q2 ls) a (k+1)=((ZG g l (Q2 ls) a k).1++[(QA g k ((Q2 ls).getD k 0) l (ZG g l (Q2 ls) a k).2).1],(QA g k ((Q2 ls).getD k 0) l (ZG g l (Q2 ls) a k).2).2):=rfl
    have hkd:(Q2 ls).getD k 0=(ls.getD k default).kind:=by
     rw[List.getD_eq_getElem?_getD,List.getD_eq_getElem?_getD,List.getElem?_map,List.getElem?_eq_getElem hk1];rfl
    rw[hkd]at hcs
    clear hkd
    generalize hqc:ZG g l (Q2 ls) a k=qc at *
    obtain⟨cs,a'⟩:=qc
    dsimp only at hct hcs hW
    have hcl:cs.length≤1000:=by
     have h1:=Vx g l (Q2 ls) a k
     rw[hqc]at h1
     have h2:cs.length=k:=h1
     omega
    have hcq:cs.length=k:=by have h1:=Vx g l (Q2 ls) a k;rw[hqc]at h1;exact h1
    clear hqc
    have hzn:∀c:Ck,mkd ow kg 0 (cs++[c])=mkd ow kg 0 cs++[(c,ow&&Nat.beq k kg)]:=fun c=>by rw[Ca,hcq,Nat.zero_add]
    have hzl:(mkd ow kg 0 cs).length=k:=by rw[YR,hcq]
    have hzk:(ow&&Nat.beq k kg)=true→ ∀ρ,((mkd ow kg 0 cs).map encCo).map (AVal.renL ρ)=(mkd ow kg 0 cs).map encCo:=fun h ρ=>by
     simp only[Bool.and_eq_true]at h
     have:=Nat.eq_of_beq_eq_true h.2
     exact WN (HA cs 0 (by omega)) (fC cs) ρ
    generalize mkd ow kg 0 cs=cy at *
    rcases cy with _|⟨c0,ct⟩
    rotate_left
    let cw:List CkO:=c0::ct
    have hcw:cw.length≤1000:=by have:cw.length=k:=hzl;omega
    rotate_left
    let cw:List CkO:=[]
    have hcw:cw.length≤1000:=by have:cw.length=k:=hzl;omega
    all_goals(
     repeat' first|refine And.intro ?_ ?_|(intro h;try first|exact dzq|replace h:=cvq)
     all_goals try exact czq
     refine⟨_,.refl _ _ _,?_⟩
     repeat' first|refine And.intro ?_ ?_|(intro h;try first|exact dzq|replace h:=cvq)
     all_goals try exact czq
     have hdk:wr .i64 (wr .i64 ((gs.getD i 0).tdiv 3)+((k:Nat):Int))=dv g 3+k:=by
      rw[hge]
      have:=Nm hgi 3 (by decide)
      exact wrI (show -9223372036854775808≤dv g 3+(k:Int)∧dv g 3+(k:Int)≤9223372036854775807 by omega)
     refine⟨dv g 3+k,3,congrArg (fun z=>[AVal.int .i64 z,AVal.int .i64 3]) hdk,by decide,?_⟩
     repeat' first|refine And.intro ?_ ?_|(intro h;try first|exact dzq|replace h:=cvq)
     all_goals try exact czq
     refine⟨Pp u v s gs l ls a' i g rz k cw,QG [0,1,2,3,10,5,6,7,8,9] rfl rfl rfl rfl rfl rfl (by exact rfl) ⟨.refl _,.refl _,.refl _,.refl _,.refl _,.refl _,.refl _,.refl _,.refl _,.refl _,trivial⟩ rfl (fun ρ hρ=>⟨.refl _,.refl _,Qi hρ,trivial⟩) rfl rfl rfl rfl (hX _ rfl rfl) (fxR _ rfl) ⟨⟨by decide,_,rfl,Q6 (row:=QI (nM g) (Qx 5 11 cw)) ⟨.refl _,Qi rfl,trivial⟩⟩,Zh (fxC cw rfl) (by decide) rfl ⟨⟨by decide,_,rfl,Q6 (row:=Zq 0 0 0 .nils (knM g k) 0 false) ⟨.refl _,.refl _,.refl _,.refl _,.refl _,.refl _,.refl _,.refl _,.refl _,.refl _,.refl _,trivial⟩⟩,trivial⟩⟩,?_⟩
     repeat' first|refine And.intro ?_ ?_|(intro h;try first|exact dzq|replace h:=cvq)
     all_goals try exact czq
     refine⟨fun m st=>∃(left:Int) (f:Nat) (ps:List Pg),(m=left.toNat∧0≤left∧left≤f∧left≤40∧ps++Zk g f left=Zk g 40 (nM g))∧st=pSo u v s gs l ls a' i g rz k cw left ps,⟨_,pSo u v s gs l ls a' i g rz k cw (nM g) [],QG [0,1,2,3,4,5,6,7,8,9] rfl rfl rfl rfl rfl rfl (by exact rfl) ⟨.refl _,.refl _,.refl _,.refl _,.refl _,.refl _,.refl _,.refl _,.refl _,.refl _,.refl _,trivial⟩ rfl (fun ρ hρ=>⟨.refl _,.refl _,Qi hρ,trivial⟩) rfl rfl rfl rfl (hX _ rfl rfl) (fxR _ rfl) ⟨⟨by decide,_,rfl,Q6 (row:=QI (nM g) (Qx 5 11 cw)) ⟨.refl _,Qi rfl,trivial⟩⟩,Zh (fxC cw rfl) (by decide) rfl ⟨⟨by decide,_,rfl,Q6 (row:=Zq 0 0 0 .nils (knM g k) 0 false) ⟨.refl _,.refl _,.refl _,.refl _,.refl _,.refl _,.refl _,.refl _,.refl _,.refl _,.refl _,trivial⟩⟩,trivial⟩⟩,nM g,40,[],⟨rfl,by omega,by omega,by omega,rfl⟩,rfl⟩,?_⟩
     rintro m st ⟨left,f,ps,⟨rfl,hl0,hlf,hl4,hpg⟩,rfl⟩
     by_cases hl1:0<left
     ·obtain⟨f,rfl⟩:∃f',f=f'+1:=⟨f-1,by omega⟩
      rw[Y3 hl1]at hpg
      have hsp:=UB (g:=g) hl1
      have hpl:ps.length≤40:=by
       have h1:=congrArg List.length hpg
       have h2:=XY g 40 (nM g)
       rw[List.length_append]at h1
       omega
      rcases ps with _|⟨p0,pt⟩
      rotate_left
      let pw:List Pg:=p0::pt
      have hpw:pw.length≤40:=hpl
      rotate_left
      let pw:List Pg:=[]
      have hpw:pw.length≤40:=hpl
      all_goals(
       repeat' first|refine And.intro ?_ ?_|(intro h;try first|exact dzq|replace h:=cvq)
       all_goals try exact czq
       refine⟨dv g 7,20,congrArg (fun z=>[AVal.int .i64 z,AVal.int .i64 20]) hd7,by decide,?_⟩
       repeat' first|refine And.intro ?_ ?_|(intro h;try first|exact dzq|replace h:=cvq)
       all_goals try exact czq
       have hw9:=XL (a:=g) (n:=9) (by decide)
       have hst:(if wr .i64 (1+wi (dv g 7) 20)<left then wr .i64 (1+wi (dv g 7) 20)else left)=Xp g left:=by
        rw[wrI (by have:=XL (a:=dv g 7) (n:=20) (by decide);omega)];rfl
       refine⟨pRo u v s gs l ls a' i g rz k cw left pw,QG [0,1,2,3,4,5,6,7,8,9] rfl rfl rfl rfl rfl rfl (by exact rfl) ⟨.refl _,.refl _,.refl _,.refl _,.refl _,.refl _,.refl _,.refl _,.refl _,.refl _,.refl _,Qg hst,trivial⟩ rfl (fun ρ hρ=>⟨.refl _,.refl _,Qi hρ,trivial⟩) rfl rfl rfl rfl (hX _ rfl rfl) (fxR _ rfl) ⟨⟨by decide,_,rfl,Q6 (row:=QI (nM g) (Qx 5 11 cw)) ⟨.refl _,Qi rfl,trivial⟩⟩,Zh (fxC cw rfl) (by decide) rfl ⟨⟨by decide,_,rfl,Q6 (row:=Zq 0 0 0 (Qx 6 7 pw) (knM g k) 0 false) ⟨.refl _,.refl _,.refl _,Qi rfl,.refl _,.refl _,.refl _,.refl _,.refl _,.refl _,.refl _,trivial⟩⟩,Xx (fP pw) (by decide) rfl trivial⟩⟩,?_⟩
       repeat' first|refine And.intro ?_ ?_|(intro h;try first|exact dzq|replace h:=cvq)
       all_goals try exact czq
       refine⟨g,9,congrArg (fun z=>[AVal.int .i64 z,AVal.int .i64 9]) hge,by decide,?_⟩
       repeat' first|refine And.intro ?_ ?_|(intro h;try first|exact dzq|replace h:=cvq)
       all_goals try exact czq
       refine⟨g,2,congrArg (fun z=>[AVal.int .i64 z,AVal.int .i64 2]) hge,by decide,?_⟩
       repeat' first|refine And.intro ?_ ?_|(intro h;try first|exact dzq|replace h:=cvq)
       all_goals try exact czq
       refine⟨dv g 2,300,congrArg (fun z=>[AVal.int .i64 z,AVal.int .i64 300]) hd2,by decide,?_⟩
       repeat' first|refine And.intro ?_ ?_|(intro h;try first|exact dzq|replace h:=cvq)
       all_goals try exact czq
       refine⟨dv g 5,300,congrArg (fun z=>[AVal.int .i64 z,AVal.int .i64 300]) hd5,by decide,?_⟩
       repeat' first|refine And.intro ?_ ?_|(intro h;try first|exact dzq|replace h:=cvq)
       all_goals try exact czq
       refine⟨dv g 9,3000,congrArg (fun z=>[AVal.int .i64 z,AVal.int .i64 3000]) hd9,by decide,?_⟩
       repeat' first|refine And.intro ?_ ?_|(intro h;try first|exact dzq|replace h:=cvq)
       all_goals try exact czq
       all_goals(try((with_reducible show(_:Nat)≤_);first|(show(pw.length+1)*56≤_;omega)|(show pw.length+1≤_;omega)))
       exact⟨_,pSo u v s gs l ls a' i g rz k cw (left-Xp g left) (pw++[pgM g (Xp g left)]),QG [0,1,2,3,4,5,10+41*RR,7,8,9] rfl rfl rfl rfl rfl rfl (by kernel_rfl) ⟨.refl _,.refl _,.refl _,.refl _,.refl _,.refl _,.refl _,.refl _,.refl _,.refl _,.refl _,trivial⟩ rfl (fun ρ hρ=>⟨.refl _,.refl _,Qi hρ,trivial⟩) rfl rfl rfl rfl (hX _ rfl rfl) (fxR _ rfl) ⟨⟨by decide,_,rfl,Q6 (row:=QI (nM g) (Qx 5 11 cw)) ⟨.refl _,Qi rfl,trivial⟩⟩,Zh (fxC cw rfl) (by decide) rfl ⟨⟨by decide,_,rfl,Q6 (row:=Zq 0 0 0 (Qx 6 7 (pw++[pgM g (Xp g left)])) (knM g k) 0 false) ⟨.refl _,.refl _,.refl _,ZE rfl (by simp;try rfl) (by simp;try rfl),.refl _,.refl _,.refl _,.refl _,.refl _,.refl _,.refl _,trivial⟩⟩,YS (fP (pw++[pgM g (Xp g left)])) (by decide) rfl (by first|exact Hk hge|exact Hj hge) (by simp;try rfl) trivial⟩⟩,⟨left-Xp g left,f,pw++[pgM g (Xp g left)],⟨rfl,by omega,by omega,by omega,by rw[←hpg,List.append_assoc];rfl⟩,rfl⟩,by omega⟩
       skip)
     ·have hpe:ps=Zk g 40 (nM g):=by rw[←hpg,Ug hl1,List.append_nil]
      have hp0:0<ps.length:=by rw[hpe,show(40:Nat)=39+1 from rfl,Y3 (by omega)];simp
      have hpl:ps.length≤40:=by rw[hpe];exact XY g 40 (nM g)
      clear hpg
      rcases ps with _|⟨p0,pt⟩
      ·cases hp0
      · repeat' first|refine And.intro ?_ ?_|(intro h;try first|exact dzq|replace h:=cvq)
        all_goals try exact czq
        refine⟨dv g 11,3,congrArg (fun z=>[AVal.int .i64 z,AVal.int .i64 3]) hd11,by decide,?_⟩
        by_cases hd:wi (dv g 11) 3=0
        · repeat' first|refine And.intro ?_ ?_|(intro h;try first|exact dzq|replace h:=cvq)
          all_goals try exact czq
          refine⟨fun m st=>∃j:Nat,(j≤(p0::pt).length∧m=(p0::pt).length-j)∧st=dSo u v s gs l ls a' i g rz k cw (p0::pt) j,⟨_,dSo u v s gs l ls a' i g rz k cw (p0::pt) 0,QG [0,1,2,3,4,5,6,7,8,9] rfl rfl rfl rfl rfl rfl (by exact rfl) ⟨.refl _,.refl _,.refl _,.refl _,.refl _,.refl _,.refl _,.refl _,.refl _,.refl _,.refl _,trivial⟩ rfl (fun ρ hρ=>⟨.refl _,.refl _,Qi hρ,trivial⟩) rfl rfl rfl rfl (hX _ rfl rfl) (fxR _ rfl) ⟨⟨by decide,_,rfl,Q6 (row:=QI (nM g) (Qx 5 11 cw)) ⟨.refl _,Qi rfl,trivial⟩⟩,Zh (fxC cw rfl) (by decide) rfl ⟨⟨by decide,_,rfl,Q6 (row:=Zq 0 0 0 (.slice 6 0 (p0::pt).length 7 none) (knM g k) 0 false) ⟨.refl _,.refl _,.refl _,.refl _,.refl _,.refl _,.refl _,.refl _,.refl _,.refl _,.refl _,trivial⟩⟩,⟨⟨by decide,_,rfl,Qd (fP _)⟩,trivial⟩⟩⟩,0,⟨by omega,rfl⟩,rfl⟩,?_⟩
          rintro m st ⟨j,⟨hj,rfl⟩,rfl⟩
          by_cases hj1:j<(p0::pt).length
          · repeat' first|refine And.intro ?_ ?_|(intro h;try first|exact dzq|replace h:=cvq)
            all_goals try exact czq
            ·rw[List.length_map,WP];simp only[Int.toNat_natCast];omega
            ·rw[Nat.zero_add,Int.toNat_natCast,Vi encP default (by rw[WP];omega)];exact Nat.le_of_ble_eq_true rfl
            exact⟨_,dSo u v s gs l ls a' i g rz k cw (p0::pt) (j+1),QG [0,1,2,3,4,5,6,7,8,9] rfl rfl rfl rfl rfl rfl (by exact rfl) ⟨.refl _,.refl _,.refl _,.refl _,.refl _,.refl _,.refl _,.refl _,.refl _,.refl _,Qg (by omega),trivial⟩ rfl (fun ρ hρ=>⟨.refl _,.refl _,Qi hρ,trivial⟩) rfl rfl rfl rfl (hX _ rfl rfl) (fxR _ rfl) ⟨⟨by decide,_,rfl,Q6 (row:=QI (nM g) (Qx 5 11 cw)) ⟨.refl _,Qi rfl,trivial⟩⟩,Zh (fxC cw rfl) (by decide) rfl ⟨⟨by decide,_,rfl,Q6 (row:=Zq 0 0 0 (.slice 6 0 (p0::pt).length 7 none) (knM g k) 0 false) ⟨.refl _,.refl _,.refl _,.refl _,.refl _,.refl _,.refl _,.refl _,.refl _,.refl _,.refl _,trivial⟩⟩,⟨⟨by decide,_,rfl,Q1 (Ii hj1) (fP _)⟩,trivial⟩⟩⟩,⟨j+1,⟨by omega,rfl⟩,rfl⟩,by omega⟩
          ·obtain rfl:j=(p0::pt).length:=by omega
           have hde:=MF (p0::pt)
           repeat' first|refine And.intro ?_ ?_|(intro h;try first|exact dzq|replace h:=cvq)
           all_goals try exact czq
           have hcrc:wr .u32 (gs.getD i 0)=wr .u32 g:=by rw[hge]
           have hck:XK g k=⟨wi g 257,wi (dv g 13) 9000,wr .u32 g,(p0::pt).map d2,knM g k,default⟩:=by unfold XK;rw[if_pos hd,←hpe];rfl
           refine⟨eSo u v s gs l ls a' i g rz k cw (wi g 257) (wi (dv g 13) 9000) (wr .u32 g) (p0::pt).length ((p0::pt).map d2),?_,?_⟩
           · repeat' first|refine And.intro ?_ ?_|(intro h;try first|exact dzq|replace h:=cvq)
             all_goals try exact czq
             all_goals(first|refine⟨g,257,congrArg (fun z=>[AVal.int .i64 z,AVal.int .i64 257]) hge,by decide,?_⟩|refine⟨dv g 13,9000,congrArg (fun z=>[AVal.int .i64 z,AVal.int .i64 9000]) hd13,by decide,?_⟩)
             repeat' first|refine And.intro ?_ ?_|(intro h;try first|exact dzq|replace h:=cvq)
             all_goals try exact czq
             all_goals(first|refine⟨g,257,congrArg (fun z=>[AVal.int .i64 z,AVal.int .i64 257]) hge,by decide,?_⟩|refine⟨dv g 13,9000,congrArg (fun z=>[AVal.int .i64 z,AVal.int .i64 9000]) hd13,by decide,?_⟩)
             repeat' first|refine And.intro ?_ ?_|(intro h;try first|exact dzq|replace h:=cvq)
             all_goals try exact czq
             all_goals exact Exists.intro () (QG [0,1,2,3,4,5,6,7,8,9] rfl rfl rfl rfl rfl rfl (by exact rfl) ⟨.refl _,.refl _,.refl _,.refl _,.refl _,.refl _,.refl _,.refl _,.refl _,.refl _,trivial⟩ rfl (fun ρ hρ=>⟨.refl _,.refl _,Qi hρ,trivial⟩) rfl rfl rfl rfl (hX _ rfl rfl) (fxR _ rfl) ⟨⟨by decide,_,rfl,Q6 (row:=QI (nM g) (Qx 5 11 cw)) ⟨.refl _,Qi rfl,trivial⟩⟩,Zh (fxC cw rfl) (by decide) rfl ⟨⟨by decide,_,rfl,Q6 (row:=Zq (wi g 257) (wi (dv g 13) 9000) (wr .u32 g) (.slice 6 0 (p0::pt).length 7 none) (knM g k) 0 false) ⟨.refl _,.refl _,Qg hcrc,.refl _,.refl _,.refl _,.refl _,.refl _,.refl _,.refl _,.refl _,trivial⟩⟩,⟨⟨by decide,_,rfl,Q1 (congrArg (List.map encP) hde) (fP _)⟩,trivial⟩⟩⟩)
           ·cases hbo:(ow&&Nat.beq k kg)
            ·have hp6:0<(((p0::pt).map d2)).length:=by simp
             have hp7:(p0::pt).length=(((p0::pt).map d2)).length:=by simp
             by_cases hkn:0<wi (dv g 3+k) 3
             ·by_cases hll0:0<l.length
              · repeat' first|refine And.intro ?_ ?_|(intro h;try first|exact dzq|replace h:=cvq)
                all_goals try exact czq
                refine⟨fSo u v s gs l ls a' i g rz k cw (wi g 257) (wi (dv g 13) 9000) (wr .u32 g) ((p0::pt).map d2) true,Reb.trans (s':=UV u v s gs l ls a' i g rz k cw (wi g 257) (wi (dv g 13) 9000) (wr .u32 g) ((p0::pt).map d2) true) (QG [0,1,2,3,4,5,6,7,8,9] rfl rfl rfl rfl rfl rfl (by exact rfl) ⟨.refl _,.refl _,.refl _,.refl _,.refl _,.refl _,.refl _,.refl _,.refl _,.refl _,QY (by rw[if_pos rfl,decide_eq_true (by omega)]),trivial⟩ rfl (fun ρ hρ=>⟨.refl _,.refl _,Qi hρ,trivial⟩) rfl rfl rfl rfl (hX _ rfl rfl) (fxR _ rfl) ⟨⟨by decide,_,rfl,Q6 (row:=QI (nM g) (Qx 5 11 cw)) ⟨.refl _,Qi rfl,trivial⟩⟩,Zh (fxC cw rfl) (by decide) rfl ⟨⟨by decide,_,rfl,Q6 (row:=Zq (wi g 257) (wi (dv g 13) 9000) (wr .u32 g) (.slice 6 0 (((p0::pt).map d2)).length 7 none) (knM g k) 0 false) ⟨.refl _,.refl _,.refl _,Q3 hp7,.refl _,.refl _,.refl _,.refl _,.refl _,.refl _,.refl _,trivial⟩⟩,⟨⟨by decide,_,rfl,Qd (fP _)⟩,trivial⟩⟩⟩) (KK u v s gs l ls a' i g rz k cw (wi g 257) (wi (dv g 13) 9000) (wr .u32 g) ((p0::pt).map d2) true hp6),?_⟩
                have hmi:((a':Nat):Int).tmod ((l.length:Nat):Int)=((a'%l.length:Nat):Int):=(Int.ofNat_tmod ..).symm
                have hmlt:=Nat.mod_lt a' hll0
                repeat' first|refine And.intro ?_ ?_|(intro h;try first|exact dzq|replace h:=cvq)
                all_goals try exact czq
                refine⟨(ls.getD k default).kind,l.getD (a'%l.length) default,?_,?_⟩
                ·rw[hmi];rfl
                have ha9:a'≤5000:=by
                 have h1:(Q2 ls).length≤1000:=by omega
                 have h2:=Nat.mul_le_mul (show i≤4 by omega) h1
                 omega
                repeat' first|refine And.intro ?_ ?_|(intro h;try first|exact dzq|replace h:=cvq)
                all_goals try exact czq
                refine⟨g,nM g+1,(by show[AVal.int .i64 (gs.getD i 0),_]=_;rw[hge];rfl),by omega,?_⟩
                repeat' first|refine And.intro ?_ ?_|(intro h;try first|exact dzq|replace h:=cvq)
                all_goals try exact czq
                have hcm:QA g k (ls.getD k default).kind l a'=(⟨(wi g 257),(wi (dv g 13) 9000),(wr .u32 g),((p0::pt).map d2),knM g k,⟨wi g (nM g+1),true,Qo (ls.getD k default).kind (l.getD (a'%l.length) default),Qo (ls.getD k default).kind (l.getD (a'%l.length) default)⟩⟩,a'+1):=by
                 unfold QA
                 rw[hck,if_pos ⟨decide_eq_true hkn,hll0⟩]
                have hcs':ZG g l (Q2 ls) a (k+1)=((cs++[(⟨(wi g 257),(wi (dv g 13) 9000),(wr .u32 g),((p0::pt).map d2),knM g k,⟨wi g (nM g+1),true,Qo (ls.getD k default).kind (l.getD (a'%l.length) default),Qo (ls.getD k default).kind (l.getD (a'%l.length) default)⟩⟩:Ck)]),a'+1):=hcs.trans (by rw[hcm])
                repeat' first|refine And.intro ?_ ?_|(intro h;try first|exact dzq|replace h:=cvq)
                all_goals try exact czq
                all_goals(try((with_reducible show(_:Nat)≤_);first|(show(cw.length+1)*120≤_;omega)|(show cw.length+1≤_;omega)))
                refine⟨_,iSo u v s gs l ls (a'+1) i g rz (k+1) (cw++[((⟨(wi g 257),(wi (dv g 13) 9000),(wr .u32 g),((p0::pt).map d2),knM g k,⟨wi g (nM g+1),true,Qo (ls.getD k default).kind (l.getD (a'%l.length) default),Qo (ls.getD k default).kind (l.getD (a'%l.length) default)⟩⟩:Ck),false)]),?_,⟨k+1,v,⟨by omega,rfl⟩,⟨hX,by rw[hcs'];exact hW.step hcq hbo _⟩,by rw[hcs'];dsimp only;(rw[hzn,hbo])<;>rfl⟩,by omega⟩
                refine QG [0,1,2,3,4,10+14*RR+1+10*RR+1+1,6,7,8,9] rfl rfl rfl rfl rfl rfl (by kernel_rfl) ⟨.refl _,.refl _,.refl _,.refl _,.refl _,Qg (by omega),.refl _,.refl _,Qg (by omega),trivial⟩ rfl (fun ρ hρ=>⟨.refl _,.refl _,Qi hρ,trivial⟩) rfl rfl rfl rfl (hX _ rfl rfl) (fxR _ rfl) ⟨⟨by decide,_,rfl,Q6 (row:=QI (nM g) (Qx 5 11 (cw++[((⟨(wi g 257),(wi (dv g 13) 9000),(wr .u32 g),((p0::pt).map d2),knM g k,⟨wi g (nM g+1),true,Qo (ls.getD k default).kind (l.getD (a'%l.length) default),Qo (ls.getD k default).kind (l.getD (a'%l.length) default)⟩⟩:Ck),false)]))) ⟨.refl _,ZE rfl (by simp;try rfl) (by simp;try rfl),trivial⟩⟩,?_⟩
                exact X2 (fxC (cw++[((⟨(wi g 257),(wi (dv g 13) 9000),(wr .u32 g),((p0::pt).map d2),knM g k,⟨wi g (nM g+1),true,Qo (ls.getD k default).kind (l.getD (a'%l.length) default),Qo (ls.getD k default).kind (l.getD (a'%l.length) default)⟩⟩:Ck),false)]) rfl) (by decide) rfl (by first|(rw[hmi];first|rfl|exact XJ cw ((⟨(wi g 257),(wi (dv g 13) 9000),(wr .u32 g),((p0::pt).map d2),knM g k,⟨wi g (nM g+1),true,Qo (ls.getD k default).kind (l.getD (a'%l.length) default),Qo (ls.getD k default).kind (l.getD (a'%l.length) default)⟩⟩:Ck),false))|rfl|exact XJ cw ((⟨(wi g 257),(wi (dv g 13) 9000),(wr .u32 g),((p0::pt).map d2),knM g k,⟨wi g (nM g+1),true,Qo (ls.getD k default).kind (l.getD (a'%l.length) default),Qo (ls.getD k default).kind (l.getD (a'%l.length) default)⟩⟩:Ck),false)) (by simp;try rfl) trivial
              ·have hcm:QA g k (ls.getD k default).kind l a'=(⟨(wi g 257),(wi (dv g 13) 9000),(wr .u32 g),((p0::pt).map d2),knM g k,default⟩,a'):=by
                unfold QA
                rw[hck,if_neg (fun hh=>hll0 hh.2)]
               repeat' first|refine And.intro ?_ ?_|(intro h;try first|exact dzq|replace h:=cvq)
               all_goals try exact czq
               refine⟨fSo u v s gs l ls a' i g rz k cw (wi g 257) (wi (dv g 13) 9000) (wr .u32 g) ((p0::pt).map d2) false,Reb.trans (s':=UV u v s gs l ls a' i g rz k cw (wi g 257) (wi (dv g 13) 9000) (wr .u32 g) ((p0::pt).map d2) false) (QG [0,1,2,3,4,5,6,7,8,9] rfl rfl rfl rfl rfl rfl (by exact rfl) ⟨.refl _,.refl _,.refl _,.refl _,.refl _,.refl _,.refl _,.refl _,.refl _,.refl _,QY (by first|rfl|rw[if_pos rfl,decide_eq_false (by omega)]),trivial⟩ rfl (fun ρ hρ=>⟨.refl _,.refl _,Qi hρ,trivial⟩) rfl rfl rfl rfl (hX _ rfl rfl) (fxR _ rfl) ⟨⟨by decide,_,rfl,Q6 (row:=QI (nM g) (Qx 5 11 cw)) ⟨.refl _,Qi rfl,trivial⟩⟩,Zh (fxC cw rfl) (by decide) rfl ⟨⟨by decide,_,rfl,Q6 (row:=Zq (wi g 257) (wi (dv g 13) 9000) (wr .u32 g) (.slice 6 0 (((p0::pt).map d2)).length 7 none) (knM g k) 0 false) ⟨.refl _,.refl _,.refl _,Q3 hp7,.refl _,.refl _,.refl _,.refl _,.refl _,.refl _,.refl _,trivial⟩⟩,⟨⟨by decide,_,rfl,Qd (fP _)⟩,trivial⟩⟩⟩) (KK u v s gs l ls a' i g rz k cw (wi g 257) (wi (dv g 13) 9000) (wr .u32 g) ((p0::pt).map d2) false hp6),?_⟩
               rw[hcm]at hcs
               have hcs':ZG g l (Q2 ls) a (k+1)=((cs++[(⟨(wi g 257),(wi (dv g 13) 9000),(wr .u32 g),((p0::pt).map d2),knM g k,default⟩:Ck)]),a'):=hcs
               repeat' first|refine And.intro ?_ ?_|(intro h;try first|exact dzq|replace h:=cvq)
               all_goals try exact czq
               all_goals(try((with_reducible show(_:Nat)≤_);first|(show(cw.length+1)*120≤_;omega)|(show cw.length+1≤_;omega)))
               exact⟨_,iSo u v s gs l ls a' i g rz (k+1) (cw++[((⟨(wi g 257),(wi (dv g 13) 9000),(wr .u32 g),((p0::pt).map d2),knM g k,default⟩:Ck),false)]),QG [0,1,2,3,4,11,6,7,8,9] rfl rfl rfl rfl rfl rfl (by exact rfl) ⟨.refl _,.refl _,.refl _,.refl _,.refl _,.refl _,.refl _,.refl _,Qg (by omega),trivial⟩ rfl (fun ρ hρ=>⟨.refl _,.refl _,Qi hρ,trivial⟩) rfl rfl rfl rfl (hX _ rfl rfl) (fxR _ rfl) ⟨⟨by decide,_,rfl,Q6 (row:=QI (nM g) (Qx 5 11 (cw++[((⟨(wi g 257),(wi (dv g 13) 9000),(wr .u32 g),((p0::pt).map d2),knM g k,default⟩:Ck),false)]))) ⟨.refl _,ZE rfl (by simp;try rfl) (by simp;try rfl),trivial⟩⟩,X2 (fxC (cw++[((⟨(wi g 257),(wi (dv g 13) 9000),(wr .u32 g),((p0::pt).map d2),knM g k,default⟩:Ck),false)]) rfl) (by decide) rfl (by first|rfl|exact XJ cw ((⟨(wi g 257),(wi (dv g 13) 9000),(wr .u32 g),((p0::pt).map d2),knM g k,default⟩:Ck),false)) (by simp;try rfl) trivial⟩,⟨k+1,v,⟨by omega,rfl⟩,⟨hX,by rw[hcs'];exact hW.step hcq hbo _⟩,by rw[hcs'];dsimp only;(rw[hzn,hbo])<;>rfl⟩,by omega⟩
             ·have hcm:QA g k (ls.getD k default).kind l a'=(⟨(wi g 257),(wi (dv g 13) 9000),(wr .u32 g),((p0::pt).map d2),knM g k,default⟩,a'):=by
               unfold QA
               rw[hck,if_neg (fun hh=>by have h1:knM g k=true:=hh.1;unfold knM at h1;rw[decide_eq_false hkn]at h1;cases h1)]
              repeat' first|refine And.intro ?_ ?_|(intro h;try first|exact dzq|replace h:=cvq)
              all_goals try exact czq
              refine⟨fSo u v s gs l ls a' i g rz k cw (wi g 257) (wi (dv g 13) 9000) (wr .u32 g) ((p0::pt).map d2) false,Reb.trans (s':=UV u v s gs l ls a' i g rz k cw (wi g 257) (wi (dv g 13) 9000) (wr .u32 g) ((p0::pt).map d2) false) (QG [0,1,2,3,4,5,6,7,8,9] rfl rfl rfl rfl rfl rfl (by exact rfl) ⟨.refl _,.refl _,.refl _,.refl _,.refl _,.refl _,.refl _,.refl _,.refl _,.refl _,QY (by first|rfl|rw[if_pos rfl,decide_eq_false (by omega)]),trivial⟩ rfl (fun ρ hρ=>⟨.refl _,.refl _,Qi hρ,trivial⟩) rfl rfl rfl rfl (hX _ rfl rfl) (fxR _ rfl) ⟨⟨by decide,_,rfl,Q6 (row:=QI (nM g) (Qx 5 11 cw)) ⟨.refl _,Qi rfl,trivial⟩⟩,Zh (fxC cw rfl) (by decide) rfl ⟨⟨by decide,_,rfl,Q6 (row:=Zq (wi g 257) (wi (dv g 13) 9000) (wr .u32 g) (.slice 6 0 (((p0::pt).map d2)).length 7 none) (knM g k) 0 false) ⟨.refl _,.refl _,.refl _,Q3 hp7,.refl _,.refl _,.refl _,.refl _,.refl _,.refl _,.refl _,trivial⟩⟩,⟨⟨by decide,_,rfl,Qd (fP _)⟩,trivial⟩⟩⟩) (KK u v s gs l ls a' i g rz k cw (wi g 257) (wi (dv g 13) 9000) (wr .u32 g) ((p0::pt).map d2) false hp6),?_⟩
              rw[hcm]at hcs
              have hcs':ZG g l (Q2 ls) a (k+1)=((cs++[(⟨(wi g 257),(wi (dv g 13) 9000),(wr .u32 g),((p0::pt).map d2),knM g k,default⟩:Ck)]),a'):=hcs
              repeat' first|refine And.intro ?_ ?_|(intro h;try first|exact dzq|replace h:=cvq)
              all_goals try exact czq
              all_goals(try((with_reducible show(_:Nat)≤_);first|(show(cw.length+1)*120≤_;omega)|(show cw.length+1≤_;omega)))
              exact⟨_,iSo u v s gs l ls a' i g rz (k+1) (cw++[((⟨(wi g 257),(wi (dv g 13) 9000),(wr .u32 g),((p0::pt).map d2),knM g k,default⟩:Ck),false)]),QG [0,1,2,3,4,11,6,7,8,9] rfl rfl rfl rfl rfl rfl (by exact rfl) ⟨.refl _,.refl _,.refl _,.refl _,.refl _,.refl _,.refl _,.refl _,Qg (by omega),trivial⟩ rfl (fun ρ hρ=>⟨.refl _,.refl _,Qi hρ,trivial⟩) rfl rfl rfl rfl (hX _ rfl rfl) (fxR _ rfl) ⟨⟨by decide,_,rfl,Q6 (row:=QI (nM g) (Qx 5 11 (cw++[((⟨(wi g 257),(wi (dv g 13) 9000),(wr .u32 g),((p0::pt).map d2),knM g k,default⟩:Ck),false)]))) ⟨.refl _,ZE rfl (by simp;try rfl) (by simp;try rfl),trivial⟩⟩,X2 (fxC (cw++[((⟨(wi g 257),(wi (dv g 13) 9000),(wr .u32 g),((p0::pt).map d2),knM g k,default⟩:Ck),false)]) rfl) (by decide) rfl (by first|rfl|exact XJ cw ((⟨(wi g 257),(wi (dv g 13) 9000),(wr .u32 g),((p0::pt).map d2),knM g k,default⟩:Ck),false)) (by simp;try rfl) trivial⟩,⟨k+1,v,⟨by omega,rfl⟩,⟨hX,by rw[hcs'];exact hW.step hcq hbo _⟩,by rw[hcs'];dsimp only;(rw[hzn,hbo])<;>rfl⟩,by omega⟩
            ·have how:ow=true:=by simp only[Bool.and_eq_true]at hbo;exact hbo.1
             obtain rfl:u=none:=hun how
             have hX':=hX.page (((p0::pt).map d2))
             have hp6:0<(((p0::pt).map d2)).length:=by simp
             have hp7:(p0::pt).length=(((p0::pt).map d2)).length:=by simp
             by_cases hkn:0<wi (dv g 3+k) 3
             ·by_cases hll0:0<l.length
              · repeat' first|refine And.intro ?_ ?_|(intro h;try first|exact dzq|replace h:=cvq)
                all_goals try exact czq
                refine⟨fMo none (bP (((p0::pt).map d2))) s gs l ls a' i g rz k cw (wi g 257) (wi (dv g 13) 9000) (wr .u32 g) ((p0::pt).map d2) true,Reb.trans (s':=UV none v s gs l ls a' i g rz k cw (wi g 257) (wi (dv g 13) 9000) (wr .u32 g) ((p0::pt).map d2) true) (QG [0,1,2,3,4,5,6,7,8,9] rfl rfl rfl rfl rfl rfl (by exact rfl) ⟨.refl _,.refl _,.refl _,.refl _,.refl _,.refl _,.refl _,.refl _,.refl _,.refl _,QY (by rw[if_pos rfl,decide_eq_true (by omega)]),trivial⟩ rfl (fun ρ hρ=>⟨.refl _,.refl _,Qi hρ,trivial⟩) rfl rfl rfl rfl (hX _ rfl rfl) (fxR _ rfl) ⟨⟨by decide,_,rfl,Q6 (row:=QI (nM g) (Qx 5 11 cw)) ⟨.refl _,Qi rfl,trivial⟩⟩,Zh (fxC cw rfl) (by decide) rfl ⟨⟨by decide,_,rfl,Q6 (row:=Zq (wi g 257) (wi (dv g 13) 9000) (wr .u32 g) (.slice 6 0 (((p0::pt).map d2)).length 7 none) (knM g k) 0 false) ⟨.refl _,.refl _,.refl _,Q3 hp7,.refl _,.refl _,.refl _,.refl _,.refl _,.refl _,.refl _,trivial⟩⟩,⟨⟨by decide,_,rfl,Qd (fP _)⟩,trivial⟩⟩⟩) (KJ v s gs l ls a' i g rz k cw (wi g 257) (wi (dv g 13) 9000) (wr .u32 g) ((p0::pt).map d2) true (hRf how _) (hzk hbo _)),?_⟩
                have hmi:((a':Nat):Int).tmod ((l.length:Nat):Int)=((a'%l.length:Nat):Int):=(Int.ofNat_tmod ..).symm
                have hmlt:=Nat.mod_lt a' hll0
                repeat' first|refine And.intro ?_ ?_|(intro h;try first|exact dzq|replace h:=cvq)
                all_goals try exact czq
                refine⟨(ls.getD k default).kind,l.getD (a'%l.length) default,?_,?_⟩
                ·rw[hmi];rfl
                have ha9:a'≤5000:=by
                 have h1:(Q2 ls).length≤1000:=by omega
                 have h2:=Nat.mul_le_mul (show i≤4 by omega) h1
                 omega
                repeat' first|refine And.intro ?_ ?_|(intro h;try first|exact dzq|replace h:=cvq)
                all_goals try exact czq
                refine⟨g,nM g+1,(by show[AVal.int .i64 (gs.getD i 0),_]=_;rw[hge];rfl),by omega,?_⟩
                repeat' first|refine And.intro ?_ ?_|(intro h;try first|exact dzq|replace h:=cvq)
                all_goals try exact czq
                have hcm:QA g k (ls.getD k default).kind l a'=(⟨(wi g 257),(wi (dv g 13) 9000),(wr .u32 g),((p0::pt).map d2),knM g k,⟨wi g (nM g+1),true,Qo (ls.getD k default).kind (l.getD (a'%l.length) default),Qo (ls.getD k default).kind (l.getD (a'%l.length) default)⟩⟩,a'+1):=by
                 unfold QA
                 rw[hck,if_pos ⟨decide_eq_true hkn,hll0⟩]
                have hcs':ZG g l (Q2 ls) a (k+1)=((cs++[(⟨(wi g 257),(wi (dv g 13) 9000),(wr .u32 g),((p0::pt).map d2),knM g k,⟨wi g (nM g+1),true,Qo (ls.getD k default).kind (l.getD (a'%l.length) default),Qo (ls.getD k default).kind (l.getD (a'%l.length) default)⟩⟩:Ck)]),a'+1):=hcs.trans (by rw[hcm])
                repeat' first|refine And.intro ?_ ?_|(intro h;try first|exact dzq|replace h:=cvq)
                all_goals try exact czq
                all_goals(try((with_reducible show(_:Nat)≤_);first|(show(cw.length+1)*120≤_;omega)|(show cw.length+1≤_;omega)))
                refine⟨_,iSo none (bP (((p0::pt).map d2))) s gs l ls (a'+1) i g rz (k+1) (cw++[((⟨(wi g 257),(wi (dv g 13) 9000),(wr .u32 g),((p0::pt).map d2),knM g k,⟨wi g (nM g+1),true,Qo (ls.getD k default).kind (l.getD (a'%l.length) default),Qo (ls.getD k default).kind (l.getD (a'%l.length) default)⟩⟩:Ck),true)]),?_,⟨k+1,(bP (((p0::pt).map d2))),⟨by omega,rfl⟩,⟨hX',by rw[hcs'];exact WV.own hcq hbo _ rfl⟩,by rw[hcs'];dsimp only;(rw[hzn,hbo])<;>rfl⟩,by omega⟩
                refine QG [0,1,2,3,4,10+14*RR+1+10*RR+1+1,6,7,8,9] rfl rfl rfl rfl rfl rfl (by kernel_rfl) ⟨.refl _,.refl _,.refl _,.refl _,.refl _,Qg (by omega),.refl _,.refl _,Qg (by omega),trivial⟩ rfl (fun ρ hρ=>⟨.refl _,.refl _,Qi hρ,trivial⟩) rfl rfl rfl rfl (hX' _ rfl rfl) (fxR _ rfl) ⟨⟨by decide,_,rfl,Q6 (row:=QI (nM g) (Qx 5 11 (cw++[((⟨(wi g 257),(wi (dv g 13) 9000),(wr .u32 g),((p0::pt).map d2),knM g k,⟨wi g (nM g+1),true,Qo (ls.getD k default).kind (l.getD (a'%l.length) default),Qo (ls.getD k default).kind (l.getD (a'%l.length) default)⟩⟩:Ck),true)]))) ⟨.refl _,ZE rfl (by simp;try rfl) (by simp;try rfl),trivial⟩⟩,?_⟩
                exact X2 (fxC (cw++[((⟨(wi g 257),(wi (dv g 13) 9000),(wr .u32 g),((p0::pt).map d2),knM g k,⟨wi g (nM g+1),true,Qo (ls.getD k default).kind (l.getD (a'%l.length) default),Qo (ls.getD k default).kind (l.getD (a'%l.length) default)⟩⟩:Ck),true)]) rfl) (by decide) rfl (by first|(rw[hmi];first|rfl|exact XJ cw ((⟨(wi g 257),(wi (dv g 13) 9000),(wr .u32 g),((p0::pt).map d2),knM g k,⟨wi g (nM g+1),true,Qo (ls.getD k default).kind (l.getD (a'%l.length) default),Qo (ls.getD k default).kind (l.getD (a'%l.length) default)⟩⟩:Ck),true))|rfl|exact XJ cw ((⟨(wi g 257),(wi (dv g 13) 9000),(wr .u32 g),((p0::pt).map d2),knM g k,⟨wi g (nM g+1),true,Qo (ls.getD k default).kind (l.getD (a'%l.length) default),Qo (ls.getD k default).kind (l.getD (a'%l.length) default)⟩⟩:Ck),true)) (by simp;try rfl) trivial
              ·have hcm:QA g k (ls.getD k default).kind l a'=(⟨(wi g 257),(wi (dv g 13) 9000),(wr .u32 g),((p0::pt).map d2),knM g k,default⟩,a'):=by
                unfold QA
                rw[hck,if_neg (fun hh=>hll0 hh.2)]
               repeat' first|refine And.intro ?_ ?_|(intro h;try first|exact dzq|replace h:=cvq)
               all_goals try exact czq
               refine⟨fMo none (bP (((p0::pt).map d2))) s gs l ls a' i g rz k cw (wi g 257) (wi (dv g 13) 9000) (wr .u32 g) ((p0::pt).map d2) false,Reb.trans (s':=UV none v s gs l ls a' i g rz k cw (wi g 257) (wi (dv g 13) 9000) (wr .u32 g) ((p0::pt).map d2) false) (QG [0,1,2,3,4,5,6,7,8,9] rfl rfl rfl rfl rfl rfl (by exact rfl) ⟨.refl _,.refl _,.refl _,.refl _,.refl _,.refl _,.refl _,.refl _,.refl _,.refl _,QY (by first|rfl|rw[if_pos rfl,decide_eq_false (by omega)]),trivial⟩ rfl (fun ρ hρ=>⟨.refl _,.refl _,Qi hρ,trivial⟩) rfl rfl rfl rfl (hX _ rfl rfl) (fxR _ rfl) ⟨⟨by decide,_,rfl,Q6 (row:=QI (nM g) (Qx 5 11 cw)) ⟨.refl _,Qi rfl,trivial⟩⟩,Zh (fxC cw rfl) (by decide) rfl ⟨⟨by decide,_,rfl,Q6 (row:=Zq (wi g 257) (wi (dv g 13) 9000) (wr .u32 g) (.slice 6 0 (((p0::pt).map d2)).length 7 none) (knM g k) 0 false) ⟨.refl _,.refl _,.refl _,Q3 hp7,.refl _,.refl _,.refl _,.refl _,.refl _,.refl _,.refl _,trivial⟩⟩,⟨⟨by decide,_,rfl,Qd (fP _)⟩,trivial⟩⟩⟩) (KJ v s gs l ls a' i g rz k cw (wi g 257) (wi (dv g 13) 9000) (wr .u32 g) ((p0::pt).map d2) false (hRf how _) (hzk hbo _)),?_⟩
               rw[hcm]at hcs
               have hcs':ZG g l (Q2 ls) a (k+1)=((cs++[(⟨(wi g 257),(wi (dv g 13) 9000),(wr .u32 g),((p0::pt).map d2),knM g k,default⟩:Ck)]),a'):=hcs
               repeat' first|refine And.intro ?_ ?_|(intro h;try first|exact dzq|replace h:=cvq)
               all_goals try exact czq
               all_goals(try((with_reducible show(_:Nat)≤_);first|(show(cw.length+1)*120≤_;omega)|(show cw.length+1≤_;omega)))
               exact⟨_,iSo none (bP (((p0::pt).map d2))) s gs l ls a' i g rz (k+1) (cw++[((⟨(wi g 257),(wi (dv g 13) 9000),(wr .u32 g),((p0::pt).map d2),knM g k,default⟩:Ck),true)]),QG [0,1,2,3,4,11,6,7,8,9] rfl rfl rfl rfl rfl rfl (by exact rfl) ⟨.refl _,.refl _,.refl _,.refl _,.refl _,.refl _,.refl _,.refl _,Qg (by omega),trivial⟩ rfl (fun ρ hρ=>⟨.refl _,.refl _,Qi hρ,trivial⟩) rfl rfl rfl rfl (hX' _ rfl rfl) (fxR _ rfl) ⟨⟨by decide,_,rfl,Q6 (row:=QI (nM g) (Qx 5 11 (cw++[((⟨(wi g 257),(wi (dv g 13) 9000),(wr .u32 g),((p0::pt).map d2),knM g k,default⟩:Ck),true)]))) ⟨.refl _,ZE rfl (by simp;try rfl) (by simp;try rfl),trivial⟩⟩,X2 (fxC (cw++[((⟨(wi g 257),(wi (dv g 13) 9000),(wr .u32 g),((p0::pt).map d2),knM g k,default⟩:Ck),true)]) rfl) (by decide) rfl (by first|rfl|exact XJ cw ((⟨(wi g 257),(wi (dv g 13) 9000),(wr .u32 g),((p0::pt).map d2),knM g k,default⟩:Ck),true)) (by simp;try rfl) trivial⟩,⟨k+1,(bP (((p0::pt).map d2))),⟨by omega,rfl⟩,⟨hX',by rw[hcs'];exact WV.own hcq hbo _ rfl⟩,by rw[hcs'];dsimp only;(rw[hzn,hbo])<;>rfl⟩,by omega⟩
             ·have hcm:QA g k (ls.getD k default).kind l a'=(⟨(wi g 257),(wi (dv g 13) 9000),(wr .u32 g),((p0::pt).map d2),knM g k,default⟩,a'):=by
               unfold QA
               rw[hck,if_neg (fun hh=>by have h1:knM g k=true:=hh.1;unfold knM at h1;rw[decide_eq_false hkn]at h1;cases h1)]
              repeat' first|refine And.intro ?_ ?_|(intro h;try first|exact dzq|replace h:=cvq)
              all_goals try exact czq
              refine⟨fMo none (bP (((p0::pt).map d2))) s gs l ls a' i g rz k cw (wi g 257) (wi (dv g 13) 9000) (wr .u32 g) ((p0::pt).map d2) false,Reb.trans (s':=UV none v s gs l ls a' i g rz k cw (wi g 257) (wi (dv g 13) 9000) (wr .u32 g) ((p0::pt).map d2) false) (QG [0,1,2,3,4,5,6,7,8,9] rfl rfl rfl rfl rfl rfl (by exact rfl) ⟨.refl _,.refl _,.refl _,.refl _,.refl _,.refl _,.refl _,.refl _,.refl _,.refl _,QY (by first|rfl|rw[if_pos rfl,decide_eq_false (by omega)]),trivial⟩ rfl (fun ρ hρ=>⟨.refl _,.refl _,Qi hρ,trivial⟩) rfl rfl rfl rfl (hX _ rfl rfl) (fxR _ rfl) ⟨⟨by decide,_,rfl,Q6 (row:=QI (nM g) (Qx 5 11 cw)) ⟨.refl _,Qi rfl,trivial⟩⟩,Zh (fxC cw rfl) (by decide) rfl ⟨⟨by decide,_,rfl,Q6 (row:=Zq (wi g 257) (wi (dv g 13) 9000) (wr .u32 g) (.slice 6 0 (((p0::pt).map d2)).length 7 none) (knM g k) 0 false) ⟨.refl _,.refl _,.refl _,Q3 hp7,.refl _,.refl _,.refl _,.refl _,.refl _,.refl _,.refl _,trivial⟩⟩,⟨⟨by decide,_,rfl,Qd (fP _)⟩,trivial⟩⟩⟩) (KJ v s gs l ls a' i g rz k cw (wi g 257) (wi (dv g 13) 9000) (wr .u32 g) ((p0::pt).map d2) false (hRf how _) (hzk hbo _)),?_⟩
              rw[hcm]at hcs
              have hcs':ZG g l (Q2 ls) a (k+1)=((cs++[(⟨(wi g 257),(wi (dv g 13) 9000),(wr .u32 g),((p0::pt).map d2),knM g k,default⟩:Ck)]),a'):=hcs
              repeat' first|refine And.intro ?_ ?_|(intro h;try first|exact dzq|replace h:=cvq)
              all_goals try exact czq
              all_goals(try((with_reducible show(_:Nat)≤_);first|(show(cw.length+1)*120≤_;omega)|(show cw.length+1≤_;omega)))
              exact⟨_,iSo none (bP (((p0::pt).map d2))) s gs l ls a' i g rz (k+1) (cw++[((⟨(wi g 257),(wi (dv g 13) 9000),(wr .u32 g),((p0::pt).map d2),knM g k,default⟩:Ck),true)]),QG [0,1,2,3,4,11,6,7,8,9] rfl rfl rfl rfl rfl rfl (by exact rfl) ⟨.refl _,.refl _,.refl _,.refl _,.refl _,.refl _,.refl _,.refl _,Qg (by omega),trivial⟩ rfl (fun ρ hρ=>⟨.refl _,.refl _,Qi hρ,trivial⟩) rfl rfl rfl rfl (hX' _ rfl rfl) (fxR _ rfl) ⟨⟨by decide,_,rfl,Q6 (row:=QI (nM g) (Qx 5 11 (cw++[((⟨(wi g 257),(wi (dv g 13) 9000),(wr .u32 g),((p0::pt).map d2),knM g k,default⟩:Ck),true)]))) ⟨.refl _,ZE rfl (by simp;try rfl) (by simp;try rfl),trivial⟩⟩,X2 (fxC (cw++[((⟨(wi g 257),(wi (dv g 13) 9000),(wr .u32 g),((p0::pt).map d2),knM g k,default⟩:Ck),true)]) rfl) (by decide) rfl (by first|rfl|exact XJ cw ((⟨(wi g 257),(wi (dv g 13) 9000),(wr .u32 g),((p0::pt).map d2),knM g k,default⟩:Ck),true)) (by simp;try rfl) trivial⟩,⟨k+1,(bP (((p0::pt).map d2))),⟨by omega,rfl⟩,⟨hX',by rw[hcs'];exact WV.own hcq hbo _ rfl⟩,by rw[hcs'];dsimp only;(rw[hzn,hbo])<;>rfl⟩,by omega⟩
        ·have hck:XK g k=⟨0,0,0,p0::pt,knM g k,default⟩:=by unfold XK;rw[if_neg hd,←hpe];rfl
         cases hbo:(ow&&Nat.beq k kg)
         ·have hp6:0<((p0::pt)).length:=by simp
          have hp7:(p0::pt).length=((p0::pt)).length:=by simp
          by_cases hkn:0<wi (dv g 3+k) 3
          ·by_cases hll0:0<l.length
           · repeat' first|refine And.intro ?_ ?_|(intro h;try first|exact dzq|replace h:=cvq)
             all_goals try exact czq
             refine⟨fSo u v s gs l ls a' i g rz k cw 0 0 0 (p0::pt) true,Reb.trans (s':=UV u v s gs l ls a' i g rz k cw 0 0 0 (p0::pt) true) (QG [0,1,2,3,4,5,6,7,8,9] rfl rfl rfl rfl rfl rfl (by exact rfl) ⟨.refl _,.refl _,.refl _,.refl _,.refl _,.refl _,.refl _,.refl _,.refl _,.refl _,QY (by rw[if_pos rfl,decide_eq_true (by omega)]),trivial⟩ rfl (fun ρ hρ=>⟨.refl _,.refl _,Qi hρ,trivial⟩) rfl rfl rfl rfl (hX _ rfl rfl) (fxR _ rfl) ⟨⟨by decide,_,rfl,Q6 (row:=QI (nM g) (Qx 5 11 cw)) ⟨.refl _,Qi rfl,trivial⟩⟩,Zh (fxC cw rfl) (by decide) rfl ⟨⟨by decide,_,rfl,Q6 (row:=Zq 0 0 0 (.slice 6 0 ((p0::pt)).length 7 none) (knM g k) 0 false) ⟨.refl _,.refl _,.refl _,Q3 hp7,.refl _,.refl _,.refl _,.refl _,.refl _,.refl _,.refl _,trivial⟩⟩,⟨⟨by decide,_,rfl,Qd (fP _)⟩,trivial⟩⟩⟩) (KK u v s gs l ls a' i g rz k cw 0 0 0 (p0::pt) true hp6),?_⟩
             have hmi:((a':Nat):Int).tmod ((l.length:Nat):Int)=((a'%l.length:Nat):Int):=(Int.ofNat_tmod ..).symm
             have hmlt:=Nat.mod_lt a' hll0
             repeat' first|refine And.intro ?_ ?_|(intro h;try first|exact dzq|replace h:=cvq)
             all_goals try exact czq
             refine⟨(ls.getD k default).kind,l.getD (a'%l.length) default,?_,?_⟩
             ·rw[hmi];rfl
             have ha9:a'≤5000:=by
              have h1:(Q2 ls).length≤1000:=by omega
              have h2:=Nat.mul_le_mul (show i≤4 by omega) h1
              omega
             repeat' first|refine And.intro ?_ ?_|(intro h;try first|exact dzq|replace h:=cvq)
             all_goals try exact czq
             refine⟨g,nM g+1,(by show[AVal.int .i64 (gs.getD i 0),_]=_;rw[hge];rfl),by omega,?_⟩
             repeat' first|refine And.intro ?_ ?_|(intro h;try first|exact dzq|replace h:=cvq)
             all_goals try exact czq
             have hcm:QA g k (ls.getD k default).kind l a'=(⟨0,0,0,(p0::pt),knM g k,⟨wi g (nM g+1),true,Qo (ls.getD k default).kind (l.getD (a'%l.length) default),Qo (ls.getD k default).kind (l.getD (a'%l.length) default)⟩⟩,a'+1):=by
              unfold QA
              rw[hck,if_pos ⟨decide_eq_true hkn,hll0⟩]
             have hcs':ZG g l (Q2 ls) a (k+1)=((cs++[(⟨0,0,0,(p0::pt),knM g k,⟨wi g (nM g+1),true,Qo (ls.getD k default).kind (l.getD (a'%l.length) default),Qo (ls.getD k default).kind (l.getD (a'%l.length) default)⟩⟩:Ck)]),a'+1):=hcs.trans (by rw[hcm])
             repeat' first|refine And.intro ?_ ?_|(intro h;try first|exact dzq|replace h:=cvq)
             all_goals try exact czq
             all_goals(try((with_reducible show(_:Nat)≤_);first|(show(cw.length+1)*120≤_;omega)|(show cw.length+1≤_;omega)))
             refine⟨_,iSo u v s gs l ls (a'+1) i g rz (k+1) (cw++[((⟨0,0,0,(p0::pt),knM g k,⟨wi g (nM g+1),true,Qo (ls.getD k default).kind (l.getD (a'%l.length) default),Qo (ls.getD k default).kind (l.getD (a'%l.length) default)⟩⟩:Ck),false)]),?_,⟨k+1,v,⟨by omega,rfl⟩,⟨hX,by rw[hcs'];exact hW.step hcq hbo _⟩,by rw[hcs'];dsimp only;(rw[hzn,hbo])<;>rfl⟩,by omega⟩
             refine QG [0,1,2,3,4,10+14*RR+1+10*RR+1+1,6,7,8,9] rfl rfl rfl rfl rfl rfl (by kernel_rfl) ⟨.refl _,.refl _,.refl _,.refl _,.refl _,Qg (by omega),.refl _,.refl _,Qg (by omega),trivial⟩ rfl (fun ρ hρ=>⟨.refl _,.refl _,Qi hρ,trivial⟩) rfl rfl rfl rfl (hX _ rfl rfl) (fxR _ rfl) ⟨⟨by decide,_,rfl,Q6 (row:=QI (nM g) (Qx 5 11 (cw++[((⟨0,0,0,(p0::pt),knM g k,⟨wi g (nM g+1),true,Qo (ls.getD k default).kind (l.getD (a'%l.length) default),Qo (ls.getD k default).kind (l.getD (a'%l.length) default)⟩⟩:Ck),false)]))) ⟨.refl _,ZE rfl (by simp;try rfl) (by simp;try rfl),trivial⟩⟩,?_⟩
             exact X2 (fxC (cw++[((⟨0,0,0,(p0::pt),knM g k,⟨wi g (nM g+1),true,Qo (ls.getD k default).kind (l.getD (a'%l.length) default),Qo (ls.getD k default).kind (l.getD (a'%l.length) default)⟩⟩:Ck),false)]) rfl) (by decide) rfl (by first|(rw[hmi];first|rfl|exact XJ cw ((⟨0,0,0,(p0::pt),knM g k,⟨wi g (nM g+1),true,Qo (ls.getD k default).kind (l.getD (a'%l.length) default),Qo (ls.getD k default).kind (l.getD (a'%l.length) default)⟩⟩:Ck),false))|rfl|exact XJ cw ((⟨0,0,0,(p0::pt),knM g k,⟨wi g (nM g+1),true,Qo (ls.getD k default).kind (l.getD (a'%l.length) default),Qo (ls.getD k default).kind (l.getD (a'%l.length) default)⟩⟩:Ck),false)) (by simp;try rfl) trivial
           ·have hcm:QA g k (ls.getD k default).kind l a'=(⟨0,0,0,(p0::pt),knM g k,default⟩,a'):=by
             unfold QA
             rw[hck,if_neg (fun hh=>hll0 hh.2)]
            repeat' first|refine And.intro ?_ ?_|(intro h;try first|exact dzq|replace h:=cvq)
            all_goals try exact czq
            refine⟨fSo u v s gs l ls a' i g rz k cw 0 0 0 (p0::pt) false,Reb.trans (s':=UV u v s gs l ls a' i g rz k cw 0 0 0 (p0::pt) false) (QG [0,1,2,3,4,5,6,7,8,9] rfl rfl rfl rfl rfl rfl (by exact rfl) ⟨.refl _,.refl _,.refl _,.refl _,.refl _,.refl _,.refl _,.refl _,.refl _,.refl _,QY (by first|rfl|rw[if_pos rfl,decide_eq_false (by omega)]),trivial⟩ rfl (fun ρ hρ=>⟨.refl _,.refl _,Qi hρ,trivial⟩) rfl rfl rfl rfl (hX _ rfl rfl) (fxR _ rfl) ⟨⟨by decide,_,rfl,Q6 (row:=QI (nM g) (Qx 5 11 cw)) ⟨.refl _,Qi rfl,trivial⟩⟩,Zh (fxC cw rfl) (by decide) rfl ⟨⟨by decide,_,rfl,Q6 (row:=Zq 0 0 0 (.slice 6 0 ((p0::pt)).length 7 none) (knM g k) 0 false) ⟨.refl _,.refl _,.refl _,Q3 hp7,.refl _,.refl _,.refl _,.refl _,.refl _,.refl _,.refl _,trivial⟩⟩,⟨⟨by decide,_,rfl,Qd (fP _)⟩,trivial⟩⟩⟩) (KK u v s gs l ls a' i g rz k cw 0 0 0 (p0::pt) false hp6),?_⟩
            rw[hcm]at hcs
            have hcs':ZG g l (Q2 ls) a (k+1)=((cs++[(⟨0,0,0,(p0::pt),knM g k,default⟩:Ck)]),a'):=hcs
            repeat' first|refine And.intro ?_ ?_|(intro h;try first|exact dzq|replace h:=cvq)
            all_goals try exact czq
            all_goals(try((with_reducible show(_:Nat)≤_);first|(show(cw.length+1)*120≤_;omega)|(show cw.length+1≤_;omega)))
            exact⟨_,iSo u v s gs l ls a' i g rz (k+1) (cw++[((⟨0,0,0,(p0::pt),knM g k,default⟩:Ck),false)]),QG [0,1,2,3,4,11,6,7,8,9] rfl rfl rfl rfl rfl rfl (by exact rfl) ⟨.refl _,.refl _,.refl _,.refl _,.refl _,.refl _,.refl _,.refl _,Qg (by omega),trivial⟩ rfl (fun ρ hρ=>⟨.refl _,.refl _,Qi hρ,trivial⟩) rfl rfl rfl rfl (hX _ rfl rfl) (fxR _ rfl) ⟨⟨by decide,_,rfl,Q6 (row:=QI (nM g) (Qx 5 11 (cw++[((⟨0,0,0,(p0::pt),knM g k,default⟩:Ck),false)]))) ⟨.refl _,ZE rfl (by simp;try rfl) (by simp;try rfl),trivial⟩⟩,X2 (fxC (cw++[((⟨0,0,0,(p0::pt),knM g k,default⟩:Ck),false)]) rfl) (by decide) rfl (by first|rfl|exact XJ cw ((⟨0,0,0,(p0::pt),knM g k,default⟩:Ck),false)) (by simp;try rfl) trivial⟩,⟨k+1,v,⟨by omega,rfl⟩,⟨hX,by rw[hcs'];exact hW.step hcq hbo _⟩,by rw[hcs'];dsimp only;(rw[hzn,hbo])<;>rfl⟩,by omega⟩
          ·have hcm:QA g k (ls.getD k default).kind l a'=(⟨0,0,0,(p0::pt),knM g k,default⟩,a'):=by
            unfold QA
            rw[hck,if_neg (fun hh=>by have h1:knM g k=true:=hh.1;unfold knM at h1;rw[decide_eq_false hkn]at h1;cases h1)]
           repeat' first|refine And.intro ?_ ?_|(intro h;try first|exact dzq|replace h:=cvq)
           all_goals try exact czq
           refine⟨fSo u v s gs l ls a' i g rz k cw 0 0 0 (p0::pt) false,Reb.trans (s':=UV u v s gs l ls a' i g rz k cw 0 0 0 (p0::pt) false) (QG [0,1,2,3,4,5,6,7,8,9] rfl rfl rfl rfl rfl rfl (by exact rfl) ⟨.refl _,.refl _,.refl _,.refl _,.refl _,.refl _,.refl _,.refl _,.refl _,.refl _,QY (by first|rfl|rw[if_pos rfl,decide_eq_false (by omega)]),trivial⟩ rfl (fun ρ hρ=>⟨.refl _,.refl _,Qi hρ,trivial⟩) rfl rfl rfl rfl (hX _ rfl rfl) (fxR _ rfl) ⟨⟨by decide,_,rfl,Q6 (row:=QI (nM g) (Qx 5 11 cw)) ⟨.refl _,Qi rfl,trivial⟩⟩,Zh (fxC cw rfl) (by decide) rfl ⟨⟨by decide,_,rfl,Q6 (row:=Zq 0 0 0 (.slice 6 0 ((p0::pt)).length 7 none) (knM g k) 0 false) ⟨.refl _,.refl _,.refl _,Q3 hp7,.refl _,.refl _,.refl _,.refl _,.refl _,.refl _,.refl _,trivial⟩⟩,⟨⟨by decide,_,rfl,Qd (fP _)⟩,trivial⟩⟩⟩) (KK u v s gs l ls a' i g rz k cw 0 0 0 (p0::pt) false hp6),?_⟩
           rw[hcm]at hcs
           have hcs':ZG g l (Q2 ls) a (k+1)=((cs++[(⟨0,0,0,(p0::pt),knM g k,default⟩:Ck)]),a'):=hcs
           repeat' first|refine And.intro ?_ ?_|(intro h;try first|exact dzq|replace h:=cvq)
           all_goals try exact czq
           all_goals(try((with_reducible show(_:Nat)≤_);first|(show(cw.length+1)*120≤_;omega)|(show cw.length+1≤_;omega)))
           exact⟨_,iSo u v s gs l ls a' i g rz (k+1) (cw++[((⟨0,0,0,(p0::pt),knM g k,default⟩:Ck),false)]),QG [0,1,2,3,4,11,6,7,8,9] rfl rfl rfl rfl rfl rfl (by exact rfl) ⟨.refl _,.refl _,.refl _,.refl _,.refl _,.refl _,.refl _,.refl _,Qg (by omega),trivial⟩ rfl (fun ρ hρ=>⟨.refl _,.refl _,Qi hρ,trivial⟩) rfl rfl rfl rfl (hX _ rfl rfl) (fxR _ rfl) ⟨⟨by decide,_,rfl,Q6 (row:=QI (nM g) (Qx 5 11 (cw++[((⟨0,0,0,(p0::pt),knM g k,default⟩:Ck),false)]))) ⟨.refl _,ZE rfl (by simp;try rfl) (by simp;try rfl),trivial⟩⟩,X2 (fxC (cw++[((⟨0,0,0,(p0::pt),knM g k,default⟩:Ck),false)]) rfl) (by decide) rfl (by first|rfl|exact XJ cw ((⟨0,0,0,(p0::pt),knM g k,default⟩:Ck),false)) (by simp;try rfl) trivial⟩,⟨k+1,v,⟨by omega,rfl⟩,⟨hX,by rw[hcs'];exact hW.step hcq hbo _⟩,by rw[hcs'];dsimp only;(rw[hzn,hbo])<;>rfl⟩,by omega⟩
         ·have how:ow=true:=by simp only[Bool.and_eq_true]at hbo;exact hbo.1
          obtain rfl:u=none:=hun how
          have hX':=hX.page ((p0::pt))
          have hp6:0<((p0::pt)).length:=by simp
          have hp7:(p0::pt).length=((p0::pt)).length:=by simp
          by_cases hkn:0<wi (dv g 3+k) 3
          ·by_cases hll0:0<l.length
           · repeat' first|refine And.intro ?_ ?_|(intro h;try first|exact dzq|replace h:=cvq)
             all_goals try exact czq
             refine⟨fMo none (bP ((p0::pt))) s gs l ls a' i g rz k cw 0 0 0 (p0::pt) true,Reb.trans (s':=UV none v s gs l ls a' i g rz k cw 0 0 0 (p0::pt) true) (QG [0,1,2,3,4,5,6,7,8,9] rfl rfl rfl rfl rfl rfl (by exact rfl) ⟨.refl _,.refl _,.refl _,.refl _,.refl _,.refl _,.refl _,.refl _,.refl _,.refl _,QY (by rw[if_pos rfl,decide_eq_true (by omega)]),trivial⟩ rfl (fun ρ hρ=>⟨.refl _,.refl _,Qi hρ,trivial⟩) rfl rfl rfl rfl (hX _ rfl rfl) (fxR _ rfl) ⟨⟨by decide,_,rfl,Q6 (row:=QI (nM g) (Qx 5 11 cw)) ⟨.refl _,Qi rfl,trivial⟩⟩,Zh (fxC cw rfl) (by decide) rfl ⟨⟨by decide,_,rfl,Q6 (row:=Zq 0 0 0 (.slice 6 0 ((p0::pt)).length 7 none) (knM g k) 0 false) ⟨.refl _,.refl _,.refl _,Q3 hp7,.refl _,.refl _,.refl _,.refl _,.refl _,.refl _,.refl _,trivial⟩⟩,⟨⟨by decide,_,rfl,Qd (fP _)⟩,trivial⟩⟩⟩) (KJ v s gs l ls a' i g rz k cw 0 0 0 (p0::pt) true (hRf how _) (hzk hbo _)),?_⟩
             have hmi:((a':Nat):Int).tmod ((l.length:Nat):Int)=((a'%l.length:Nat):Int):=(Int.ofNat_tmod ..).symm
             have hmlt:=Nat.mod_lt a' hll0
             repeat' first|refine And.intro ?_ ?_|(intro h;try first|exact dzq|replace h:=cvq)
             all_goals try exact czq
             refine⟨(ls.getD k default).kind,l.getD (a'%l.length) default,?_,?_⟩
             ·rw[hmi];rfl
             have ha9:a'≤5000:=by
              have h1:(Q2 ls).length≤1000:=by omega
              have h2:=Nat.mul_le_mul (show i≤4 by omega) h1
              omega
             repeat' first|refine And.intro ?_ ?_|(intro h;try first|exact dzq|replace h:=cvq)
             all_goals try exact czq
             refine⟨g,nM g+1,(by show[AVal.int .i64 (gs.getD i 0),_]=_;rw[hge];rfl),by omega,?_⟩
             repeat' first|refine And.intro ?_ ?_|(intro h;try first|exact dzq|replace h:=cvq)
             all_goals try exact czq
             have hcm:QA g k (ls.getD k default).kind l a'=(⟨0,0,0,(p0::pt),knM g k,⟨wi g (nM g+1),true,Qo (ls.getD k default).kind (l.getD (a'%l.length) default),Qo (ls.getD k default).kind (l.getD (a'%l.length) default)⟩⟩,a'+1):=by
              unfold QA
              rw[hck,if_pos ⟨decide_eq_true hkn,hll0⟩]
             have hcs':ZG g l (Q2 ls) a (k+1)=((cs++[(⟨0,0,0,(p0::pt),knM g k,⟨wi g (nM g+1),true,Qo (ls.getD k default).kind (l.getD (a'%l.length) default),Qo (ls.getD k default).kind (l.getD (a'%l.length) default)⟩⟩:Ck)]),a'+1):=hcs.trans (by rw[hcm])
             repeat' first|refine And.intro ?_ ?_|(intro h;try first|exact dzq|replace h:=cvq)
             all_goals try exact czq
             all_goals(try((with_reducible show(_:Nat)≤_);first|(show(cw.length+1)*120≤_;omega)|(show cw.length+1≤_;omega)))
             refine⟨_,iSo none (bP ((p0::pt))) s gs l ls (a'+1) i g rz (k+1) (cw++[((⟨0,0,0,(p0::pt),knM g k,⟨wi g (nM g+1),true,Qo (ls.getD k default).kind (l.getD (a'%l.length) default),Qo (ls.getD k default).kind (l.getD (a'%l.length) default)⟩⟩:Ck),true)]),?_,⟨k+1,(bP ((p0::pt))),⟨by omega,rfl⟩,⟨hX',by rw[hcs'];exact WV.own hcq hbo _ rfl⟩,by rw[hcs'];dsimp only;(rw[hzn,hbo])<;>rfl⟩,by omega⟩
             refine QG [0,1,2,3,4,10+14*RR+1+10*RR+1+1,6,7,8,9] rfl rfl rfl rfl rfl rfl (by kernel_rfl) ⟨.refl _,.refl _,.refl _,.refl _,.refl _,Qg (by omega),.refl _,.refl _,Qg (by omega),trivial⟩ rfl (fun ρ hρ=>⟨.refl _,.refl _,Qi hρ,trivial⟩) rfl rfl rfl rfl (hX' _ rfl rfl) (fxR _ rfl) ⟨⟨by decide,_,rfl,Q6 (row:=QI (nM g) (Qx 5 11 (cw++[((⟨0,0,0,(p0::pt),knM g k,⟨wi g (nM g+1),true,Qo (ls.getD k default).kind (l.getD (a'%l.length) default),Qo (ls.getD k default).kind (l.getD (a'%l.length) default)⟩⟩:Ck),true)]))) ⟨.refl _,ZE rfl (by simp;try rfl) (by simp;try rfl),trivial⟩⟩,?_⟩
             exact X2 (fxC (cw++[((⟨0,0,0,(p0::pt),knM g k,⟨wi g (nM g+1),true,Qo (ls.getD k default).kind (l.getD (a'%l.length) default),Qo (ls.getD k default).kind (l.getD (a'%l.length) default)⟩⟩:Ck),true)]) rfl) (by decide) rfl (by first|(rw[hmi];first|rfl|exact XJ cw ((⟨0,0,0,(p0::pt),knM g k,⟨wi g (nM g+1),true,Qo (ls.getD k default).kind (l.getD (a'%l.length) default),Qo (ls.getD k default).kind (l.getD (a'%l.length) default)⟩⟩:Ck),true))|rfl|exact XJ cw ((⟨0,0,0,(p0::pt),knM g k,⟨wi g (nM g+1),true,Qo (ls.getD k default).kind (l.getD (a'%l.length) default),Qo (ls.getD k default).kind (l.getD (a'%l.length) default)⟩⟩:Ck),true)) (by simp;try rfl) trivial
           ·have hcm:QA g k (ls.getD k default).kind l a'=(⟨0,0,0,(p0::pt),knM g k,default⟩,a'):=by
             unfold QA
             rw[hck,if_neg (fun hh=>hll0 hh.2)]
            repeat' first|refine And.intro ?_ ?_|(intro h;try first|exact dzq|replace h:=cvq)
            all_goals try exact czq
            refine⟨fMo none (bP ((p0::pt))) s gs l ls a' i g rz k cw 0 0 0 (p0::pt) false,Reb.trans (s':=UV none v s gs l ls a' i g rz k cw 0 0 0 (p0::pt) false) (QG [0,1,2,3,4,5,6,7,8,9] rfl rfl rfl rfl rfl rfl (by exact rfl) ⟨.refl _,.refl _,.refl _,.refl _,.refl _,.refl _,.refl _,.refl _,.refl _,.refl _,QY (by first|rfl|rw[if_pos rfl,decide_eq_false (by omega)]),trivial⟩ rfl (fun ρ hρ=>⟨.refl _,.refl _,Qi hρ,trivial⟩) rfl rfl rfl rfl (hX _ rfl rfl) (fxR _ rfl) ⟨⟨by decide,_,rfl,Q6 (row:=QI (nM g) (Qx 5 11 cw)) ⟨.refl _,Qi rfl,trivial⟩⟩,Zh (fxC cw rfl) (by decide) rfl ⟨⟨by decide,_,rfl,Q6 (row:=Zq 0 0 0 (.slice 6 0 ((p0::pt)).length 7 none) (knM g k) 0 false) ⟨.refl _,.refl _,.refl _,Q3 hp7,.refl _,.refl _,.refl _,.refl _,.refl _,.refl _,.refl _,trivial⟩⟩,⟨⟨by decide,_,rfl,Qd (fP _)⟩,trivial⟩⟩⟩) (KJ v s gs l ls a' i g rz k cw 0 0 0 (p0::pt) false (hRf how _) (hzk hbo _)),?_⟩
            rw[hcm]at hcs
            have hcs':ZG g l (Q2 ls) a (k+1)=((cs++[(⟨0,0,0,(p0::pt),knM g k,default⟩:Ck)]),a'):=hcs
            repeat' first|refine And.intro ?_ ?_|(intro h;try first|exact dzq|replace h:=cvq)
            all_goals try exact czq
            all_goals(try((with_reducible show(_:Nat)≤_);first|(show(cw.length+1)*120≤_;omega)|(show cw.length+1≤_;omega)))
            exact⟨_,iSo none (bP ((p0::pt))) s gs l ls a' i g rz (k+1) (cw++[((⟨0,0,0,(p0::pt),knM g k,default⟩:Ck),true)]),QG [0,1,2,3,4,11,6,7,8,9] rfl rfl rfl rfl rfl rfl (by exact rfl) ⟨.refl _,.refl _,.refl _,.refl _,.refl _,.refl _,.refl _,.refl _,Qg (by omega),trivial⟩ rfl (fun ρ hρ=>⟨.refl _,.refl _,Qi hρ,trivial⟩) rfl rfl rfl rfl (hX' _ rfl rfl) (fxR _ rfl) ⟨⟨by decide,_,rfl,Q6 (row:=QI (nM g) (Qx 5 11 (cw++[((⟨0,0,0,(p0::pt),knM g k,default⟩:Ck),true)]))) ⟨.refl _,ZE rfl (by simp;try rfl) (by simp;try rfl),trivial⟩⟩,X2 (fxC (cw++[((⟨0,0,0,(p0::pt),knM g k,default⟩:Ck),true)]) rfl) (by decide) rfl (by first|rfl|exact XJ cw ((⟨0,0,0,(p0::pt),knM g k,default⟩:Ck),true)) (by simp;try rfl) trivial⟩,⟨k+1,(bP ((p0::pt))),⟨by omega,rfl⟩,⟨hX',by rw[hcs'];exact WV.own hcq hbo _ rfl⟩,by rw[hcs'];dsimp only;(rw[hzn,hbo])<;>rfl⟩,by omega⟩
          ·have hcm:QA g k (ls.getD k default).kind l a'=(⟨0,0,0,(p0::pt),knM g k,default⟩,a'):=by
            unfold QA
            rw[hck,if_neg (fun hh=>by have h1:knM g k=true:=hh.1;unfold knM at h1;rw[decide_eq_false hkn]at h1;cases h1)]
           repeat' first|refine And.intro ?_ ?_|(intro h;try first|exact dzq|replace h:=cvq)
           all_goals try exact czq
           refine⟨fMo none (bP ((p0::pt))) s gs l ls a' i g rz k cw 0 0 0 (p0::pt) false,Reb.trans (s':=UV none v s gs l ls a' i g rz k cw 0 0 0 (p0::pt) false) (QG [0,1,2,3,4,5,6,7,8,9] rfl rfl rfl rfl rfl rfl (by exact rfl) ⟨.refl _,.refl _,.refl _,.refl _,.refl _,.refl _,.refl _,.refl _,.refl _,.refl _,QY (by first|rfl|rw[if_pos rfl,decide_eq_false (by omega)]),trivial⟩ rfl (fun ρ hρ=>⟨.refl _,.refl _,Qi hρ,trivial⟩) rfl rfl rfl rfl (hX _ rfl rfl) (fxR _ rfl) ⟨⟨by decide,_,rfl,Q6 (row:=QI (nM g) (Qx 5 11 cw)) ⟨.refl _,Qi rfl,trivial⟩⟩,Zh (fxC cw rfl) (by decide) rfl ⟨⟨by decide,_,rfl,Q6 (row:=Zq 0 0 0 (.slice 6 0 ((p0::pt)).length 7 none) (knM g k) 0 false) ⟨.refl _,.refl _,.refl _,Q3 hp7,.refl _,.refl _,.refl _,.refl _,.refl _,.refl _,.refl _,trivial⟩⟩,⟨⟨by decide,_,rfl,Qd (fP _)⟩,trivial⟩⟩⟩) (KJ v s gs l ls a' i g rz k cw 0 0 0 (p0::pt) false (hRf how _) (hzk hbo _)),?_⟩
           rw[hcm]at hcs
           have hcs':ZG g l (Q2 ls) a (k+1)=((cs++[(⟨0,0,0,(p0::pt),knM g k,default⟩:Ck)]),a'):=hcs
           repeat' first|refine And.intro ?_ ?_|(intro h;try first|exact dzq|replace h:=cvq)
           all_goals try exact czq
           all_goals(try((with_reducible show(_:Nat)≤_);first|(show(cw.length+1)*120≤_;omega)|(show cw.length+1≤_;omega)))
           exact⟨_,iSo none (bP ((p0::pt))) s gs l ls a' i g rz (k+1) (cw++[((⟨0,0,0,(p0::pt),knM g k,default⟩:Ck),true)]),QG [0,1,2,3,4,11,6,7,8,9] rfl rfl rfl rfl rfl rfl (by exact rfl) ⟨.refl _,.refl _,.refl _,.refl _,.refl _,.refl _,.refl _,.refl _,Qg (by omega),trivial⟩ rfl (fun ρ hρ=>⟨.refl _,.refl _,Qi hρ,trivial⟩) rfl rfl rfl rfl (hX' _ rfl rfl) (fxR _ rfl) ⟨⟨by decide,_,rfl,Q6 (row:=QI (nM g) (Qx 5 11 (cw++[((⟨0,0,0,(p0::pt),knM g k,default⟩:Ck),true)]))) ⟨.refl _,ZE rfl (by simp;try rfl) (by simp;try rfl),trivial⟩⟩,X2 (fxC (cw++[((⟨0,0,0,(p0::pt),knM g k,default⟩:Ck),true)]) rfl) (by decide) rfl (by first|rfl|exact XJ cw ((⟨0,0,0,(p0::pt),knM g k,default⟩:Ck),true)) (by simp;try rfl) trivial⟩,⟨k+1,(bP ((p0::pt))),⟨by omega,rfl⟩,⟨hX',by rw[hcs'];exact WV.own hcq hbo _ rfl⟩,by rw[hcs'];dsimp only;(rw[hzn,hbo])<;>rfl⟩,by omega⟩
     skip)
   ·obtain rfl:k=ls.length:=by omega
    have hce:QZ g l (Q2 ls) 0 a=ZG g l (Q2 ls) a ls.length:=by rw[Fq _ _ _ _ _ (by omega),←hkl,List.take_length]
    rw[hce]at hst
    have hcq:=Vx g l (Q2 ls) a ls.length
    generalize ZG g l (Q2 ls) a ls.length=qc at *
    obtain⟨cs,a'⟩:=qc
    dsimp only at hst hcq hW
    clear hce
    have hzl:(mkd ow kg 0 cs).length=cs.length:=YR ow kg cs 0
    have hzf:ow=false→(mkd ow kg 0 cs).map encCo=cs.map encC:=fun h=>by rw[h];exact HB kg cs 0
    have hbc:ow=true→(some (.cells ((mkd ow kg 0 cs).map encCo) false):Option Blk)=bC kg cs:=fun h=>by rw[h]
    generalize mkd ow kg 0 cs=cy at *
    repeat' first|refine And.intro ?_ ?_|(intro h;try first|exact dzq|replace h:=cvq)
    all_goals try exact czq
    have hsn:∀b,XD (rz++[((⟨nM g,cs⟩:Rw),b)])=XD rz+nM g:=fun b=>EP _ _ _
    cases how:ow
    ·obtain rfl:v=v0:=by
      rcases hW with⟨_,h⟩|⟨h,_⟩|⟨h,_⟩
      ·exact h
      ·rw[how]at h;cases h
      ·rw[how]at h;cases h
     refine⟨hSo u v s gs l ls a' i g rz (encR ⟨nM g,cs⟩),Reb.trans (s':=Lp u v s gs l ls a' i g rz cy) (QG [0,1,2,3,4,5,6,7,8,9] rfl rfl rfl rfl rfl rfl (by exact rfl) ⟨.refl _,.refl _,.refl _,.refl _,.refl _,.refl _,.refl _,.refl _,QY (by rw[decide_eq_false (by omega)]),trivial⟩ rfl (fun ρ hρ=>⟨.refl _,.refl _,Qi hρ,trivial⟩) rfl rfl rfl rfl (hX _ rfl rfl) (fxR _ rfl) ⟨⟨by decide,_,rfl,Q6 (row:=QI (nM g) (Qx 5 11 cy)) ⟨.refl _,Qi rfl,trivial⟩⟩,Zh (fxC cy rfl) (by decide) rfl trivial⟩) (NR u v hX s gs l ls a' i g rz cy cs (hzf how)),?_⟩
     have hV1:VO ig kg (rs++[⟨nM g,cs⟩]) (i+1) u v:=hVO.step hrl (hoi.symm.trans how) _
     repeat' first|refine And.intro ?_ ?_|(intro h;try first|exact dzq|replace h:=cvq)
     all_goals try exact czq
     all_goals(try((with_reducible show(_:Nat)≤_);first|omega|(show((rz).length+1)*16≤_;omega)|(show(rz).length+1≤_;omega)))
     exact⟨_,oSo u v s gs l ls a' (i+1) (XD (rz++[((⟨nM g,cs⟩:Rw),false)])) (rz++[((⟨nM g,cs⟩:Rw),false)]),D6 (K:=11) [0,1,2,11,4,5,6,7,8,9] rfl rfl rfl rfl rfl rfl (by exact rfl) ⟨.refl _,.refl _,.refl _,.refl _,.refl _,.refl _,Qg (by omega),trivial⟩ rfl (fun ρ hρ=>⟨.refl _,Qg (hsn _).symm,ZE hρ (by simp;try rfl) (by simp;try rfl),trivial⟩) rfl rfl (by first|rfl|exact HW rz ((⟨nM g,cs⟩:Rw),false)) (by simp;try rfl) rfl rfl (hX _ rfl rfl) (fxR _ rfl) trivial,⟨i+1,u,v,⟨by omega,rfl⟩,⟨hX,by rw[hst];exact hV1⟩,by rw[hst];dsimp only;(rw[hzr,←hoi,how])<;>rfl⟩,by omega⟩
    ·obtain rfl:u=none:=hun how
     obtain⟨P,rfl,hP⟩:∃P,v=bP P∧(cs.getD kg default).pages=P:=by
      rcases hW with⟨h,_⟩|⟨_,h,_⟩|⟨_,_,h⟩
      ·rw[how]at h;cases h
      ·omega
      ·exact h
     refine⟨hSo (some (.cells (cy.map encCo) false)) (bP P) s gs l ls a' i g rz [.int .i64 (nM g),.slice 7 0 cy.length 11 none],Reb.trans (s':=Lp none (bP P) s gs l ls a' i g rz cy) (QG [0,1,2,3,4,5,6,7,8,9] rfl rfl rfl rfl rfl rfl (by exact rfl) ⟨.refl _,.refl _,.refl _,.refl _,.refl _,.refl _,.refl _,.refl _,QY (by rw[decide_eq_false (by omega)]),trivial⟩ rfl (fun ρ hρ=>⟨.refl _,.refl _,Qi hρ,trivial⟩) rfl rfl rfl rfl (hX _ rfl rfl) (fxR _ rfl) ⟨⟨by decide,_,rfl,Q6 (row:=QI (nM g) (Qx 5 11 cy)) ⟨.refl _,Qi rfl,trivial⟩⟩,Zh (fxC cy rfl) (by decide) rfl trivial⟩) (NQ P s gs l ls a' i g rz cy (by omega) (hRf how _)),?_⟩
     have hX:=hX.chunk cy
     rw[hzl]
     have hV1:VO ig kg (rs++[⟨nM g,cs⟩]) (i+1) (some (.cells (cy.map encCo) false)) (bP P):=by rw[hbc how];exact VO.own hrl (hoi.symm.trans how) _ cs rfl hP
     repeat' first|refine And.intro ?_ ?_|(intro h;try first|exact dzq|replace h:=cvq)
     all_goals try exact czq
     all_goals(try((with_reducible show(_:Nat)≤_);first|omega|(show((rz).length+1)*16≤_;omega)|(show(rz).length+1≤_;omega)))
     exact⟨_,oSo (some (.cells (cy.map encCo) false)) (bP P) s gs l ls a' (i+1) (XD (rz++[((⟨nM g,cs⟩:Rw),true)])) (rz++[((⟨nM g,cs⟩:Rw),true)]),D6 (K:=11) [0,1,2,11,4,5,6,7,8,9] rfl rfl rfl rfl rfl rfl (by exact rfl) ⟨.refl _,.refl _,.refl _,.refl _,.refl _,.refl _,Qg (by omega),trivial⟩ rfl (fun ρ hρ=>⟨.refl _,Qg (hsn _).symm,ZE hρ (by simp;try rfl) (by simp;try rfl),trivial⟩) rfl rfl (by first|rfl|exact HW rz ((⟨nM g,cs⟩:Rw),true)) (by simp;try rfl) rfl rfl (hX _ rfl rfl) (fxR _ rfl) trivial,⟨i+1,(some (.cells (cy.map encCo) false)),(bP P),⟨by omega,rfl⟩,⟨hX,by rw[hst];exact hV1⟩,by rw[hst];dsimp only;(rw[hzr,←hoi,how])<;>rfl⟩,by omega⟩
   skip)
 ·obtain rfl:i=(gs.take 4).length:=by omega
  have hrl:=UM (Q2 ls) l gs (gs.take 4).length
  generalize Xf (Q2 ls) l gs (gs.take 4).length=qa at *
  obtain⟨rs,a⟩:=qa
  dsimp only at hVO hrl ⊢
  obtain⟨C,P,rfl,rfl,rfl,rfl⟩:∃C P,u=bC kg C∧v0=bP P∧(rs.getD ig default).chunks=C∧(C.getD kg default).pages=P:=by
   rcases hVO with⟨h,_⟩|⟨_,h⟩
   ·omega
   ·exact h
  have hpos:0<(mkr ig 0 rs).length:=by rw[VM];omega
  have hso:XD (mkr ig 0 rs)=Z5 rs:=by rw[XD,Jr]
  have hlz:(mkr ig 0 rs).length=rs.length:=VM ig rs 0
  generalize hzz:mkr ig 0 rs=zs at *
  repeat' first|refine And.intro ?_ ?_|(intro h;try first|exact dzq|replace h:=cvq)
  all_goals try exact czq
  all_goals refine⟨zSo s zs (rs.getD ig default).chunks ((rs.getD ig default).chunks.getD kg default).pages kg,Reb.trans (s':=OD (bC kg (rs.getD ig default).chunks) (bP ((rs.getD ig default).chunks.getD kg default).pages) s zs) (QG [0,1,2,3,4,5,6,7,8,9] rfl rfl rfl rfl rfl rfl (by exact rfl) ⟨.refl _,.refl _,QY (by first|(simp;done)|(simp;omega)),trivial⟩ rfl (fun ρ hρ=>⟨.refl _,.refl _,Qi hρ,trivial⟩) rfl rfl rfl rfl (hX _ rfl rfl) (fxR _ rfl) trivial) (Ns hpos),?_⟩
  repeat' first|refine And.intro ?_ ?_|(intro h;try first|exact dzq|replace h:=cvq)
  all_goals try exact czq
  all_goals refine⟨⟨[(6,.ptr 1 0 0)],(1,some (.cells [NJ ⟨s,Z5 rs,rs⟩] false))::Lh ig kg ⟨s,Z5 rs,rs⟩,10⟩,Q0 [0,1,2,3,4,5,6,7,8,9] (by exact rfl) ⟨.refl _,trivial⟩ ⟨⟨by decide,_,rfl,Q6 (row:=[.vs 4 (s.map encF),.int .i64 (Z5 rs),.slice 3 0 rs.length 2 none]) ⟨.un rfl,Qg hso,Q3 hlz,trivial⟩⟩,⟨by decide,_,rfl,by rw[hzz];exact VH (fxR _ rfl)⟩,⟨by decide,_,rfl,VH (fxC _ rfl)⟩,⟨by decide,_,rfl,Qd (fP _)⟩,trivial⟩,_,rfl,Lh ig kg ⟨s,Z5 rs,rs⟩,EQ rfl,rfl,rfl,rfl⟩
def Cv:SpecT:=fun args H nx Post=>H=[]∧nx=0∧ ∃ns gs l ig kg,args=[vI ns,vI gs,vV l]∧(ns.length≤9223372036854775807∧gs.length≤9223372036854775807∧l.length≤9223372036854775807∧ ∀g∈gs,I64 g)∧(ig<(gs.take 4).length∧kg<(QP (QD ns)).length)∧Post (.agg (NJ (W6 ns gs l))) (Lh ig kg (W6 ns gs l)) 10
theorem HJ[Syms]:Cv.ok Try.prog 11:=by
 rintro args H nx Post ⟨rfl,rfl,ns,gs,l,ig,kg,rfl,⟨h1,h2,h3,h4⟩,⟨h5,h6⟩,hp⟩
 have h:=XI.forget (QC Qp Qq Jz Jz.ok QJ (E2 ns gs l ig kg h1 h2 h3 h4 h5 h6))
 refine⟨h.1,fun ι w vs ha hH hb=>(h.2 ι w vs ha hH hb).mono ?_⟩
 rintro e w' ⟨v,H',nx',r,κ,⟨rfl,rfl,rfl⟩,hr⟩
 exact⟨_,_,_,r,κ,hp,hr⟩
end
end Go.Proofs.Ytajieadpaeggcaa
