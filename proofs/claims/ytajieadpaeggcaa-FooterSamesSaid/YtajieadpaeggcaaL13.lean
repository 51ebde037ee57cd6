/-
  Files' descriptions made of raw numbers. The statements'.
-/
import Derived.Test.YtajieadpaeggcaaL12
set_option linter.unusedVariables false
set_option linter.unusedSimpArgs false
namespace Go.Proofs.Ytajieadpaeggcaa
open Go Go.Av
section
set_option maxRecDepth 100000
set_option maxHeartbeats 4000000
theorem HM[Syms](ns gs:List Int)(l:List Vl)(hn:ns.length≤9223372036854775807)(hgl:gs.length≤9223372036854775807)(hll:l.length≤9223372036854775807)(hg:∀g∈gs,I64 g):
 fnT cMk cMk (QN fns) (Qz tys) OI 100 11 [vI ns,vI gs,vV l] [] 0 (UA (fun v H _=>v= .agg (Qv (W6 ns gs l))∧H=[])):=by
 repeat' first|refine And.intro ?_ ?_|(intro h;try first|exact dzq|replace h:=cvq)
 all_goals try exact cz
 refine⟨ns,rfl,hn,?_⟩
 have hfs:=F7 ns
 have hmk:W6 ns gs l=⟨QD ns,Z5 (Xf (Q2 (QP (QD ns))) l gs (gs.take 4).length).1,(Xf (Q2 (QP (QD ns))) l gs (gs.take 4).length).1⟩:=by
  have h4:(gs.take 4).length≤gs.length:=by rw[List.length_take];omega
  rw[Fb _ _ _ _ h4,List.length_take,show gs.take (min 4 gs.length)=gs.take 4 from by rw[←List.take_take,List.take_length]]
  rfl
 rw[hmk]
 clear hmk
 generalize QD ns=s at *
 repeat' first|refine And.intro ?_ ?_|(intro h;try first|exact dzq|replace h:=cvq)
 all_goals try exact cz
 refine⟨⟨[(1,vI gs),(2,vV l),(6,.ptr 1 0 0),(7,.ptr 0 0 0)],[(0,some (.cells [mhd s 0 []] false)),(1,some (.cells [QK .nils 0 .nils] false))],2⟩,Q0 [1,0] (by exact rfl) ⟨.refl _,.refl _,.refl _,.refl _,trivial⟩ ⟨⟨by decide,_,rfl,.refl _⟩,⟨by decide,_,rfl,.refl _⟩,trivial⟩,?_⟩
 repeat' first|refine And.intro ?_ ?_|(intro h;try first|exact dzq|replace h:=cvq)
 all_goals try exact cz
 refine⟨s,rfl,hfs,?_⟩
 have hlb:(QP s).length≤1000:=by have h1:(QP s).length≤s.length:=Zs _ _ _;have h2:=hfs.len;omega
 generalize QP s=ls at *
 repeat' first|refine And.intro ?_ ?_|(intro h;try first|exact dzq|replace h:=cvq)
 all_goals try exact cz
 refine⟨fun m st=>∃i:Nat,(i≤(gs.take 4).length∧m=(gs.take 4).length-i)∧st=oS s gs l ls (Xf (Q2 ls) l gs i).2 i (Z5 (Xf (Q2 ls) l gs i).1) (Xf (Q2 ls) l gs i).1,⟨_,oS s gs l ls 0 0 0 [],(Hf (nx':=7) (by omega)).trans (Zy [0,1,2,3,4,5,6] rfl rfl rfl rfl (by exact rfl) ⟨.refl _,.refl _,.refl _,.refl _,.refl _,.refl _,.refl _,trivial⟩ rfl (fun ρ hρ=>⟨.refl _,.refl _,Qi hρ,trivial⟩) rfl rfl trivial),0,⟨by omega,rfl⟩,rfl⟩,?_⟩
 rintro m st ⟨i,⟨hi,rfl⟩,rfl⟩
 have hi4:(gs.take 4).length=min 4 gs.length:=List.length_take
 by_cases h1:i<gs.length∧i<4
 ·obtain⟨h1,h2⟩:=h1
  have hgi:I64 (gs.getD i 0):=by
   rw[List.getD_eq_getElem?_getD,List.getElem?_eq_getElem h1];exact hg _ (List.getElem_mem h1)
  have hat:=Fc (Q2 ls) l gs i
  have hsm:=Gj (Q2 ls) l gs i
  have hrl:=UM (Q2 ls) l gs i
  have hst:Xf (Q2 ls) l gs (i+1)=((Xf (Q2 ls) l gs i).1++[⟨nM (gs.getD i 0),(QZ (gs.getD i 0) l (Q2 ls) 0 (Xf (Q2 ls) l gs i).2).1⟩],(QZ (gs.getD i 0) l (Q2 ls) 0 (Xf (Q2 ls) l gs i).2).2):=rfl
  generalize Xf (Q2 ls) l gs i=qa at *
  obtain⟨rs,a⟩:=qa
  dsimp only at hst hat hsm hrl
  generalize hge:gs.getD i 0=g at *
  have hnM:=U3 g
  have hsr:0≤Z5 rs∧Z5 rs≤1000000:=by omega
  have hd2:wr .i64 ((gs.getD i 0).tdiv 2)=dv g 2:=by rw[hge];rfl
  have hd5:wr .i64 ((gs.getD i 0).tdiv 5)=dv g 5:=by rw[hge];rfl
  have hd7:wr .i64 ((gs.getD i 0).tdiv 7)=dv g 7:=by rw[hge];rfl
  have hd9:wr .i64 ((gs.getD i 0).tdiv 9)=dv g 9:=by rw[hge];rfl
  have hd11:wr .i64 ((gs.getD i 0).tdiv 11)=dv g 11:=by rw[hge];rfl
  have hd13:wr .i64 ((gs.getD i 0).tdiv 13)=dv g 13:=by rw[hge];rfl
  have hwn:wr .i64 (1+wi g 40)=nM g:=by rw[wrI (by have:=XL (a:=g) (n:=40) (by decide);omega)];rfl
  rcases rs with _|⟨r0,rt⟩
  rotate_left
  let rz:List Rw:=r0::rt
  have hrz:rz.length=i:=hrl
  have hsz:0≤Z5 rz∧Z5 rz≤1000000:=hsr
  rotate_left
  let rz:List Rw:=[]
  have hrz:rz.length=i:=hrl
  have hsz:0≤Z5 rz∧Z5 rz≤1000000:=hsr
  all_goals(
   repeat' first|refine And.intro ?_ ?_|(intro h;try first|exact dzq|replace h:=cvq)
   all_goals try exact czq
   refine⟨_,.refl _ _ _,?_⟩
   repeat' first|refine And.intro ?_ ?_|(intro h;try first|exact dzq|replace h:=cvq)
   all_goals try exact czq
   refine⟨g,40,congrArg (fun z=>[AVal.int .i64 z,AVal.int .i64 40]) hge,by decide,?_⟩
   repeat' first|refine And.intro ?_ ?_|(intro h;try first|exact dzq|replace h:=cvq)
   all_goals try exact czq
   refine⟨gS0 s gs l ls a i g rz,Zy [0,1,7,3,4,5,6] rfl rfl rfl rfl (by exact rfl) ⟨.refl _,.refl _,.refl _,.refl _,.refl _,.refl _,.refl _,.refl _,trivial⟩ rfl (fun ρ hρ=>⟨.refl _,.refl _,Qi hρ,trivial⟩) rfl rfl ⟨⟨by decide,_,rfl,Q6 (row:=QI (nM g) .nils) ⟨Qg hwn,.refl _,trivial⟩⟩,trivial⟩,?_⟩
   have hb1:-9223372036854775808≤Z5 rz+nM g∧Z5 rz+nM g≤9223372036854775807:=by omega
   repeat' first|refine And.intro ?_ ?_|(intro h;try first|exact dzq|replace h:=cvq)
   all_goals try exact czq
   all_goals(try first|exact hb1.1|exact hb1.2)
   refine⟨fun m st=>∃k:Nat,(k≤ls.length∧m=ls.length-k)∧st=iS s gs l ls (ZG g l (Q2 ls) a k).2 i g rz k (ZG g l (Q2 ls) a k).1,⟨_,iS s gs l ls a i g rz 0 [],Zy [0,1,2,3,4,5,6] rfl rfl rfl rfl (by exact rfl) ⟨.refl _,.refl _,.refl _,.refl _,.refl _,.refl _,.refl _,.refl _,.refl _,trivial⟩ rfl (fun ρ hρ=>⟨.refl _,.refl _,Qi hρ,trivial⟩) rfl rfl ⟨⟨by decide,_,rfl,Q6 (row:=QI (nM g) .nils) ⟨.refl _,.refl _,trivial⟩⟩,trivial⟩,0,⟨by omega,rfl⟩,rfl⟩,?_⟩
   rintro m st ⟨k,⟨hk,rfl⟩,rfl⟩
   have hkl:(Q2 ls).length=ls.length:=List.length_map ..
   by_cases hk1:k<ls.length
   ·have hct:=Fr g l (Q2 ls) a k
    have hcs:ZG g l (Q2 ls) a (k+1)=((ZG g l (Q2 ls) a k).1++[(QA g k ((Q2 ls).getD k 0) l (ZG g l (Q2 ls) a k).2).1],(QA g k ((Q2 ls).getD k 0) l (ZG g l (Q2 ls) a k).2).2):=rfl
    have hkd:(Q2 ls).getD k 0=(ls.getD k default).kind:=by
     rw[List.getD_eq_getElem?_getD,List.getD_eq_getElem?_getD,List.getElem?_map,List.getElem?_eq_getElem hk1];rfl
    rw[hkd]at hcs
    clear hkd
    generalize hqc:ZG g l (Q2 ls) a k=qc at *
    obtain⟨cs,a'⟩:=qc
    dsimp only at hct hcs
    have hcl:cs.length≤1000:=by
     have h1:=Vx g l (Q2 ls) a k
     rw[hqc]at h1
     have h2:cs.length=k:=h1
     omega
    clear hqc
    rcases cs with _|⟨c0,ct⟩
    rotate_left
    let cw:List Ck:=c0::ct
    have hcw:cw.length≤1000:=hcl
    rotate_left
    let cw:List Ck:=[]
    have hcw:cw.length≤1000:=hcl
    all_goals(
     repeat' first|refine And.intro ?_ ?_|(intro h;try first|exact dzq|replace h:=cvq)
     all_goals try exact czq
     refine⟨_,.refl _ _ _,?_⟩
     repeat' first|refine And.intro ?_ ?_|(intro h;try first|exact dzq|replace h:=cvq)
     all_goals try exact czq
     have hdk:wr .i64 (wr .i64 ((gs.getD i 0).tdiv 3)+((k:Nat):Int))=dv g 3+k:=by
      rw[hge]
      have:=Nm hgi 3 (by decide)
      exact wrI (show -9223372036854775808≤dv g 3+(k:Int)∧dv g 3+(k:Int)≤9223372036854775807 by omega)
     refine⟨dv g 3+k,3,congrArg (fun z=>[AVal.int .i64 z,AVal.int .i64 3]) hdk,by decide,?_⟩
     repeat' first|refine And.intro ?_ ?_|(intro h;try first|exact dzq|replace h:=cvq)
     all_goals try exact czq
     refine⟨gS1 s gs l ls a' i g rz k cw,Zy [0,1,2,3,7,5,6] rfl rfl rfl rfl (by exact rfl) ⟨.refl _,.refl _,.refl _,.refl _,.refl _,.refl _,.refl _,.refl _,.refl _,.refl _,trivial⟩ rfl (fun ρ hρ=>⟨.refl _,.refl _,Qi hρ,trivial⟩) rfl rfl ⟨⟨by decide,_,rfl,Q6 (row:=QI (nM g) (Qx 5 11 cw)) ⟨.refl _,Qi rfl,trivial⟩⟩,Xx (fC cw) (by decide) rfl ⟨⟨by decide,_,rfl,Q6 (row:=Zq 0 0 0 .nils (knM g k) 0 false) ⟨.refl _,.refl _,.refl _,.refl _,.refl _,.refl _,.refl _,.refl _,.refl _,.refl _,.refl _,trivial⟩⟩,trivial⟩⟩,?_⟩
     repeat' first|refine And.intro ?_ ?_|(intro h;try first|exact dzq|replace h:=cvq)
     all_goals try exact czq
     refine⟨fun m st=>∃(left:Int) (f:Nat) (ps:List Pg),(m=left.toNat∧0≤left∧left≤f∧left≤40∧ps++Zk g f left=Zk g 40 (nM g))∧st=pS s gs l ls a' i g rz k cw left ps,⟨_,pS s gs l ls a' i g rz k cw (nM g) [],Zy [0,1,2,3,4,5,6] rfl rfl rfl rfl (by exact rfl) ⟨.refl _,.refl _,.refl _,.refl _,.refl _,.refl _,.refl _,.refl _,.refl _,.refl _,.refl _,trivial⟩ rfl (fun ρ hρ=>⟨.refl _,.refl _,Qi hρ,trivial⟩) rfl rfl ⟨⟨by decide,_,rfl,Q6 (row:=QI (nM g) (Qx 5 11 cw)) ⟨.refl _,Qi rfl,trivial⟩⟩,Xx (fC cw) (by decide) rfl ⟨⟨by decide,_,rfl,Q6 (row:=Zq 0 0 0 .nils (knM g k) 0 false) ⟨.refl _,.refl _,.refl _,.refl _,.refl _,.refl _,.refl _,.refl _,.refl _,.refl _,.refl _,trivial⟩⟩,trivial⟩⟩,nM g,40,[],⟨rfl,by omega,by omega,by omega,rfl⟩,rfl⟩,?_⟩
     rintro m st ⟨left,f,ps,⟨rfl,hl0,hlf,hl4,hpg⟩,rfl⟩
     by_cases hl1:0<left
     ·obtain⟨f,rfl⟩:∃f',f=f'+1:=⟨f-1,by omega⟩
      rw[Y3 hl1]at hpg
      have hsp:=UB (g:=g) hl1
      have hpl:ps.length≤40:=by
       have h1:=congrArg List.length hpg
       have h2:=XY g 40 (nM g)
       rw[List.length_append]at h1
       omega
      rcases ps with _|⟨p0,pt⟩
      rotate_left
      let pw:List Pg:=p0::pt
      have hpw:pw.length≤40:=hpl
      rotate_left
      let pw:List Pg:=[]
      have hpw:pw.length≤40:=hpl
      all_goals(
       repeat' first|refine And.intro ?_ ?_|(intro h;try first|exact dzq|replace h:=cvq)
       all_goals try exact czq
       refine⟨dv g 7,20,congrArg (fun z=>[AVal.int .i64 z,AVal.int .i64 20]) hd7,by decide,?_⟩
       repeat' first|refine And.intro ?_ ?_|(intro h;try first|exact dzq|replace h:=cvq)
       all_goals try exact czq
       have hw9:=XL (a:=g) (n:=9) (by decide)
       have hst:(if wr .i64 (1+wi (dv g 7) 20)<left then wr .i64 (1+wi (dv g 7) 20)else left)=Xp g left:=by
        rw[wrI (by have:=XL (a:=dv g 7) (n:=20) (by decide);omega)];rfl
       refine⟨pR s gs l ls a' i g rz k cw left pw,Zy [0,1,2,3,4,5,6] rfl rfl rfl rfl (by exact rfl) ⟨.refl _,.refl _,.refl _,.refl _,.refl _,.refl _,.refl _,.refl _,.refl _,.refl _,.refl _,Qg hst,trivial⟩ rfl (fun ρ hρ=>⟨.refl _,.refl _,Qi hρ,trivial⟩) rfl rfl ⟨⟨by decide,_,rfl,Q6 (row:=QI (nM g) (Qx 5 11 cw)) ⟨.refl _,Qi rfl,trivial⟩⟩,Xx (fC cw) (by decide) rfl ⟨⟨by decide,_,rfl,Q6 (row:=Zq 0 0 0 (Qx 6 7 pw) (knM g k) 0 false) ⟨.refl _,.refl _,.refl _,Qi rfl,.refl _,.refl _,.refl _,.refl _,.refl _,.refl _,.refl _,trivial⟩⟩,Xx (fP pw) (by decide) rfl trivial⟩⟩,?_⟩
       repeat' first|refine And.intro ?_ ?_|(intro h;try first|exact dzq|replace h:=cvq)
       all_goals try exact czq
       refine⟨g,9,congrArg (fun z=>[AVal.int .i64 z,AVal.int .i64 9]) hge,by decide,?_⟩
       repeat' first|refine And.intro ?_ ?_|(intro h;try first|exact dzq|replace h:=cvq)
       all_goals try exact czq
       refine⟨g,2,congrArg (fun z=>[AVal.int .i64 z,AVal.int .i64 2]) hge,by decide,?_⟩
       repeat' first|refine And.intro ?_ ?_|(intro h;try first|exact dzq|replace h:=cvq)
       all_goals try exact czq
       refine⟨dv g 2,300,congrArg (fun z=>[AVal.int .i64 z,AVal.int .i64 300]) hd2,by decide,?_⟩
       repeat' first|refine And.intro ?_ ?_|(intro h;try first|exact dzq|replace h:=cvq)
       all_goals try exact czq
       refine⟨dv g 5,300,congrArg (fun z=>[AVal.int .i64 z,AVal.int .i64 300]) hd5,by decide,?_⟩
       repeat' first|refine And.intro ?_ ?_|(intro h;try first|exact dzq|replace h:=cvq)
       all_goals try exact czq
       refine⟨dv g 9,3000,congrArg (fun z=>[AVal.int .i64 z,AVal.int .i64 3000]) hd9,by decide,?_⟩
       repeat' first|refine And.intro ?_ ?_|(intro h;try first|exact dzq|replace h:=cvq)
       all_goals try exact czq
       all_goals(try((with_reducible show(_:Nat)≤_);first|(show(pw.length+1)*56≤_;omega)|(show pw.length+1≤_;omega)))
       exact⟨_,pS s gs l ls a' i g rz k cw (left-Xp g left) (pw++[pgM g (Xp g left)]),Zy [0,1,2,3,4,5,7+41*RR] rfl rfl rfl rfl (by kernel_rfl) ⟨.refl _,.refl _,.refl _,.refl _,.refl _,.refl _,.refl _,.refl _,.refl _,.refl _,.refl _,trivial⟩ rfl (fun ρ hρ=>⟨.refl _,.refl _,Qi hρ,trivial⟩) rfl rfl ⟨⟨by decide,_,rfl,Q6 (row:=QI (nM g) (Qx 5 11 cw)) ⟨.refl _,Qi rfl,trivial⟩⟩,Xx (fC cw) (by decide) rfl ⟨⟨by decide,_,rfl,Q6 (row:=Zq 0 0 0 (Qx 6 7 (pw++[pgM g (Xp g left)])) (knM g k) 0 false) ⟨.refl _,.refl _,.refl _,ZE rfl (by simp;try rfl) (by simp;try rfl),.refl _,.refl _,.refl _,.refl _,.refl _,.refl _,.refl _,trivial⟩⟩,YS (fP (pw++[pgM g (Xp g left)])) (by decide) rfl (by first|exact Hk hge|exact Hj hge) (by simp;try rfl) trivial⟩⟩,⟨left-Xp g left,f,pw++[pgM g (Xp g left)],⟨rfl,by omega,by omega,by omega,by rw[←hpg,List.append_assoc];rfl⟩,rfl⟩,by omega⟩
       skip)
     ·have hpe:ps=Zk g 40 (nM g):=by rw[←hpg,Ug hl1,List.append_nil]
      have hp0:0<ps.length:=by rw[hpe,show(40:Nat)=39+1 from rfl,Y3 (by omega)];simp
      have hpl:ps.length≤40:=by rw[hpe];exact XY g 40 (nM g)
      clear hpg
      rcases ps with _|⟨p0,pt⟩
      ·cases hp0
      · repeat' first|refine And.intro ?_ ?_|(intro h;try first|exact dzq|replace h:=cvq)
        all_goals try exact czq
        refine⟨dv g 11,3,congrArg (fun z=>[AVal.int .i64 z,AVal.int .i64 3]) hd11,by decide,?_⟩
        by_cases hd:wi (dv g 11) 3=0
        · repeat' first|refine And.intro ?_ ?_|(intro h;try first|exact dzq|replace h:=cvq)
          all_goals try exact czq
          refine⟨fun m st=>∃j:Nat,(j≤(p0::pt).length∧m=(p0::pt).length-j)∧st=dS s gs l ls a' i g rz k cw (p0::pt) j,⟨_,dS s gs l ls a' i g rz k cw (p0::pt) 0,Zy [0,1,2,3,4,5,6] rfl rfl rfl rfl (by exact rfl) ⟨.refl _,.refl _,.refl _,.refl _,.refl _,.refl _,.refl _,.refl _,.refl _,.refl _,.refl _,trivial⟩ rfl (fun ρ hρ=>⟨.refl _,.refl _,Qi hρ,trivial⟩) rfl rfl ⟨⟨by decide,_,rfl,Q6 (row:=QI (nM g) (Qx 5 11 cw)) ⟨.refl _,Qi rfl,trivial⟩⟩,Xx (fC cw) (by decide) rfl ⟨⟨by decide,_,rfl,Q6 (row:=Zq 0 0 0 (.slice 6 0 (p0::pt).length 7 none) (knM g k) 0 false) ⟨.refl _,.refl _,.refl _,.refl _,.refl _,.refl _,.refl _,.refl _,.refl _,.refl _,.refl _,trivial⟩⟩,⟨⟨by decide,_,rfl,Qd (fP _)⟩,trivial⟩⟩⟩,0,⟨by omega,rfl⟩,rfl⟩,?_⟩
          rintro m st ⟨j,⟨hj,rfl⟩,rfl⟩
          by_cases hj1:j<(p0::pt).length
          · repeat' first|refine And.intro ?_ ?_|(intro h;try first|exact dzq|replace h:=cvq)
            all_goals try exact czq
            ·rw[List.length_map,WP];simp only[Int.toNat_natCast];omega
            ·rw[Nat.zero_add,Int.toNat_natCast,Vi encP default (by rw[WP];omega)];exact Nat.le_of_ble_eq_true rfl
            exact⟨_,dS s gs l ls a' i g rz k cw (p0::pt) (j+1),Zy [0,1,2,3,4,5,6] rfl rfl rfl rfl (by exact rfl) ⟨.refl _,.refl _,.refl _,.refl _,.refl _,.refl _,.refl _,.refl _,.refl _,.refl _,Qg (by omega),trivial⟩ rfl (fun ρ hρ=>⟨.refl _,.refl _,Qi hρ,trivial⟩) rfl rfl ⟨⟨by decide,_,rfl,Q6 (row:=QI (nM g) (Qx 5 11 cw)) ⟨.refl _,Qi rfl,trivial⟩⟩,Xx (fC cw) (by decide) rfl ⟨⟨by decide,_,rfl,Q6 (row:=Zq 0 0 0 (.slice 6 0 (p0::pt).length 7 none) (knM g k) 0 false) ⟨.refl _,.refl _,.refl _,.refl _,.refl _,.refl _,.refl _,.refl _,.refl _,.refl _,.refl _,trivial⟩⟩,⟨⟨by decide,_,rfl,Q1 (Ii hj1) (fP _)⟩,trivial⟩⟩⟩,⟨j+1,⟨by omega,rfl⟩,rfl⟩,by omega⟩
          ·obtain rfl:j=(p0::pt).length:=by omega
           have hde:=MF (p0::pt)
           repeat' first|refine And.intro ?_ ?_|(intro h;try first|exact dzq|replace h:=cvq)
           all_goals try exact czq
           have hcrc:wr .u32 (gs.getD i 0)=wr .u32 g:=by rw[hge]
           have hck:XK g k=⟨wi g 257,wi (dv g 13) 9000,wr .u32 g,(p0::pt).map d2,knM g k,default⟩:=by unfold XK;rw[if_pos hd,←hpe];rfl
           refine⟨eS s gs l ls a' i g rz k cw (wi g 257) (wi (dv g 13) 9000) (wr .u32 g) (p0::pt).length ((p0::pt).map d2),?_,?_⟩
           · repeat' first|refine And.intro ?_ ?_|(intro h;try first|exact dzq|replace h:=cvq)
             all_goals try exact czq
             all_goals(first|refine⟨g,257,congrArg (fun z=>[AVal.int .i64 z,AVal.int .i64 257]) hge,by decide,?_⟩|refine⟨dv g 13,9000,congrArg (fun z=>[AVal.int .i64 z,AVal.int .i64 9000]) hd13,by decide,?_⟩)
             repeat' first|refine And.intro ?_ ?_|(intro h;try first|exact dzq|replace h:=cvq)
             all_goals try exact czq
             all_goals(first|refine⟨g,257,congrArg (fun z=>[AVal.int .i64 z,AVal.int .i64 257]) hge,by decide,?_⟩|refine⟨dv g 13,9000,congrArg (fun z=>[AVal.int .i64 z,AVal.int .i64 9000]) hd13,by decide,?_⟩)
             repeat' first|refine And.intro ?_ ?_|(intro h;try first|exact dzq|replace h:=cvq)
             all_goals try exact czq
             all_goals exact Exists.intro () (Zy [0,1,2,3,4,5,6] rfl rfl rfl rfl (by exact rfl) ⟨.refl _,.refl _,.refl _,.refl _,.refl _,.refl _,.refl _,.refl _,.refl _,.refl _,trivial⟩ rfl (fun ρ hρ=>⟨.refl _,.refl _,Qi hρ,trivial⟩) rfl rfl ⟨⟨by decide,_,rfl,Q6 (row:=QI (nM g) (Qx 5 11 cw)) ⟨.refl _,Qi rfl,trivial⟩⟩,Xx (fC cw) (by decide) rfl ⟨⟨by decide,_,rfl,Q6 (row:=Zq (wi g 257) (wi (dv g 13) 9000) (wr .u32 g) (.slice 6 0 (p0::pt).length 7 none) (knM g k) 0 false) ⟨.refl _,.refl _,Qg hcrc,.refl _,.refl _,.refl _,.refl _,.refl _,.refl _,.refl _,.refl _,trivial⟩⟩,⟨⟨by decide,_,rfl,Q1 (congrArg (List.map encP) hde) (fP _)⟩,trivial⟩⟩⟩)
           ·have hp6:0<(((p0::pt).map d2)).length:=by simp
            have hp7:(p0::pt).length=(((p0::pt).map d2)).length:=by simp
            by_cases hkn:0<wi (dv g 3+k) 3
            ·by_cases hll0:0<l.length
             · repeat' first|refine And.intro ?_ ?_|(intro h;try first|exact dzq|replace h:=cvq)
               all_goals try exact czq
               refine⟨fS s gs l ls a' i g rz k cw (wi g 257) (wi (dv g 13) 9000) (wr .u32 g) ((p0::pt).map d2) true,Reb.trans (s':=eS2 s gs l ls a' i g rz k cw (wi g 257) (wi (dv g 13) 9000) (wr .u32 g) ((p0::pt).map d2) true) (Zy [0,1,2,3,4,5,6] rfl rfl rfl rfl (by exact rfl) ⟨.refl _,.refl _,.refl _,.refl _,.refl _,.refl _,.refl _,.refl _,.refl _,.refl _,QY (by rw[if_pos rfl,decide_eq_true (by omega)]),trivial⟩ rfl (fun ρ hρ=>⟨.refl _,.refl _,Qi hρ,trivial⟩) rfl rfl ⟨⟨by decide,_,rfl,Q6 (row:=QI (nM g) (Qx 5 11 cw)) ⟨.refl _,Qi rfl,trivial⟩⟩,Xx (fC cw) (by decide) rfl ⟨⟨by decide,_,rfl,Q6 (row:=Zq (wi g 257) (wi (dv g 13) 9000) (wr .u32 g) (.slice 6 0 (((p0::pt).map d2)).length 7 none) (knM g k) 0 false) ⟨.refl _,.refl _,.refl _,Q3 hp7,.refl _,.refl _,.refl _,.refl _,.refl _,.refl _,.refl _,trivial⟩⟩,⟨⟨by decide,_,rfl,Qd (fP _)⟩,trivial⟩⟩⟩) (MI s gs l ls a' i g rz k cw (wi g 257) (wi (dv g 13) 9000) (wr .u32 g) ((p0::pt).map d2) true hp6),?_⟩
               have hmi:((a':Nat):Int).tmod ((l.length:Nat):Int)=((a'%l.length:Nat):Int):=(Int.ofNat_tmod ..).symm
               have hmlt:=Nat.mod_lt a' hll0
               repeat' first|refine And.intro ?_ ?_|(intro h;try first|exact dzq|replace h:=cvq)
               all_goals try exact czq
               refine⟨(ls.getD k default).kind,l.getD (a'%l.length) default,?_,?_⟩
               ·rw[hmi];rfl
               have ha9:a'≤5000:=by
                have h1:(Q2 ls).length≤1000:=by omega
                have h2:=Nat.mul_le_mul (show i≤4 by omega) h1
                omega
               repeat' first|refine And.intro ?_ ?_|(intro h;try first|exact dzq|replace h:=cvq)
               all_goals try exact czq
               refine⟨g,nM g+1,(by show[AVal.int .i64 (gs.getD i 0),_]=_;rw[hge];rfl),by omega,?_⟩
               repeat' first|refine And.intro ?_ ?_|(intro h;try first|exact dzq|replace h:=cvq)
               all_goals try exact czq
               have hcm:QA g k (ls.getD k default).kind l a'=(⟨(wi g 257),(wi (dv g 13) 9000),(wr .u32 g),((p0::pt).map d2),knM g k,⟨wi g (nM g+1),true,Qo (ls.getD k default).kind (l.getD (a'%l.length) default),Qo (ls.getD k default).kind (l.getD (a'%l.length) default)⟩⟩,a'+1):=by
                unfold QA
                rw[hck,if_pos ⟨decide_eq_true hkn,hll0⟩]
               have hcs':ZG g l (Q2 ls) a (k+1)=((cw++[(⟨(wi g 257),(wi (dv g 13) 9000),(wr .u32 g),((p0::pt).map d2),knM g k,⟨wi g (nM g+1),true,Qo (ls.getD k default).kind (l.getD (a'%l.length) default),Qo (ls.getD k default).kind (l.getD (a'%l.length) default)⟩⟩:Ck)]),a'+1):=hcs.trans (by rw[hcm])
               repeat' first|refine And.intro ?_ ?_|(intro h;try first|exact dzq|replace h:=cvq)
               all_goals try exact czq
               all_goals(try((with_reducible show(_:Nat)≤_);first|(show(cw.length+1)*120≤_;omega)|(show cw.length+1≤_;omega)))
               refine⟨_,iS s gs l ls (a'+1) i g rz (k+1) (cw++[(⟨(wi g 257),(wi (dv g 13) 9000),(wr .u32 g),((p0::pt).map d2),knM g k,⟨wi g (nM g+1),true,Qo (ls.getD k default).kind (l.getD (a'%l.length) default),Qo (ls.getD k default).kind (l.getD (a'%l.length) default)⟩⟩:Ck)]),?_,⟨k+1,⟨by omega,rfl⟩,by rw[hcs']⟩,by omega⟩
               refine Zy [0,1,2,3,4,7+14*RR+1+10*RR+1+1,6] rfl rfl rfl rfl (by kernel_rfl) ⟨.refl _,.refl _,.refl _,.refl _,.refl _,Qg (by omega),.refl _,.refl _,Qg (by omega),trivial⟩ rfl (fun ρ hρ=>⟨.refl _,.refl _,Qi hρ,trivial⟩) rfl rfl ⟨⟨by decide,_,rfl,Q6 (row:=QI (nM g) (Qx 5 11 (cw++[(⟨(wi g 257),(wi (dv g 13) 9000),(wr .u32 g),((p0::pt).map d2),knM g k,⟨wi g (nM g+1),true,Qo (ls.getD k default).kind (l.getD (a'%l.length) default),Qo (ls.getD k default).kind (l.getD (a'%l.length) default)⟩⟩:Ck)]))) ⟨.refl _,ZE rfl (by simp;try rfl) (by simp;try rfl),trivial⟩⟩,?_⟩
               exact YS (fC (cw++[(⟨(wi g 257),(wi (dv g 13) 9000),(wr .u32 g),((p0::pt).map d2),knM g k,⟨wi g (nM g+1),true,Qo (ls.getD k default).kind (l.getD (a'%l.length) default),Qo (ls.getD k default).kind (l.getD (a'%l.length) default)⟩⟩:Ck)])) (by decide) rfl (by rw[hmi];first|rfl|exact Yg _ (⟨(wi g 257),(wi (dv g 13) 9000),(wr .u32 g),((p0::pt).map d2),knM g k,⟨wi g (nM g+1),true,Qo (ls.getD k default).kind (l.getD (a'%l.length) default),Qo (ls.getD k default).kind (l.getD (a'%l.length) default)⟩⟩:Ck)|(show List.take cw.length (List.drop 0 (cw.map encC))++[encC (⟨(wi g 257),(wi (dv g 13) 9000),(wr .u32 g),((p0::pt).map d2),knM g k,⟨wi g (nM g+1),true,Qo (ls.getD k default).kind (l.getD (a'%l.length) default),Qo (ls.getD k default).kind (l.getD (a'%l.length) default)⟩⟩:Ck)]=_;exact Yg _ _)) (by simp;try rfl) trivial
             ·have hcm:QA g k (ls.getD k default).kind l a'=(⟨(wi g 257),(wi (dv g 13) 9000),(wr .u32 g),((p0::pt).map d2),knM g k,default⟩,a'):=by
               unfold QA
               rw[hck,if_neg (fun hh=>hll0 hh.2)]
              repeat' first|refine And.intro ?_ ?_|(intro h;try first|exact dzq|replace h:=cvq)
              all_goals try exact czq
              refine⟨fS s gs l ls a' i g rz k cw (wi g 257) (wi (dv g 13) 9000) (wr .u32 g) ((p0::pt).map d2) false,Reb.trans (s':=eS2 s gs l ls a' i g rz k cw (wi g 257) (wi (dv g 13) 9000) (wr .u32 g) ((p0::pt).map d2) false) (Zy [0,1,2,3,4,5,6] rfl rfl rfl rfl (by exact rfl) ⟨.refl _,.refl _,.refl _,.refl _,.refl _,.refl _,.refl _,.refl _,.refl _,.refl _,QY (by first|rfl|rw[if_pos rfl,decide_eq_false (by omega)]),trivial⟩ rfl (fun ρ hρ=>⟨.refl _,.refl _,Qi hρ,trivial⟩) rfl rfl ⟨⟨by decide,_,rfl,Q6 (row:=QI (nM g) (Qx 5 11 cw)) ⟨.refl _,Qi rfl,trivial⟩⟩,Xx (fC cw) (by decide) rfl ⟨⟨by decide,_,rfl,Q6 (row:=Zq (wi g 257) (wi (dv g 13) 9000) (wr .u32 g) (.slice 6 0 (((p0::pt).map d2)).length 7 none) (knM g k) 0 false) ⟨.refl _,.refl _,.refl _,Q3 hp7,.refl _,.refl _,.refl _,.refl _,.refl _,.refl _,.refl _,trivial⟩⟩,⟨⟨by decide,_,rfl,Qd (fP _)⟩,trivial⟩⟩⟩) (MI s gs l ls a' i g rz k cw (wi g 257) (wi (dv g 13) 9000) (wr .u32 g) ((p0::pt).map d2) false hp6),?_⟩
              rw[hcm]at hcs
              have hcs':ZG g l (Q2 ls) a (k+1)=((cw++[(⟨(wi g 257),(wi (dv g 13) 9000),(wr .u32 g),((p0::pt).map d2),knM g k,default⟩:Ck)]),a'):=hcs
              repeat' first|refine And.intro ?_ ?_|(intro h;try first|exact dzq|replace h:=cvq)
              all_goals try exact czq
              all_goals(try((with_reducible show(_:Nat)≤_);first|(show(cw.length+1)*120≤_;omega)|(show cw.length+1≤_;omega)))
              exact⟨_,iS s gs l ls a' i g rz (k+1) (cw++[(⟨(wi g 257),(wi (dv g 13) 9000),(wr .u32 g),((p0::pt).map d2),knM g k,default⟩:Ck)]),Zy [0,1,2,3,4,8,6] rfl rfl rfl rfl (by exact rfl) ⟨.refl _,.refl _,.refl _,.refl _,.refl _,.refl _,.refl _,.refl _,Qg (by omega),trivial⟩ rfl (fun ρ hρ=>⟨.refl _,.refl _,Qi hρ,trivial⟩) rfl rfl ⟨⟨by decide,_,rfl,Q6 (row:=QI (nM g) (Qx 5 11 (cw++[(⟨(wi g 257),(wi (dv g 13) 9000),(wr .u32 g),((p0::pt).map d2),knM g k,default⟩:Ck)]))) ⟨.refl _,ZE rfl (by simp;try rfl) (by simp;try rfl),trivial⟩⟩,YS (fC (cw++[(⟨(wi g 257),(wi (dv g 13) 9000),(wr .u32 g),((p0::pt).map d2),knM g k,default⟩:Ck)])) (by decide) rfl (by first|rfl|exact Yg _ ⟨(wi g 257),(wi (dv g 13) 9000),(wr .u32 g),((p0::pt).map d2),knM g k,default⟩|(show List.take cw.length (List.drop 0 (cw.map encC))++[encC ⟨(wi g 257),(wi (dv g 13) 9000),(wr .u32 g),((p0::pt).map d2),knM g k,default⟩]=_;exact Yg _ _)) (by simp;try rfl) trivial⟩,⟨k+1,⟨by omega,rfl⟩,by rw[hcs']⟩,by omega⟩
            ·have hcm:QA g k (ls.getD k default).kind l a'=(⟨(wi g 257),(wi (dv g 13) 9000),(wr .u32 g),((p0::pt).map d2),knM g k,default⟩,a'):=by
              unfold QA
              rw[hck,if_neg (fun hh=>by have h1:knM g k=true:=hh.1;unfold knM at h1;rw[decide_eq_false hkn]at h1;cases h1)]
             repeat' first|refine And.intro ?_ ?_|(intro h;try first|exact dzq|replace h:=cvq)
             all_goals try exact czq
             refine⟨fS s gs l ls a' i g rz k cw (wi g 257) (wi (dv g 13) 9000) (wr .u32 g) ((p0::pt).map d2) false,Reb.trans (s':=eS2 s gs l ls a' i g rz k cw (wi g 257) (wi (dv g 13) 9000) (wr .u32 g) ((p0::pt).map d2) false) (Zy [0,1,2,3,4,5,6] rfl rfl rfl rfl (by exact rfl) ⟨.refl _,.refl _,.refl _,.refl _,.refl _,.refl _,.refl _,.refl _,.refl _,.refl _,QY (by first|rfl|rw[if_pos rfl,decide_eq_false (by omega)]),trivial⟩ rfl (fun ρ hρ=>⟨.refl _,.refl _,Qi hρ,trivial⟩) rfl rfl ⟨⟨by decide,_,rfl,Q6 (row:=QI (nM g) (Qx 5 11 cw)) ⟨.refl _,Qi rfl,trivial⟩⟩,Xx (fC cw) (by decide) rfl ⟨⟨by decide,_,rfl,Q6 (row:=Zq (wi g 257) (wi (dv g 13) 9000) (wr .u32 g) (.slice 6 0 (((p0::pt).map d2)).length 7 none) (knM g k) 0 false) ⟨.refl _,.refl _,.refl _,Q3 hp7,.refl _,.refl _,.refl _,.refl _,.refl _,.refl _,.refl _,trivial⟩⟩,⟨⟨by decide,_,rfl,Qd (fP _)⟩,trivial⟩⟩⟩) (MI s gs l ls a' i g rz k cw (wi g 257) (wi (dv g 13) 9000) (wr .u32 g) ((p0::pt).map d2) false hp6),?_⟩
             rw[hcm]at hcs
             have hcs':ZG g l (Q2 ls) a (k+1)=((cw++[(⟨(wi g 257),(wi (dv g 13) 9000),(wr .u32 g),((p0::pt).map d2),knM g k,default⟩:Ck)]),a'):=hcs
             repeat' first|refine And.intro ?_ ?_|(intro h;try first|exact dzq|replace h:=cvq)
             all_goals try exact czq
             all_goals(try((with_reducible show(_:Nat)≤_);first|(show(cw.length+1)*120≤_;omega)|(show cw.length+1≤_;omega)))
             exact⟨_,iS s gs l ls a' i g rz (k+1) (cw++[(⟨(wi g 257),(wi (dv g 13) 9000),(wr .u32 g),((p0::pt).map d2),knM g k,default⟩:Ck)]),Zy [0,1,2,3,4,8,6] rfl rfl rfl rfl (by exact rfl) ⟨.refl _,.refl _,.refl _,.refl _,.refl _,.refl _,.refl _,.refl _,Qg (by omega),trivial⟩ rfl (fun ρ hρ=>⟨.refl _,.refl _,Qi hρ,trivial⟩) rfl rfl ⟨⟨by decide,_,rfl,Q6 (row:=QI (nM g) (Qx 5 11 (cw++[(⟨(wi g 257),(wi (dv g 13) 9000),(wr .u32 g),((p0::pt).map d2),knM g k,default⟩:Ck)]))) ⟨.refl _,ZE rfl (by simp;try rfl) (by simp;try rfl),trivial⟩⟩,YS (fC (cw++[(⟨(wi g 257),(wi (dv g 13) 9000),(wr .u32 g),((p0::pt).map d2),knM g k,default⟩:Ck)])) (by decide) rfl (by first|rfl|exact Yg _ ⟨(wi g 257),(wi (dv g 13) 9000),(wr .u32 g),((p0::pt).map d2),knM g k,default⟩|(show List.take cw.length (List.drop 0 (cw.map encC))++[encC ⟨(wi g 257),(wi (dv g 13) 9000),(wr .u32 g),((p0::pt).map d2),knM g k,default⟩]=_;exact Yg _ _)) (by simp;try rfl) trivial⟩,⟨k+1,⟨by omega,rfl⟩,by rw[hcs']⟩,by omega⟩
        ·have hck:XK g k=⟨0,0,0,p0::pt,knM g k,default⟩:=by unfold XK;rw[if_neg hd,←hpe];rfl
         have hp6:0<((p0::pt)).length:=by simp
         have hp7:(p0::pt).length=((p0::pt)).length:=by simp
         by_cases hkn:0<wi (dv g 3+k) 3
         ·by_cases hll0:0<l.length
          · repeat' first|refine And.intro ?_ ?_|(intro h;try first|exact dzq|replace h:=cvq)
            all_goals try exact czq
            refine⟨fS s gs l ls a' i g rz k cw 0 0 0 (p0::pt) true,Reb.trans (s':=eS2 s gs l ls a' i g rz k cw 0 0 0 (p0::pt) true) (Zy [0,1,2,3,4,5,6] rfl rfl rfl rfl (by exact rfl) ⟨.refl _,.refl _,.refl _,.refl _,.refl _,.refl _,.refl _,.refl _,.refl _,.refl _,QY (by rw[if_pos rfl,decide_eq_true (by omega)]),trivial⟩ rfl (fun ρ hρ=>⟨.refl _,.refl _,Qi hρ,trivial⟩) rfl rfl ⟨⟨by decide,_,rfl,Q6 (row:=QI (nM g) (Qx 5 11 cw)) ⟨.refl _,Qi rfl,trivial⟩⟩,Xx (fC cw) (by decide) rfl ⟨⟨by decide,_,rfl,Q6 (row:=Zq 0 0 0 (.slice 6 0 ((p0::pt)).length 7 none) (knM g k) 0 false) ⟨.refl _,.refl _,.refl _,Q3 hp7,.refl _,.refl _,.refl _,.refl _,.refl _,.refl _,.refl _,trivial⟩⟩,⟨⟨by decide,_,rfl,Qd (fP _)⟩,trivial⟩⟩⟩) (MI s gs l ls a' i g rz k cw 0 0 0 (p0::pt) true hp6),?_⟩
            have hmi:((a':Nat):Int).tmod ((l.length:Nat):Int)=((a'%l.length:Nat):Int):=(Int.ofNat_tmod ..).symm
            have hmlt:=Nat.mod_lt a' hll0
            repeat' first|refine And.intro ?_ ?_|(intro h;try first|exact dzq|replace h:=cvq)
            all_goals try exact czq
            refine⟨(ls.getD k default).kind,l.getD (a'%l.length) default,?_,?_⟩
            ·rw[hmi];rfl
            have ha9:a'≤5000:=by
             have h1:(Q2 ls).length≤1000:=by omega
             have h2:=Nat.mul_le_mul (show i≤4 by omega) h1
             omega
            repeat' first|refine And.intro ?_ ?_|(intro h;try first|exact dzq|replace h:=cvq)
            all_goals try exact czq
            refine⟨g,nM g+1,(by show[AVal.int .i64 (gs.getD i 0),_]=_;rw[hge];rfl),by omega,?_⟩
            repeat' first|refine And.intro ?_ ?_|(intro h;try first|exact dzq|replace h:=cvq)
            all_goals try exact czq
            have hcm:QA g k (ls.getD k default).kind l a'=(⟨0,0,0,(p0::pt),knM g k,⟨wi g (nM g+1),true,Qo (ls.getD k default).kind (l.getD (a'%l.length) default),Qo (ls.getD k default).kind (l.getD (a'%l.length) default)⟩⟩,a'+1):=by
             unfold QA
             rw[hck,if_pos ⟨decide_eq_true hkn,hll0⟩]
            have hcs':ZG g l (Q2 ls) a (k+1)=((cw++[(⟨0,0,0,(p0::pt),knM g k,⟨wi g (nM g+1),true,Qo (ls.getD k default).kind (l.getD (a'%l.length) default),Qo (ls.getD k default).kind (l.getD (a'%l.length) default)⟩⟩:Ck)]),a'+1):=hcs.trans (by rw[hcm])
            repeat' first|refine And.intro ?_ ?_|(intro h;try first|exact dzq|replace h:=cvq)
            all_goals try exact czq
            all_goals(try((with_reducible show(_:Nat)≤_);first|(show(cw.length+1)*120≤_;omega)|(show cw.length+1≤_;omega)))
            refine⟨_,iS s gs l ls (a'+1) i g rz (k+1) (cw++[(⟨0,0,0,(p0::pt),knM g k,⟨wi g (nM g+1),true,Qo (ls.getD k default).kind (l.getD (a'%l.length) default),Qo (ls.getD k default).kind (l.getD (a'%l.length) default)⟩⟩:Ck)]),?_,⟨k+1,⟨by omega,rfl⟩,by rw[hcs']⟩,by omega⟩
            refine Zy [0,1,2,3,4,7+14*RR+1+10*RR+1+1,6] rfl rfl rfl rfl (by kernel_rfl) ⟨.refl _,.refl _,.refl _,.refl _,.refl _,Qg (by omega),.refl _,.refl _,Qg (by omega),trivial⟩ rfl (fun ρ hρ=>⟨.refl _,.refl _,Qi hρ,trivial⟩) rfl rfl ⟨⟨by decide,_,rfl,Q6 (row:=QI (nM g) (Qx 5 11 (cw++[(⟨0,0,0,(p0::pt),knM g k,⟨wi g (nM g+1),true,Qo (ls.getD k default).kind (l.getD (a'%l.length) default),Qo (ls.getD k default).kind (l.getD (a'%l.length) default)⟩⟩:Ck)]))) ⟨.refl _,ZE rfl (by simp;try rfl) (by simp;try rfl),trivial⟩⟩,?_⟩
            exact YS (fC (cw++[(⟨0,0,0,(p0::pt),knM g k,⟨wi g (nM g+1),true,Qo (ls.getD k default).kind (l.getD (a'%l.length) default),Qo (ls.getD k default).kind (l.getD (a'%l.length) default)⟩⟩:Ck)])) (by decide) rfl (by rw[hmi];first|rfl|exact Yg _ (⟨0,0,0,(p0::pt),knM g k,⟨wi g (nM g+1),true,Qo (ls.getD k default).kind (l.getD (a'%l.length) default),Qo (ls.getD k default).kind (l.getD (a'%l.length) default)⟩⟩:Ck)|(show List.take cw.length (List.drop 0 (cw.map encC))++[encC (⟨0,0,0,(p0::pt),knM g k,⟨wi g (nM g+1),true,Qo (ls.getD k default).kind (l.getD (a'%l.length) default),Qo (ls.getD k default).kind (l.getD (a'%l.length) default)⟩⟩:Ck)]=_;exact Yg _ _)) (by simp;try rfl) trivial
          ·have hcm:QA g k (ls.getD k default).kind l a'=(⟨0,0,0,(p0::pt),knM g k,default⟩,a'):=by
            unfold QA
            rw[hck,if_neg (fun hh=>hll0 hh.2)]
           repeat' first|refine And.intro ?_ ?_|(intro h;try first|exact dzq|replace h:=cvq)
           all_goals try exact czq
           refine⟨fS s gs l ls a' i g rz k cw 0 0 0 (p0::pt) false,Reb.trans (s':=eS2 s gs l ls a' i g rz k cw 0 0 0 (p0::pt) false) (Zy [0,1,2,3,4,5,6] rfl rfl rfl rfl (by exact rfl) ⟨.refl _,.refl _,.refl _,.refl _,.refl _,.refl _,.refl _,.refl _,.refl _,.refl _,QY (by first|rfl|rw[if_pos rfl,decide_eq_false (by omega)]),trivial⟩ rfl (fun ρ hρ=>⟨.refl _,.refl _,Qi hρ,trivial⟩) rfl rfl ⟨⟨by decide,_,rfl,Q6 (row:=QI (nM g) (Qx 5 11 cw)) ⟨.refl _,Qi rfl,trivial⟩⟩,Xx (fC cw) (by decide) rfl ⟨⟨by decide,_,rfl,Q6 (row:=Zq 0 0 0 (.slice 6 0 ((p0::pt)).length 7 none) (knM g k) 0 false) ⟨.refl _,.refl _,.refl _,Q3 hp7,.refl _,.refl _,.refl _,.refl _,.refl _,.refl _,.refl _,trivial⟩⟩,⟨⟨by decide,_,rfl,Qd (fP _)⟩,trivial⟩⟩⟩) (MI s gs l ls a' i g rz k cw 0 0 0 (p0::pt) false hp6),?_⟩
           rw[hcm]at hcs
           have hcs':ZG g l (Q2 ls) a (k+1)=((cw++[(⟨0,0,0,(p0::pt),knM g k,default⟩:Ck)]),a'):=hcs
           repeat' first|refine And.intro ?_ ?_|(intro h;try first|exact dzq|replace h:=cvq)
           all_goals try exact czq
           all_goals(try((with_reducible show(_:Nat)≤_);first|(show(cw.length+1)*120≤_;omega)|(show cw.length+1≤_;omega)))
           exact⟨_,iS s gs l ls a' i g rz (k+1) (cw++[(⟨0,0,0,(p0::pt),knM g k,default⟩:Ck)]),Zy [0,1,2,3,4,8,6] rfl rfl rfl rfl (by exact rfl) ⟨.refl _,.refl _,.refl _,.refl _,.refl _,.refl _,.refl _,.refl _,Qg (by omega),trivial⟩ rfl (fun ρ hρ=>⟨.refl _,.refl _,Qi hρ,trivial⟩) rfl rfl ⟨⟨by decide,_,rfl,Q6 (row:=QI (nM g) (Qx 5 11 (cw++[(⟨0,0,0,(p0::pt),knM g k,default⟩:Ck)]))) ⟨.refl _,ZE rfl (by simp;try rfl) (by simp;try rfl),trivial⟩⟩,YS (fC (cw++[(⟨0,0,0,(p0::pt),knM g k,default⟩:Ck)])) (by decide) rfl (by first|rfl|exact Yg _ ⟨0,0,0,(p0::pt),knM g k,default⟩|(show List.take cw.length (List.drop 0 (cw.map encC))++[encC ⟨0,0,0,(p0::pt),knM g k,default⟩]=_;exact Yg _ _)) (by simp;try rfl) trivial⟩,⟨k+1,⟨by omega,rfl⟩,by rw[hcs']⟩,by omega⟩
         ·have hcm:QA g k (ls.getD k default).kind l a'=(⟨0,0,0,(p0::pt),knM g k,default⟩,a'):=by
           unfold QA
           rw[hck,if_neg (fun hh=>by have h1:knM g k=true:=hh.1;unfold knM at h1;rw[decide_eq_false hkn]at h1;cases h1)]
          repeat' first|refine And.intro ?_ ?_|(intro h;try first|exact dzq|replace h:=cvq)
          all_goals try exact czq
          refine⟨fS s gs l ls a' i g rz k cw 0 0 0 (p0::pt) false,Reb.trans (s':=eS2 s gs l ls a' i g rz k cw 0 0 0 (p0::pt) false) (Zy [0,1,2,3,4,5,6] rfl rfl rfl rfl (by exact rfl) ⟨.refl _,.refl _,.refl _,.refl _,.refl _,.refl _,.refl _,.refl _,.refl _,.refl _,QY (by first|rfl|rw[if_pos rfl,decide_eq_false (by omega)]),trivial⟩ rfl (fun ρ hρ=>⟨.refl _,.refl _,Qi hρ,trivial⟩) rfl rfl ⟨⟨by decide,_,rfl,Q6 (row:=QI (nM g) (Qx 5 11 cw)) ⟨.refl _,Qi rfl,trivial⟩⟩,Xx (fC cw) (by decide) rfl ⟨⟨by decide,_,rfl,Q6 (row:=Zq 0 0 0 (.slice 6 0 ((p0::pt)).length 7 none) (knM g k) 0 false) ⟨.refl _,.refl _,.refl _,Q3 hp7,.refl _,.refl _,.refl _,.refl _,.refl _,.refl _,.refl _,trivial⟩⟩,⟨⟨by decide,_,rfl,Qd (fP _)⟩,trivial⟩⟩⟩) (MI s gs l ls a' i g rz k cw 0 0 0 (p0::pt) false hp6),?_⟩
          rw[hcm]at hcs
          have hcs':ZG g l (Q2 ls) a (k+1)=((cw++[(⟨0,0,0,(p0::pt),knM g k,default⟩:Ck)]),a'):=hcs
          repeat' first|refine And.intro ?_ ?_|(intro h;try first|exact dzq|replace h:=cvq)
          all_goals try exact czq
          all_goals(try((with_reducible show(_:Nat)≤_);first|(show(cw.length+1)*120≤_;omega)|(show cw.length+1≤_;omega)))
          exact⟨_,iS s gs l ls a' i g rz (k+1) (cw++[(⟨0,0,0,(p0::pt),knM g k,default⟩:Ck)]),Zy [0,1,2,3,4,8,6] rfl rfl rfl rfl (by exact rfl) ⟨.refl _,.refl _,.refl _,.refl _,.refl _,.refl _,.refl _,.refl _,Qg (by omega),trivial⟩ rfl (fun ρ hρ=>⟨.refl _,.refl _,Qi hρ,trivial⟩) rfl rfl ⟨⟨by decide,_,rfl,Q6 (row:=QI (nM g) (Qx 5 11 (cw++[(⟨0,0,0,(p0::pt),knM g k,default⟩:Ck)]))) ⟨.refl _,ZE rfl (by simp;try rfl) (by simp;try rfl),trivial⟩⟩,YS (fC (cw++[(⟨0,0,0,(p0::pt),knM g k,default⟩:Ck)])) (by decide) rfl (by first|rfl|exact Yg _ ⟨0,0,0,(p0::pt),knM g k,default⟩|(show List.take cw.length (List.drop 0 (cw.map encC))++[encC ⟨0,0,0,(p0::pt),knM g k,default⟩]=_;exact Yg _ _)) (by simp;try rfl) trivial⟩,⟨k+1,⟨by omega,rfl⟩,by rw[hcs']⟩,by omega⟩
     skip)
   ·obtain rfl:k=ls.length:=by omega
    have hce:QZ g l (Q2 ls) 0 a=ZG g l (Q2 ls) a ls.length:=by rw[Fq _ _ _ _ _ (by omega),←hkl,List.take_length]
    rw[hce]at hst
    generalize ZG g l (Q2 ls) a ls.length=qc at *
    obtain⟨cs,a'⟩:=qc
    dsimp only at hst
    clear hce
    repeat' first|refine And.intro ?_ ?_|(intro h;try first|exact dzq|replace h:=cvq)
    all_goals try exact czq
    refine⟨hS s gs l ls a' i g rz cs,Reb.trans (s':=h1S s gs l ls a' i g rz cs) (Zy [0,1,2,3,4,5,6] rfl rfl rfl rfl (by exact rfl) ⟨.refl _,.refl _,.refl _,.refl _,.refl _,.refl _,.refl _,.refl _,QY (by rw[decide_eq_false (by omega)]),trivial⟩ rfl (fun ρ hρ=>⟨.refl _,.refl _,Qi hρ,trivial⟩) rfl rfl ⟨⟨by decide,_,rfl,Q6 (row:=QI (nM g) (Qx 5 11 cs)) ⟨.refl _,Qi rfl,trivial⟩⟩,Xx (fC cs) (by decide) rfl trivial⟩) (ON s gs l ls a' i g rz cs),?_⟩
    repeat' first|refine And.intro ?_ ?_|(intro h;try first|exact dzq|replace h:=cvq)
    all_goals try exact czq
    all_goals(try((with_reducible show(_:Nat)≤_);first|omega|(show((rz).length+1)*16≤_;omega)|(show(rz).length+1≤_;omega)))
    have hsn:Z5 (rz++[(⟨nM g,cs⟩:Rw)])=Z5 rz+nM g:=by simp only[Vg,Z5,Int.add_zero]
    exact⟨_,oS s gs l ls a' (i+1) (Z5 (rz++[(⟨nM g,cs⟩:Rw)])) (rz++[(⟨nM g,cs⟩:Rw)]),Lj (K:=8) [0,1,2,8,4,5,6] rfl rfl rfl rfl (by exact rfl) ⟨.refl _,.refl _,.refl _,.refl _,.refl _,.refl _,Qg (by omega),trivial⟩ rfl (fun ρ hρ=>⟨.refl _,Qg hsn.symm,ZE hρ (by simp;try rfl) (by simp;try rfl),trivial⟩) rfl rfl (by first|rfl|exact NS _ _) (by simp;try rfl) trivial,⟨i+1,⟨by omega,rfl⟩,by rw[hst]⟩,by omega⟩
   skip)
 ·obtain rfl:i=(gs.take 4).length:=by omega
  generalize Xf (Q2 ls) l gs (gs.take 4).length=qa at *
  obtain⟨rs,a⟩:=qa
  dsimp only
  repeat' first|refine And.intro ?_ ?_|(intro h;try first|exact dzq|replace h:=cvq)
  all_goals try exact czq
  all_goals refine⟨zS s rs,Reb.trans (s':=z1S s rs) (Zy [0,1,2,3,4,5,6] rfl rfl rfl rfl (by exact rfl) ⟨.refl _,.refl _,QY (by first|(simp;done)|(simp;omega)),trivial⟩ rfl (fun ρ hρ=>⟨.refl _,.refl _,Qi hρ,trivial⟩) rfl rfl trivial) (Pk s rs),?_⟩
  repeat' first|refine And.intro ?_ ?_|(intro h;try first|exact dzq|replace h:=cvq)
  all_goals try exact czq
  all_goals exact⟨⟨[(6,.ptr 1 0 0)],[(0,some (.cells [QK (vF s) (Z5 rs) (.vs 2 (rs.map encR))] false)),(1,some (.cells [Qv ⟨s,Z5 rs,rs⟩] false))],2⟩,Q0 [0,1] (by exact rfl) ⟨.refl _,trivial⟩ ⟨⟨by decide,_,rfl,.refl _⟩,⟨by decide,_,rfl,Zd (row:=Qv ⟨s,Z5 rs,rs⟩) ⟨.un rfl,.refl _,.refl _,trivial⟩ (eM _)⟩,trivial⟩,_,rfl,[],fun n b h=>(by rw[Heap.get_nil]at h;cases h),rfl,rfl⟩
def S_makeM:SpecI:=fun args K=>∃ns gs l,args=[vI ns,vI gs,vV l]∧(ns.length≤9223372036854775807∧gs.length≤9223372036854775807∧l.length≤9223372036854775807∧ ∀g∈gs,I64 g)∧K (.agg (Qv (W6 ns gs l)))
theorem HL[Syms]:Zi Try.prog 11 S_makeM:=by
 rintro args K ⟨ns,gs,l,rfl,⟨h1,h2,h3,h4⟩,hk⟩
 exact⟨rfl,_,rfl,hk,XI.forget (QC Qp Qq Jz Jz.ok QJ (HM ns gs l h1 h2 h3 h4))⟩
end
end Go.Proofs.Ytajieadpaeggcaa
