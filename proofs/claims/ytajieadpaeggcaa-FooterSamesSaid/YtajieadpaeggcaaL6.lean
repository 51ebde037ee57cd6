/-
  A schema's bytes,read:the loop. The program's. Numbers behind bytes. The program's. What a file says of itself,as plain data;its bytes,and how they are read. Plain. The footer's reader:a number of so many bytes,a truth,a number,a value. The program's. The footer's reader:a page. The program's.
-/
import Derived.Test.YtajieadpaeggcaaL4
import Derived.Test.YtajieadpaeggcaaSxOne
import Derived.Test.YtajieadpaeggcaaL5
import Derived.Test.YtajieadpaeggcaaL3
set_option linter.unusedVariables false
set_option linter.unusedSimpArgs false
namespace Go.Proofs.Ytajieadpaeggcaa
open Go Go.Av
section
set_option maxRecDepth 100000
set_option maxHeartbeats 4000000
abbrev cLp:CallT:=Qe 81 (Z6 DJ) (Qe 80 (Z6 BA) (Qe 82 (Z6 JC) (Qe 83 (Xw S_check) Q9)))
theorem Oj[Syms]:cLp.ok Try.prog:=Qc CL (Qc BV (Qc JT (Qm L0 Qb)))
noncomputable def Pc:Nat→Nat→Pl:=VZ [(56,8)] (QV plt)
theorem V6[Syms]{N:Nat}{e:Env}{H:Heap}{nx:Nat}{x:Int}{p:List Fd×Int}{rs:List ResultVar}(h2:(e.get 2).isZ 4=true)(h3:e.get 3= .int .i64 x)(hp:p=([],x))
 (hrs:ZR (Qz tys) ⟨[(2,vF []),(3,.int .i64 x)],[],0⟩ rs=some (.tup [vF [],.int .i64 x])):
 ∃s3,Reb 0 N ⟨e,H,nx⟩ s3∧ ∃v,ZR (Qz tys) s3 rs=some v∧v= .tup [vF p.1,.int .i64 p.2]∧s3.heap=[]:=by
 subst hp
 refine⟨⟨[(2,vF []),(3,.int .i64 x)],[],0⟩,(Xs (k:=2) (y:=vF []) fun ι v hv=>.vt _ _ _ _ (RelV.isZ (sz:=4) h2 hv)).trans ?_,_,hrs,rfl,rfl⟩
 refine(Jp (e3:=[(2,vF []),(3,.int .i64 x)]) (H3:=[]) (fun j=>?_) (fun n b h=>by rw[Heap.get_nil]at h;cases h)).trans (Q4 [2,3] rfl)
 rw[Env.get_cons,Env.get_cons,Env.get_cons]
 by_cases h:j=2
 ·subst h;exact .inr rfl
 ·rw[QL h]
  by_cases h:j=3
  ·subst h;exact .inr h3
  ·rw[QL h];exact .inl (Env.get_nil j)
theorem NX[Syms]{N n:Nat}{e:Env}{H:Heap}{nx:Nat}{fs:List Fd}{rows:List (List AVal)}{len:Nat}{rs:List ResultVar}(h2:e.get 2= .slice n 0 len 4 none)(h3:e.get 3= .int .i64 0)(hb:H.get n=some (.cells rows false))(hr:rows=fs.map encF)(hl:len=fs.length)
 (hrs:ZR (Qz tys) ⟨[(2,vF fs),(3,.int .i64 0)],[],0⟩ rs=some (.tup [vF fs,.int .i64 0])):
 ∃s3,Reb 0 N ⟨e,H,nx⟩ s3∧ ∃v,ZR (Qz tys) s3 rs=some v∧v= .tup [vF fs,.int .i64 0]∧s3.heap=[]:=by
 subst hr hl
 refine⟨⟨[(2,vF fs),(3,.int .i64 0)],[],0⟩,(YP (enc:=encF) default (l:=fs) [(3,.int .i64 0)] [] h2 hb (fF fs) (List.take_of_length_le (by simp)) (by simp) (by simpa using h3) (fun n b h=>by rw[Heap.get_nil]at h;cases h)).trans (Q4 [2,3] rfl),_,hrs,rfl,rfl⟩
theorem FV[Syms]{N:Nat}{e:Env}{H:Heap}{nx:Nat}{fs:List Fd}{r:BR}{b0 b:Bool}(h4:e.get 4= .ptr 0 0 0)(h6:e.get 6= .slice 1 0 fs.length 4 none)(h35:e.get 35= .bool b0)(hb0:b0=b)(H0:H.get 0=rdB r)(H1:H.get 1=some (.cells (fs.map encF) false))(hn:Zm 0 nx [0]=true):
 Reb 0 N ⟨e,H,nx⟩ ⟨[(4,.ptr 0 0 0),(6,vF fs),(35,.bool b)],[(0,rdB r)],1⟩:=by
 subst hb0
 refine(YP (enc:=encF) default (l:=fs) [(4,.ptr 0 0 0),(35,.bool b0)] [(0,rdB r)] h6 H1 (fF fs) (List.take_of_length_le (by simp)) (by simp) (by simp[h4,h35]) (fun n b h=>?_)).trans (Q0 [0] hn ⟨.refl _,.refl _,.refl _,trivial⟩ ⟨⟨by decide,_,rfl,.refl _⟩,trivial⟩)
 rw[Heap.get_cons]at h
 by_cases hz:n=0
 ·subst hz;rw[Heap.get_set_ne _ _ (by decide)];rw[H0];exact h
 ·rw[QL hz]at h;rw[show(bif false then rdB r else Heap.get [] n)=none from Heap.get_nil n]at h;cases h
theorem Mf[Syms]{N:Nat}{e:Env}{H:Heap}{nx:Nat}{r:BR}{b0 b:Bool}(h4:e.get 4= .ptr 0 0 0)(h6:e.get 6= .nils)(h35:e.get 35= .bool b0)(hb0:b0=b)(H0:H.get 0=rdB r)(hn:Zm 0 nx [0]=true):
 Reb 0 N ⟨e,H,nx⟩ ⟨[(4,.ptr 0 0 0),(6,vF []),(35,.bool b)],[(0,rdB r)],1⟩:=by
 subst hb0
 refine(Xs (k:=6) (y:=vF []) fun ι v hv=>.vt _ _ _ _ (RelV.isZ (sz:=4) (by rw[h6];rfl) hv)).trans (Q0 [0] hn ⟨?_,.refl _,?_,trivial⟩ ⟨⟨by decide,_,H0,.refl _⟩,trivial⟩)
 ·rw[Env.get_cons,QL (by decide)];show WkV (e.get 4) _;rw[h4];exact .refl _
 ·rw[Env.get_cons,QL (by decide)];show WkV (e.get 35) _;rw[h35];exact .refl _
def WO(fs:List Fd)(r:BR):List Fd×Int:=
 let r':=if(Fj (fs,r)).e=0 then QT (Fj (fs,r)) (Z8 fs)else Fj (fs,r)
 if r'.e≠0 then([],r'.e)else(fs,0)
theorem VS{fs:List Fd}{r:BR}(h:r.e≠0):WO fs r=([],r.e):=by
 have hf:QT r 9=r:=if_neg h
 have he:Fj (fs,r)=r:=by
  unfold Fj
  show(if r.b≠[]then QT r 9 else r)=r
  rw[hf];split<;>rfl
 unfold WO
 rw[he,if_neg h,if_pos h]
theorem Gu{fs:List Fd}{b:List UInt8}(h:b≠[]):WO fs ⟨b,0⟩=([],9):=by
 unfold WO Fj
 simp only[if_pos h]
 rfl
theorem My{fs:List Fd}:WO fs ⟨[],0⟩=if Z8 fs≠0 then([],Z8 fs)else(fs,0):=rfl
def Ve(fs:List Fd):Prop:=∀f∈fs,(0≤f.rep∧f.rep<256)∧(0≤f.kind∧f.kind<256)∧(0≤f.kids∧f.kids≤40)∧f.name.length≤12
theorem Ve.fs{fs:List Fd}(h:Ve fs)(hl:fs.length≤40):FsOk fs:=by
 have key:∀i,fs.getD i default∈fs∨fs.getD i default=default:=fun i=>by
  rcases Nat.lt_or_ge i fs.length with h'|h'
  ·left;rw[List.getD_eq_getElem?_getD,List.getElem?_eq_getElem h'];exact List.getElem_mem h'
  ·right;rw[List.getD_eq_getElem?_getD,List.getElem?_eq_none h'];rfl
 refine⟨by omega,fun i=>?_,fun i=>?_⟩
 ·rcases key i with k|k
  ·have:=(h _ k).2.2.1;omega
  ·rw[k];decide
 ·rcases key i with k|k
  ·have:=(h _ k).2.2.2;omega
  ·rw[k];decide
theorem Jw(n:Nat)(r:BR):(Zc n r).1<256^n:=by
 have h1:=F8 (Z4 n r).1
 have h2:=Uz n r
 have h3:256^(Z4 n r).1.length≤256^n:=Nat.pow_le_pow_right (by decide) h2
 show leV (Z4 n r).1<_
 omega
theorem Ei(r:BR):((0≤(Zz r).1.rep∧(Zz r).1.rep<256)∧(0≤(Zz r).1.kind∧(Zz r).1.kind<256)∧(0≤(Zz r).1.kids∧(Zz r).1.kids≤40)∧(Zz r).1.name.length≤12):=by
 have h1:=Jw 1 r
 have h2:=Jw 1 (Zc 1 r).2
 have h3:=Zf (m:=40) (w:=14) (by decide) (Zc 1 (Zc 1 r).2).2
 have h4:=Zf (m:=12) (w:=5) (by decide) (QX 40 14 (Zc 1 (Zc 1 r).2).2).2
 have h5:=Uz (QX 12 5 (QX 40 14 (Zc 1 (Zc 1 r).2).2).2).1 (QX 12 5 (QX 40 14 (Zc 1 (Zc 1 r).2).2).2).2
 refine⟨⟨?_,?_⟩,⟨?_,?_⟩,⟨?_,?_⟩,?_⟩
 ·show(0:Int)≤((Zc 1 r).1:Nat);omega
 ·show(((Zc 1 r).1:Nat):Int)<256;omega
 ·show(0:Int)≤((Zc 1 (Zc 1 r).2).1:Nat);omega
 ·show(((Zc 1 (Zc 1 r).2).1:Nat):Int)<256;omega
 ·show(0:Int)≤((QX 40 14 (Zc 1 (Zc 1 r).2).2).1:Nat);omega
 ·show(((QX 40 14 (Zc 1 (Zc 1 r).2).2).1:Nat):Int)≤40;omega
 ·exact Nat.le_trans h5 h4
theorem Ve.snoc{fs:List Fd}(h:Ve fs)(r:BR):Ve (fs++[(Zz r).1]):=fun f hf=>by
 rcases List.mem_append.1 hf with k|k
 ·exact h f k
 ·rw[List.mem_singleton.1 k];exact Ei r
theorem OH[Syms](b:List UInt8)(hl:b.length≤1000000)(A:AVal)(hA:A= .tup [vF (Xn b).1,.int .i64 (Xn b).2]):
 fnT Q9 cLp (QN fns) (Qz tys) Pc 100 56 [vB b] [] 0 (fun v H _=>v=A∧H=[]):=by
 refine⟨[0],[.ptr 0 0 0,.int .i64 ((40:Nat):Int),.int .i64 4],[(0,rdB ⟨b,0⟩)],rfl,⟨.refl _,.refl _,.refl _,trivial⟩,⟨⟨by decide,_,rfl,.refl _⟩,trivial⟩,⟨b,0⟩,40,4,rfl,rfl,rfl,⟨hl,by omega,by decide⟩,?_⟩
 have l0:=QF 40 4 ⟨b,0⟩
 have hn40:=Zf (m:=40) (w:=4) (by decide) ⟨b,0⟩
 replace hA:A= .tup [vF (WO (ZB (QX 40 4 ⟨b,0⟩).1 (QX 40 4 ⟨b,0⟩).2 []).1 (ZB (QX 40 4 ⟨b,0⟩).1 (QX 40 4 ⟨b,0⟩).2 []).2).1,.int .i64 (WO (ZB (QX 40 4 ⟨b,0⟩).1 (QX 40 4 ⟨b,0⟩).2 []).1 (ZB (QX 40 4 ⟨b,0⟩).1 (QX 40 4 ⟨b,0⟩).2 []).2).2]:=hA
 generalize QX 40 4 ⟨b,0⟩=q at *
 obtain⟨n,r0⟩:=q
 have l0:r0.b.length≤b.length:=l0
 have hn40:n≤40:=hn40
 repeat' first|refine And.intro ?_ ?_|(intro h;try first|exact dz|replace h:=cv)
 all_goals try exact cz
 refine⟨fun m s=>∃(i:Nat) (r:BR) (fs:List Fd),(i≤n∧m=n-i∧fs.length=i∧r.b.length≤b.length∧Ve fs∧ZB (n-i) r fs=ZB n r0 [])∧(s=prS r n i fs∧0<i∨s=prN r n∧i=0),⟨_,prN r0 n,Q0 [0] (by first|rfl|kernel_rfl) ⟨.refl _,.refl _,.refl _,.refl _,trivial⟩ ⟨⟨by decide,_,rfl,.refl _⟩,trivial⟩,0,r0,[],⟨by omega,rfl,rfl,l0,(fun f hf=>nomatch hf),rfl⟩,.inr ⟨rfl,rfl⟩⟩,?_⟩
 rintro m s ⟨i,r,fs,⟨hi,rfl,hfl,hrl,hfo,hfr⟩,⟨rfl,hi0⟩|⟨rfl,rfl⟩⟩
 ·by_cases h1:i<n∧r.e=0
  ·obtain⟨h1,h2⟩:=h1
   repeat' first|refine And.intro ?_ ?_|(intro h;try first|exact dz|replace h:=cv)
   all_goals try exact cz
   refine⟨[0],[.ptr 0 0 0],[(0,rdB r)],rfl,⟨.refl _,trivial⟩,⟨⟨by decide,_,rfl,.refl _⟩,trivial⟩,r,rfl,rfl,rfl,by omega,?_⟩
   have hfs:=UR (n-(i+1)) r fs h2
   have hfl2:=Gw r
   have hfo2:=hfo.snoc r
   generalize Zz r=q at *
   obtain⟨f,r2⟩:=q
   have hlen:fs.length≤1000000:=by omega
   have hst:n-i=n-(i+1)+1:=by omega
   have hfl2:r2.b.length≤r.b.length:=hfl2
   repeat' first|refine And.intro ?_ ?_|(intro h;try first|exact dz|replace h:=cv)
   all_goals try exact cz
   refine⟨_,prS r2 n (i+1) (fs++[f]),Q0 [0,5] (by first|rfl|kernel_rfl) ⟨.refl _,.refl _,Q3 (by simp),Qg (by omega),trivial⟩ ⟨⟨by decide,_,rfl,.refl _⟩,⟨by decide,_,rfl,Q1 ?_ (fF _)⟩,trivial⟩,⟨i+1,r2,fs++[f],⟨by omega,rfl,by simp;omega,by omega,hfo2,?_⟩,.inl ⟨rfl,by omega⟩⟩,by omega⟩
   ·show List.take fs.length (List.drop 0 (fs.map encF))++[encF f]=_
    rw[List.drop_zero,List.take_of_length_le (by simp),List.map_append];rfl
   ·rw[←hfr,hst,hfs]
  ·have hfe:ZB n r0 []=(fs,r):=by
    rw[←hfr]
    by_cases h2:r.e=0
    ·have:n-i=0:=by omega
     rw[this];rfl
    ·exact UQ _ _ _ h2
   rw[hfe]at hA
   replace hA:A= .tup [vF (WO fs r).1,.int .i64 (WO fs r).2]:=hA
   have hfk:=hfo.fs (by omega)
   clear hfr hfe
   by_cases hb:r.b=[]
   · repeat' first|refine And.intro ?_ ?_|(intro h;try first|exact dz|replace h:=cv)
     all_goals try exact cz
     all_goals(refine⟨_,FV (b:=false) rfl rfl rfl (by rw[hb];rfl) rfl rfl rfl,?_⟩)
     all_goals(obtain⟨b',e'⟩:=r;have hb:b'=[]:=hb;subst hb)
     all_goals(
      by_cases he:e'=0
      ·subst he
       rw[My]at hA
       repeat' first|refine And.intro ?_ ?_|(intro h;try first|exact dz|replace h:=cv)
       all_goals try exact cz
       refine⟨_,rfl,hfk,?_⟩
       repeat' first|refine And.intro ?_ ?_|(intro h;try first|exact dz|replace h:=cv)
       all_goals try exact cz
       refine⟨[0],[.ptr 0 0 0,.int .i64 (Z8 fs)],[(0,rdB ⟨[],0⟩)],rfl,⟨.refl _,.refl _,trivial⟩,⟨⟨by decide,_,rfl,.refl _⟩,trivial⟩,⟨[],0⟩,Z8 fs,rfl,rfl,rfl,?_⟩
       rw[show QT ⟨[],0⟩ (Z8 fs)=⟨[],Z8 fs⟩ from rfl,show rdB ⟨[],Z8 fs⟩=some (.cells [[vB [],.int .i64 (Z8 fs)]] false) from rfl]
       have hx1:=fun ρ=>Yb ρ [] (Z8 fs)
       have hx2:=hx1
       have hx3:=hx1
       have hx4:=hx1
       by_cases hc:Z8 fs=0
       ·rw[if_neg (fun h=>h hc)]at hA
        subst hA
        repeat' first|refine And.intro ?_ ?_|(intro h;try first|exact dzi|replace h:=cvi)
        all_goals try exact cz
        ·show V9 4 (ZM fs.length fun i=>encF (fs.getD i default))=true
         rw[Yz encF default fs];exact We (enc:=encF) (z:=4) (fun _=>rfl) _
        ·have hz:fs=[]:=List.eq_nil_of_length_eq_zero (by rw[ZQ]at h;exact h)
         subst hz
         exact V6 (p:=([],0)) rfl rfl rfl rfl
        ·show(ZM fs.length fun i=>encF (fs.getD i default)).length*40≤_
         rw[ZQ];omega
        ·show(ZM fs.length fun i=>encF (fs.getD i default)).length≤_
         rw[ZQ];omega
        ·exact NX rfl rfl rfl (Yz encF default fs) (ZQ _ _) rfl
       ·rw[if_pos hc]at hA
        subst hA
        repeat' first|refine And.intro ?_ ?_|(intro h;try first|exact dzi|replace h:=cvi)
        all_goals try exact cz
        exact V6 (p:=([],Z8 fs)) rfl rfl rfl rfl
      ·rw[VS (show(BR.mk [] e').e≠0 from he)]at hA
       subst hA
       repeat' first|refine And.intro ?_ ?_|(intro h;try first|exact dz|replace h:=cv)
       all_goals try exact cz
       exact V6 (p:=([],e')) rfl rfl rfl rfl)
   · repeat' first|refine And.intro ?_ ?_|(intro h;try first|exact dz|replace h:=cv)
     all_goals try exact cz
     all_goals(refine⟨_,FV (b:=true) rfl rfl rfl (decide_eq_true (by have:=List.length_pos_iff.2 hb;omega)) rfl rfl rfl,?_⟩)
     all_goals(obtain⟨b',e'⟩:=r;have hb:b'≠[]:=hb)
     all_goals(
      repeat' first|refine And.intro ?_ ?_|(intro h;try first|exact dz|replace h:=cv)
      all_goals try exact cz
      refine⟨[0],[.ptr 0 0 0,.int .i64 9],[(0,rdB ⟨b',e'⟩)],rfl,⟨.refl _,.refl _,trivial⟩,⟨⟨by decide,_,rfl,.refl _⟩,trivial⟩,⟨b',e'⟩,9,rfl,rfl,rfl,?_⟩
      by_cases he:e'=0
      ·subst he
       rw[Gu hb]at hA
       subst hA
       rw[show QT ⟨b',0⟩ 9=⟨b',9⟩ from rfl,show rdB ⟨b',9⟩=some (.cells [[vB b',.int .i64 9]] false) from rfl]
       have hx1:=fun ρ=>Yb ρ b' 9
       have hx2:=hx1
       have hx3:=hx1
       have hx4:=hx1
       repeat' first|refine And.intro ?_ ?_|(intro h;try first|exact dzi|replace h:=cvi)
       all_goals try exact cz
       exact V6 (p:=([],9)) rfl rfl rfl rfl
      ·rw[VS (show(BR.mk b' e').e≠0 from he)]at hA
       subst hA
       rw[show QT ⟨b',e'⟩ 9=⟨b',e'⟩ from if_neg he,show rdB ⟨b',e'⟩=some (.cells [[vB b',.int .i64 e']] false) from rfl]
       have hx1:=fun ρ=>Yb ρ b' e'
       have hx2:=hx1
       have hx3:=hx1
       have hx4:=hx1
       repeat' first|refine And.intro ?_ ?_|(intro h;try first|exact dzi|replace h:=cvi)
       all_goals try exact cz
       exact V6 (p:=([],e')) rfl rfl rfl rfl)
 ·have hfl0:fs=[]:=List.eq_nil_of_length_eq_zero hfl
  subst hfl0
  by_cases h1:0<n∧r.e=0
  ·obtain⟨h1,h2⟩:=h1
   repeat' first|refine And.intro ?_ ?_|(intro h;try first|exact dz|replace h:=cv)
   all_goals try exact cz
   refine⟨[0],[.ptr 0 0 0],[(0,rdB r)],rfl,⟨.refl _,trivial⟩,⟨⟨by decide,_,rfl,.refl _⟩,trivial⟩,r,rfl,rfl,rfl,by omega,?_⟩
   have hfs:=UR (n-1) r [] h2
   have hfl2:=Gw r
   have hfo2:=hfo.snoc r
   generalize Zz r=q at *
   obtain⟨f,r2⟩:=q
   have hst:n-0=n-1+1:=by omega
   have hfl2:r2.b.length≤r.b.length:=hfl2
   repeat' first|refine And.intro ?_ ?_|(intro h;try first|exact dz|replace h:=cv)
   all_goals try exact cz
   refine⟨_,prS r2 n 1 [f],Q0 [0,4] (by first|rfl|kernel_rfl) ⟨.refl _,.refl _,Q3 rfl,Qg (by rfl),trivial⟩ ⟨⟨by decide,_,rfl,.refl _⟩,⟨by decide,_,rfl,Q1 ?_ (fF _)⟩,trivial⟩,⟨1,r2,[f],⟨by omega,rfl,rfl,by omega,hfo2,?_⟩,.inl ⟨rfl,by omega⟩⟩,by omega⟩
   ·rfl
   ·rw[←hfr,hst,hfs];rfl
  ·have hfe:ZB n r0 []=([],r):=by
    rw[←hfr]
    by_cases h2:r.e=0
    ·have:n-0=0:=by omega
     rw[this];rfl
    ·exact UQ _ _ _ h2
   rw[hfe]at hA
   replace hA:A= .tup [vF (WO [] r).1,.int .i64 (WO [] r).2]:=hA
   have hfk:=hfo.fs (by omega)
   clear hfr hfe
   by_cases hb:r.b=[]
   · repeat' first|refine And.intro ?_ ?_|(intro h;try first|exact dz|replace h:=cv)
     all_goals try exact cz
     all_goals(refine⟨_,Mf (b:=false) rfl rfl rfl (by rw[hb];rfl) rfl rfl,?_⟩)
     all_goals(obtain⟨b',e'⟩:=r;have hb:b'=[]:=hb;subst hb)
     all_goals(
      by_cases he:e'=0
      ·subst he
       rw[My]at hA
       repeat' first|refine And.intro ?_ ?_|(intro h;try first|exact dz|replace h:=cv)
       all_goals try exact cz
       refine⟨_,rfl,hfk,?_⟩
       repeat' first|refine And.intro ?_ ?_|(intro h;try first|exact dz|replace h:=cv)
       all_goals try exact cz
       refine⟨[0],[.ptr 0 0 0,.int .i64 (Z8 [])],[(0,rdB ⟨[],0⟩)],rfl,⟨.refl _,.refl _,trivial⟩,⟨⟨by decide,_,rfl,.refl _⟩,trivial⟩,⟨[],0⟩,Z8 [],rfl,rfl,rfl,?_⟩
       rw[show QT ⟨[],0⟩ (Z8 [])=⟨[],Z8 []⟩ from rfl,show rdB ⟨[],Z8 []⟩=some (.cells [[vB [],.int .i64 (Z8 [])]] false) from rfl]
       have hx1:=fun ρ=>Yb ρ [] (Z8 [])
       have hx2:=hx1
       have hx3:=hx1
       have hx4:=hx1
       by_cases hc:Z8 []=0
       ·exact absurd hc (by decide)
       ·rw[if_pos hc]at hA
        subst hA
        repeat' first|refine And.intro ?_ ?_|(intro h;try first|exact dzi|replace h:=cvi)
        all_goals try exact cz
        exact V6 (p:=([],Z8 [])) rfl rfl rfl rfl
      ·rw[VS (show(BR.mk [] e').e≠0 from he)]at hA
       subst hA
       repeat' first|refine And.intro ?_ ?_|(intro h;try first|exact dz|replace h:=cv)
       all_goals try exact cz
       exact V6 (p:=([],e')) rfl rfl rfl rfl)
   · repeat' first|refine And.intro ?_ ?_|(intro h;try first|exact dz|replace h:=cv)
     all_goals try exact cz
     all_goals(refine⟨_,Mf (b:=true) rfl rfl rfl (decide_eq_true (by have:=List.length_pos_iff.2 hb;omega)) rfl rfl,?_⟩)
     all_goals(obtain⟨b',e'⟩:=r;have hb:b'≠[]:=hb)
     all_goals(
      repeat' first|refine And.intro ?_ ?_|(intro h;try first|exact dz|replace h:=cv)
      all_goals try exact cz
      refine⟨[0],[.ptr 0 0 0,.int .i64 9],[(0,rdB ⟨b',e'⟩)],rfl,⟨.refl _,.refl _,trivial⟩,⟨⟨by decide,_,rfl,.refl _⟩,trivial⟩,⟨b',e'⟩,9,rfl,rfl,rfl,?_⟩
      by_cases he:e'=0
      ·subst he
       rw[Gu hb]at hA
       subst hA
       rw[show QT ⟨b',0⟩ 9=⟨b',9⟩ from rfl,show rdB ⟨b',9⟩=some (.cells [[vB b',.int .i64 9]] false) from rfl]
       have hx1:=fun ρ=>Yb ρ b' 9
       have hx2:=hx1
       have hx3:=hx1
       have hx4:=hx1
       repeat' first|refine And.intro ?_ ?_|(intro h;try first|exact dzi|replace h:=cvi)
       all_goals try exact cz
       exact V6 (p:=([],9)) rfl rfl rfl rfl
      ·rw[VS (show(BR.mk b' e').e≠0 from he)]at hA
       subst hA
       rw[show QT ⟨b',e'⟩ 9=⟨b',e'⟩ from if_neg he,show rdB ⟨b',e'⟩=some (.cells [[vB b',.int .i64 e']] false) from rfl]
       have hx1:=fun ρ=>Yb ρ b' e'
       have hx2:=hx1
       have hx3:=hx1
       have hx4:=hx1
       repeat' first|refine And.intro ?_ ?_|(intro h;try first|exact dzi|replace h:=cvi)
       all_goals try exact cz
       exact V6 (p:=([],e')) rfl rfl rfl rfl)
def S_prs:SpecI:=fun args K=>∃b,args=[vB b]∧b.length≤1000000∧K (.tup [vF (Xn b).1,.int .i64 (Xn b).2])
theorem NG[Syms]:Zi Try.prog 56 S_prs:=by
 rintro args K ⟨b,rfl,h,hk⟩
 exact⟨rfl,_,rfl,hk,fnI Qp Qq Q5 Oj QJ (OH b h _ rfl)⟩
end
section
set_option maxRecDepth 100000
set_option maxHeartbeats 4000000
end
structure Vl where
 n:Int
 s:List UInt8
 deriving Inhabited
structure Sta where
 nulls:Int
 has:Bool
 mn:Vl
 mx:Vl
 deriving Inhabited
structure Pg where
 rows:Int
 cells:Int
 enc:Int
 rlen:Int
 dlen:Int
 vlen:Int
 crc:Int
 deriving Inhabited
structure Ck where
 words:Int
 size:Int
 crc:Int
 pages:List Pg
 known:Bool
 st:Sta
 deriving Inhabited
structure Rw where
 n:Int
 chunks:List Ck
 deriving Inhabited
structure Mt where
 s:List Fd
 n:Int
 groups:List Rw
 deriving Inhabited
def Yi(v:Vl):List AVal:=[.int .i64 v.n,.str v.s]
def encP(p:Pg):List AVal:=[.int .i64 p.rows,.int .i64 p.cells,.int .i64 p.enc,.int .i64 p.rlen,.int .i64 p.dlen,.int .i64 p.vlen,.int .u32 p.crc]
def encC(c:Ck):List AVal:=[.int .i64 c.words,.int .i64 c.size,.int .u32 c.crc,.vs 7 (c.pages.map encP),.bool c.known,.int .i64 c.st.nulls,.bool c.st.has,.int .i64 c.st.mn.n,.str c.st.mn.s,.int .i64 c.st.mx.n,.str c.st.mx.s]
def encR(r:Rw):List AVal:=[.int .i64 r.n,.vs 11 (r.chunks.map encC)]
def Qv(m:Mt):List AVal:=[.vs 4 (m.s.map encF),.int .i64 m.n,.vs 2 (m.groups.map encR)]
abbrev vP(l:List Pg):AVal:=vT 7 encP default l
abbrev vC(l:List Ck):AVal:=vT 11 encC default l
abbrev vR(l:List Rw):AVal:=vT 2 encR default l
theorem fP(l:List Pg):Qj (l.map encP):=XR (fun a x hx=>by simp[encP]at hx;rcases hx with rfl|rfl|rfl|rfl|rfl|rfl|rfl<;>rfl) l
theorem fC(l:List Ck):Qj (l.map encC):=XR (fun a x hx=>by simp[encC]at hx;rcases hx with rfl|rfl|rfl|rfl|rfl|rfl|rfl|rfl|rfl|rfl|rfl<;>rfl) l
theorem fR(l:List Rw):Qj (l.map encR):=XR (fun a x hx=>by simp[encR]at hx;rcases hx with rfl|rfl<;>rfl) l
theorem sq:(∀p,(encP p).getD 0 .any= .int .i64 p.rows)∧(∀p,(encP p).getD 1 .any= .int .i64 p.cells)∧(∀p,(encP p).getD 2 .any= .int .i64 p.enc)∧(∀p,(encP p).getD 3 .any= .int .i64 p.rlen)∧(∀p,(encP p).getD 4 .any= .int .i64 p.dlen)∧(∀p,(encP p).getD 5 .any= .int .i64 p.vlen)∧(∀p,(encP p).getD 6 .any= .int .u32 p.crc)∧(∀c,(encC c).getD 0 .any= .int .i64 c.words)∧(∀c,(encC c).getD 1 .any= .int .i64 c.size)∧(∀c,(encC c).getD 2 .any= .int .u32 c.crc)∧(∀c,(encC c).getD 3 .any= .vs 7 (c.pages.map encP))∧(∀c,(encC c).getD 4 .any= .bool c.known)∧(∀c,(encC c).getD 5 .any= .int .i64 c.st.nulls)∧(∀c,(encC c).getD 6 .any= .bool c.st.has)∧(∀c,(encC c).getD 7 .any= .int .i64 c.st.mn.n)∧(∀c,(encC c).getD 8 .any= .str c.st.mn.s)∧(∀c,(encC c).getD 9 .any= .int .i64 c.st.mx.n)∧(∀c,(encC c).getD 10 .any= .str c.st.mx.s)∧(∀r,(encR r).getD 0 .any= .int .i64 r.n)∧(∀r,(encR r).getD 1 .any= .vs 11 (r.chunks.map encC))∧(∀v,(Yi v).getD 0 .any= .int .i64 v.n)∧(∀v,(Yi v).getD 1 .any= .str v.s)∧(∀p,(encP p).getD (0+0) .any= .int .i64 p.rows)∧(∀p,(encP p).getD (0+1) .any= .int .i64 p.cells)∧(∀p,(encP p).getD (0+2) .any= .int .i64 p.enc)∧(∀p,(encP p).getD (0+3) .any= .int .i64 p.rlen)∧(∀p,(encP p).getD (0+4) .any= .int .i64 p.dlen)∧(∀p,(encP p).getD (0+5) .any= .int .i64 p.vlen)∧(∀p,(encP p).getD (0+6) .any= .int .u32 p.crc)∧(∀c,(encC c).getD (0+0) .any= .int .i64 c.words)∧(∀c,(encC c).getD (0+1) .any= .int .i64 c.size)∧(∀c,(encC c).getD (0+2) .any= .int .u32 c.crc)∧(∀c,(encC c).getD (0+3) .any= .vs 7 (c.pages.map encP))∧(∀c,(encC c).getD (0+4) .any= .bool c.known)∧(∀c,(encC c).getD (0+5) .any= .int .i64 c.st.nulls)∧(∀c,(encC c).getD (0+6) .any= .bool c.st.has)∧(∀c,(encC c).getD (0+7) .any= .int .i64 c.st.mn.n)∧(∀c,(encC c).getD (0+8) .any= .str c.st.mn.s)∧(∀c,(encC c).getD (0+9) .any= .int .i64 c.st.mx.n)∧(∀c,(encC c).getD (0+10) .any= .str c.st.mx.s)∧(∀r,(encR r).getD (0+0) .any= .int .i64 r.n)∧(∀r,(encR r).getD (0+1) .any= .vs 11 (r.chunks.map encC))∧(∀v,(Yi v).getD (0+0) .any= .int .i64 v.n)∧(∀v,(Yi v).getD (0+1) .any= .str v.s)∧(∀z r,asR (.vs z r)=r):=
 ⟨fun _=>rfl,fun _=>rfl,fun _=>rfl,fun _=>rfl,fun _=>rfl,fun _=>rfl,fun _=>rfl,fun _=>rfl,fun _=>rfl,fun _=>rfl,fun _=>rfl,fun _=>rfl,fun _=>rfl,fun _=>rfl,fun _=>rfl,fun _=>rfl,fun _=>rfl,fun _=>rfl,fun _=>rfl,fun _=>rfl,fun _=>rfl,fun _=>rfl,fun _=>rfl,fun _=>rfl,fun _=>rfl,fun _=>rfl,fun _=>rfl,fun _=>rfl,fun _=>rfl,fun _=>rfl,fun _=>rfl,fun _=>rfl,fun _=>rfl,fun _=>rfl,fun _=>rfl,fun _=>rfl,fun _=>rfl,fun _=>rfl,fun _=>rfl,fun _=>rfl,fun _=>rfl,fun _=>rfl,fun _=>rfl,fun _=>rfl,fun _ _=>rfl⟩
theorem dzq{q:Prop}(e:q:=by(try first|replace h:=of_decide_eq_true h|replace h:=of_decide_eq_false h);(try simp only[sg,sq]at h);(try simp only[sx,↓reduceIte,Nat.reduceAdd,reduceCtorEq,Int.reduceLT,Int.reduceLE,Int.reduceSub,Nat.reduceEqDiff,Nat.reduceLT]at h);first|done|exact nz h):q:=e
theorem cvq{q:Prop}(e:q:=by(try first|replace h:=of_decide_eq_true h|replace h:=of_decide_eq_false h);(try simp only[sg,sq]at h);(try simp only[sx,↓reduceIte,Nat.reduceAdd,reduceCtorEq,Int.reduceLT,Int.reduceLE,Int.reduceSub,Nat.reduceEqDiff,Nat.reduceLT]at h);exact h):q:=e
theorem XF{q:Prop}(e:q:=by(try first|replace h:=of_decide_eq_true h|replace h:=of_decide_eq_false h);(try simp only[sg,sq,hx1,hx2,hx3,hx4]at h);(try simp only[sx,↓reduceIte,Nat.reduceAdd,reduceCtorEq,Int.reduceLT,Int.reduceLE,Int.reduceSub,Nat.reduceEqDiff,Nat.reduceLT]at h);first|done|exact nz h):q:=e
theorem XG{q:Prop}(e:q:=by(try first|replace h:=of_decide_eq_true h|replace h:=of_decide_eq_false h);(try simp only[sg,sq,hx1,hx2,hx3,hx4]at h);(try simp only[sx,↓reduceIte,Nat.reduceAdd,reduceCtorEq,Int.reduceLT,Int.reduceLE,Int.reduceSub,Nat.reduceEqDiff,Nat.reduceLT]at h);exact h):q:=e
theorem czq{P:Prop}(h:P:=by first|exact cz|((with_reducible first|show(_:Int)≤_|show(_:Int)<_);(try simp only[sg,sq]);omega)):P:=h
def XZ(s:List Fd):List Int:=(QP s).map (·.kind)
def Ql(r:BR):Nat×BR:=QX 1048576 14 r
def Zj(r:BR):Nat×BR:=if 1<(Zc 1 r).1 then(0,QT (Zc 1 r).2 10)else Zc 1 r
def WW(kind:Int)(r:BR):Vl×BR:=
 if kind=1 then(⟨((Zj r).1:Nat),[]⟩,(Zj r).2)else
 if kind=2 then(⟨wr .i32 ((Zc 4 r).1:Nat),[]⟩,(Zc 4 r).2)else
 if kind=3 then(⟨wr .i64 ((Zc 8 r).1:Nat),[]⟩,(Zc 8 r).2)else
 (⟨0,(Z4 (QX 100 5 r).1 (QX 100 5 r).2).1⟩,(Z4 (QX 100 5 r).1 (QX 100 5 r).2).2)
def Y4(r:BR):Pg×BR:=
 let a:=Ql r
 let b:=Ql a.2
 let c:=Ql b.2
 let d:=Ql c.2
 let e:=Ql d.2
 let f:=Ql e.2
 let g:=Zc 4 f.2
 (⟨a.1,b.1,c.1,d.1,e.1,f.1,g.1⟩,g.2)
def Xt:Nat→BR→List Pg→List Pg×BR
 |0,r,s=>(s,r)
 |k+1,r,s=>if r.e≠0 then(s,r)else Xt k (Y4 r).2 (s++[(Y4 r).1])
def Ds(r:BR):(Nat×Nat×Nat)×BR:=
 let a:=Ql r
 let b:=Ql a.2
 let c:=Zc 4 b.2
 ((a.1,b.1,c.1),c.2)
def Dd(kind:Int)(r:BR):(Bool×Sta)×BR:=
 let t:=Zj r
 if t.1≠1 then((false,default),t.2)else
 let n:=Ql t.2
 let h:=Zj n.2
 if h.1≠1 then((true,⟨n.1,false,default,default⟩),h.2)else
 let a:=WW kind h.2
 let b:=WW kind a.2
 ((true,⟨n.1,true,a.1,b.1⟩),b.2)
def ZX(kind:Int)(r:BR):Ck×BR:=
 let a:=Ds r
 let n:=QX 200 4 a.2
 let p:=Xt n.1 n.2 []
 let k:=Dd kind p.2
 (⟨a.1.1,a.1.2.1,a.1.2.2,p.1,k.1.1,k.1.2⟩,k.2)
def ZT:List Int→BR→List Ck→List Ck×BR
 |[],r,s=>(s,r)
 |k::ks,r,s=>if r.e≠0 then(s,r)else ZT ks (ZX k r).2 (s++[(ZX k r).1])
def X3(ks:List Int)(r:BR):Rw×BR:=
 let a:=Ql r
 let c:=ZT ks a.2 []
 (⟨a.1,c.1⟩,c.2)
def Xg(ks:List Int):Nat→BR→List Rw→List Rw×BR
 |0,r,s=>(s,r)
 |k+1,r,s=>if r.e≠0 then(s,r)else Xg ks k (X3 ks r).2 (s++[(X3 ks r).1])
def mt0:Mt:=⟨[],0,[]⟩
def U4(r:BR):Mt×BR:=
 let c:=QX 2000 5 r
 let t:=Z4 c.1 c.2
 if t.2.e≠0 then(mt0,t.2)else
 let p:=Xn t.1
 let r1:=QT t.2 p.2
 let n:=Ql r1
 let k:=QX 200 4 n.2
 let g:=Xg (XZ p.1) k.1 k.2 []
 (⟨p.1,n.1,g.1⟩,g.2)
def Io(a b:List UInt8):Int:=if Op.bytesLess a b=true then -1 else if(Op.bytesLess a b||eqb a b)=true then 0 else 1
def In(a b:Int):Int:=if a<b then -1 else if b<a then 1 else 0
def Fs(kind:Int)(a b:Vl):Int:=if kind=4 then Io a.s b.s else In a.n b.n
def Xl(f:Pg→Int):List Pg→Int
 |[]=>0
 |p::l=>f p+Xl f l
def W2(kind n:Int)(c:Ck):Bool:=
 c.pages.all (fun p=>decide (p.rows≠0))&&decide (Xl (·.rows) c.pages=n)&&decide (c.words≤256)&&(c.pages.all (fun p=>decide (p.enc=2))||decide (c.words=0∧c.size=0))&&(!c.known||decide (c.st.nulls≤Xl (·.cells) c.pages)&&decide (0≤Fs kind c.st.mx c.st.mn))
def XE(n:Int):List Int→List Ck→Bool
 |k::ks,c::cs=>W2 k n c&&XE n ks cs
 |_,_=>true
def Z5:List Rw→Int
 |[]=>0
 |r::l=>r.n+Z5 l
def W0(m:Mt):Bool:=(m.groups.all fun g=>decide (g.n≠0)&&XE g.n (XZ m.s) g.chunks)&&decide (Z5 m.groups=m.n∧Z5 m.groups≤200)
def Jq(b:List UInt8):Mt×Int:=
 let q:=U4 ⟨b,0⟩
 let r1:=if q.2.b≠[]then QT q.2 9 else q.2
 let r2:=if r1.e=0∧W0 q.1=false then QT r1 10 else r1
 if r2.e≠0 then(mt0,r2.e)else(q.1,0)
section
set_option maxRecDepth 100000
set_option maxHeartbeats 4000000
def UA(Post:AVal→Heap→Nat→Prop):AVal→Heap→Nat→Prop:=fun v H nx=>∃K:Heap,K.sub H∧Post v K nx
theorem XI.forget[Syms]{P:Program}{f:FuncId}{args:List AVal}{H:Heap}{nx:Nat}{Post:AVal→Heap→Nat→Prop}(h:XI P f args H nx (UA Post)):XI P f args H nx Post:=by
 refine⟨h.1,fun ι w vs hv hH hb=>(h.2 ι w vs hv hH hb).mono ?_⟩
 rintro e w' ⟨v,H',nx',r,κ,⟨K,hs,hp⟩,h2,h3,h4,h5,h6,h7⟩
 exact⟨v,K,nx',r,κ,hp,h2,h3,h4.sub hs,⟨h5.keep,h5.fzle,h5.os,h5.tape,h5.output,h5.size,h5.same,fun g hg=>h5.own g (hg.sub hs),h5.fzs,h5.fresh⟩,h6,h7⟩
theorem Zd{ρ:Nat→Nat}{row row':List AVal}(h:VE row' row)(hf:∀x∈row,x.flat=true):WkB (.cells [row'] false) ((Blk.cells [row] false).ren ρ):=by
 rw[Dz ρ (Y7 hf QS)]
 refine .each _ _ _ rfl fun k r r' h1 h2=>?_
 cases k with
 |zero=>
  cases h1;cases h2
  exact⟨h.at.1.symm,h.at.2⟩
 |succ k=>simp at h1
theorem Q6{ρ:Nat→Nat}{row row':List AVal}(h:VE row' (AVal.renL ρ row)):WkB (.cells [row'] false) ((Blk.cells [row] false).ren ρ):=by
 simp only[Blk.ren,List.map_cons,List.map_nil]
 refine .each _ _ _ rfl fun k r r' h1 h2=>?_
 cases k with
 |zero=>
  cases h1;cases h2
  exact⟨h.at.1.symm,h.at.2⟩
 |succ k=>simp at h1
theorem IY{b:Option Blk}{l:Heap}:Heap.sub [(0,b)] ((0,b)::l):=fun n c h=>by
 rw[Heap.get_cons]at h ⊢
 by_cases hz:n=0
 ·subst hz;exact h
 ·rw[QL hz]at h;rw[show(bif false then b else Heap.get [] n)=none from Heap.get_nil n]at h;cases h
theorem ZZ[Syms]{N k n nx:Nat}{e:Env}{H:Heap}{row' row:List AVal}{r:BR}{rs:List ResultVar}{Post:AVal→Heap→Nat→Prop}(hk:e.get k= .ptr n 0 0)(H0:H.get 0=rdB r)(Hn:H.get n=some (.cells [row'] false))(hrow:VE row' row)(hf:∀x∈row,x.flat=true)
 (hn:Zm 1 nx [0,n]=true) (hrs:ZR (Qz tys) ⟨[(k,.ptr 1 0 0)],[(0,rdB r),(1,some (.cells [row] false))],2⟩ rs=some (.agg row)) (hP:Post (.agg row) [(0,rdB r)] 2):
 ∃s3,Reb 1 N ⟨e,H,nx⟩ s3∧ ∃v,ZR (Qz tys) s3 rs=some v∧UA Post v s3.heap s3.nx:=
 ⟨⟨[(k,.ptr 1 0 0)],[(0,rdB r),(1,some (.cells [row] false))],2⟩,Q0 [0,n] hn ⟨by rw[hk];exact .refl _,trivial⟩ ⟨⟨Nat.succ_pos _,_,H0,.refl _⟩,⟨Nat.lt_succ_self _,_,Hn,Zd hrow hf⟩,trivial⟩,_,hrs,_,IY,hP⟩
theorem EH{a b:List UInt8}(h:a=b):WkV (.str a) (.str b):=h▸ .refl _
theorem fV(v:Vl):∀x∈Yi v,x.flat=true:=fun x hx=>by simp[Yi]at hx;rcases hx with rfl|rfl<;>rfl
abbrev cFx:CallT:=Qe 54 (Z6 Kj) (Qe 111 (Z6 BB) (Qe 112 (Z6 BC) Q9))
theorem Om[Syms]:cFx.ok Try.prog:=Qc UP (Qc Cp (Qc Cq Qb))
theorem CC(n:Nat)(r:BR):(Z4 n r).1.length=n∨(Z4 n r).1=[]:=by
 unfold Z4
 by_cases h:r.b.length<n
 ·simp only[if_pos h]
  have:(QT r 8).e≠0:=by
   unfold QT
   by_cases h0:r.e=0
   ·rw[if_pos h0];show(8:Int)≠0;decide
   ·rw[if_neg h0];exact h0
  rw[if_pos this];exact .inr rfl
 ·simp only[if_neg h]
  by_cases h0:r.e≠0
  ·rw[if_pos h0];exact .inr rfl
  ·rw[if_neg h0];left;simp;omega
theorem NY[Syms]{Post:AVal→Heap→Nat→Prop}(r:BR)(n:Nat)(hn:0<n∧n≤8)(hl:r.b.length≤1000000)(hP:Post (.int .u64 ((Zc n r).1:Nat)) [(0,rdB (Zc n r).2)] 1):
 fnT Q9 cFx (QN fns) (Qz tys) (QV plt) 100 102 [.ptr 0 0 0,.int .i64 n] [(0,rdB r)] 1 Post:=by
 refine⟨[0],[.ptr 0 0 0,.int .i64 n],[(0,rdB r)],rfl,⟨.refl _,.refl _,trivial⟩,⟨⟨by decide,_,rfl,.refl _⟩,trivial⟩,r,n,rfl,rfl,rfl,⟨hl,by omega⟩,?_⟩
 unfold Zc at hP
 have h2:=CC n r
 generalize Z4 n r=q at *
 obtain⟨t,r2⟩:=q
 have hP:Post (.int .u64 (leV t:Nat)) [(0,rdB r2)] 1:=hP
 rcases h2 with h2|h2
 ·have h2:t.length=n:=h2
  refine⟨[],[vB t],[],rfl,⟨.refl _,trivial⟩,trivial,t,rfl,rfl,rfl,by omega,?_⟩
  have ht:t.take n=t:=List.take_of_length_le (by omega)
  refine⟨[2],[.ptr 0 0 0,.int .i64 (n:Nat)],[(0,rdB ⟨t,0⟩)],rfl,⟨.refl _,.refl _,trivial⟩,⟨⟨by decide,_,rfl,.refl _⟩,trivial⟩,t,n,rfl,rfl,rfl,⟨by omega,by omega⟩,.inl ⟨by omega,?_⟩⟩
  rw[ht]
  repeat' first|refine And.intro ?_ ?_|(intro h;try first|exact dz|replace h:=cv)
  all_goals try exact cz
  exact⟨⟨[(4,.int .u64 (leV t:Nat))],[(0,rdB r2)],1⟩,Q0 [0] (by first|rfl|kernel_rfl) ⟨.refl _,trivial⟩ ⟨⟨by decide,_,rfl,.refl _⟩,trivial⟩,_,rfl,hP⟩
 ·have h2:t=[]:=h2
  subst h2
  refine⟨[],[vB []],[],rfl,⟨.refl _,trivial⟩,trivial,[],rfl,rfl,rfl,by simp,?_⟩
  refine⟨[2],[.ptr 0 0 0,.int .i64 (n:Nat)],[(0,rdB ⟨[],0⟩)],rfl,⟨.refl _,.refl _,trivial⟩,⟨⟨by decide,_,rfl,.refl _⟩,trivial⟩,[],n,rfl,rfl,rfl,⟨by simp,by omega⟩,.inr ⟨hn.1,?_⟩⟩
  repeat' first|refine And.intro ?_ ?_|(intro h;try first|exact dz|replace h:=cv)
  all_goals try exact cz
  exact⟨⟨[(4,.int .u64 (leV []:Nat))],[(0,rdB r2)],1⟩,Q0 [0] (by first|rfl|kernel_rfl) ⟨.refl _,trivial⟩ ⟨⟨by decide,_,rfl,.refl _⟩,trivial⟩,_,rfl,hP⟩
def GT:SpecT:=fun args H nx Post=>∃(r:BR) (n:Nat),args=[.ptr 0 0 0,.int .i64 n]∧H=[(0,rdB r)]∧nx=1∧((0<n∧n≤8)∧r.b.length≤1000000)∧Post (.int .u64 ((Zc n r).1:Nat)) [(0,rdB (Zc n r).2)] 1
theorem Jx[Syms]:GT.ok Try.prog 102:=by
 rintro args H nx Post ⟨r,n,rfl,rfl,rfl,⟨h1,h2⟩,h⟩
 exact QC Qp Qq Q5 Om QJ (NY r n h1 h2 h)
abbrev cFt:CallT:=Qe 102 (Z6 GT) (Qe 27 (Z6 VV) Q9)
theorem Oo[Syms]:cFt.ok Try.prog:=Qc Jx (Qc Vv Qb)
theorem I0[Syms]{Post:AVal→Heap→Nat→Prop}(r:BR)(hl:r.b.length≤1000000)(hP:Post (.int .i64 ((Zj r).1:Nat)) [(0,rdB (Zj r).2)] 1):
 fnT Q9 cFt (QN fns) (Qz tys) (QV plt) 100 105 [.ptr 0 0 0] [(0,rdB r)] 1 Post:=by
 refine⟨[0],[.ptr 0 0 0,.int .i64 ((1:Nat):Int)],[(0,rdB r)],rfl,⟨.refl _,.refl _,trivial⟩,⟨⟨by decide,_,rfl,.refl _⟩,trivial⟩,r,1,rfl,rfl,rfl,⟨⟨by omega,by omega⟩,hl⟩,?_⟩
 unfold Zj at hP
 generalize Zc 1 r=q at *
 obtain⟨v,r2⟩:=q
 have hP:Post (.int .i64 ((if 1<v then(0,QT r2 10)else(v,r2)).1:Nat)) [(0,rdB (if 1<v then(0,QT r2 10)else(v,r2)).2)] 1:=hP
 by_cases h1:1<v
 ·rw[if_pos h1]at hP
  repeat' first|refine And.intro ?_ ?_|(intro h;try first|exact dz|replace h:=cv)
  all_goals try exact cz
  refine⟨[0],[.ptr 0 0 0,.int .i64 10],[(0,rdB r2)],rfl,⟨.refl _,.refl _,trivial⟩,⟨⟨by decide,_,rfl,.refl _⟩,trivial⟩,r2,10,rfl,rfl,rfl,?_⟩
  generalize QT r2 10=r3 at *
  repeat' first|refine And.intro ?_ ?_|(intro h;try first|exact dz|replace h:=cv)
  all_goals try exact cz
  exact⟨⟨[(2,.int .i64 (0:Nat))],[(0,rdB r3)],1⟩,Q0 [0] (by first|rfl|kernel_rfl) ⟨.refl _,trivial⟩ ⟨⟨by decide,_,rfl,.refl _⟩,trivial⟩,_,rfl,hP⟩
 ·rw[if_neg h1]at hP
  have hw:=IP (n:=v) (by omega)
  repeat' first|refine And.intro ?_ ?_|(intro h;try first|exact dz|replace h:=cv)
  all_goals try exact cz
  exact⟨⟨[(2,.int .i64 (v:Nat))],[(0,rdB r2)],1⟩,Q0 [0] (by first|rfl|kernel_rfl) ⟨Qg hw,trivial⟩ ⟨⟨by decide,_,rfl,.refl _⟩,trivial⟩,_,rfl,hP⟩
def GR:SpecT:=fun args H nx Post=>∃(r:BR),args=[.ptr 0 0 0]∧H=[(0,rdB r)]∧nx=1∧r.b.length≤1000000∧Post (.int .i64 ((Zj r).1:Nat)) [(0,rdB (Zj r).2)] 1
theorem Mu[Syms]:GR.ok Try.prog 105:=by
 rintro args H nx Post ⟨r,rfl,rfl,rfl,h1,h⟩
 exact QC Qp Qq Q5 Oo QJ (I0 r h1 h)
abbrev OT:CallT:=Qe 55 (Z6 GS) Q9
theorem LU[Syms]:OT.ok Try.prog:=Qc Jv Qb
theorem I3[Syms]{Post:AVal→Heap→Nat→Prop}(r:BR)(hl:r.b.length≤1000000)(hP:Post (.int .i64 ((Ql r).1:Nat)) [(0,rdB (Ql r).2)] 1):
 fnT Q9 OT (QN fns) (Qz tys) (QV plt) 100 57 [.ptr 0 0 0] [(0,rdB r)] 1 Post:=by
 refine⟨[0],[.ptr 0 0 0,.int .i64 ((1048576:Nat):Int),.int .i64 14],[(0,rdB r)],rfl,⟨.refl _,.refl _,.refl _,trivial⟩,⟨⟨by decide,_,rfl,.refl _⟩,trivial⟩,r,1048576,14,rfl,rfl,rfl,⟨hl,by omega,by decide⟩,?_⟩
 replace hP:Post (.int .i64 ((QX 1048576 14 r).1:Nat)) [(0,rdB (QX 1048576 14 r).2)] 1:=hP
 generalize QX 1048576 14 r=q at *
 obtain⟨v,r2⟩:=q
 repeat' first|refine And.intro ?_ ?_|(intro h;try first|exact dz|replace h:=cv)
 all_goals try exact cz
 exact⟨⟨[(2,.int .i64 (v:Nat))],[(0,rdB r2)],1⟩,Q0 [0] (by first|rfl|kernel_rfl) ⟨.refl _,trivial⟩ ⟨⟨by decide,_,rfl,.refl _⟩,trivial⟩,_,rfl,hP⟩
def VF:SpecT:=fun args H nx Post=>∃(r:BR),args=[.ptr 0 0 0]∧H=[(0,rdB r)]∧nx=1∧r.b.length≤1000000∧Post (.int .i64 ((Ql r).1:Nat)) [(0,rdB (Ql r).2)] 1
theorem VQ[Syms]:VF.ok Try.prog 57:=by
 rintro args H nx Post ⟨r,rfl,rfl,rfl,h1,h⟩
 exact QC Qp Qq Q5 LU QJ (I3 r h1 h)
abbrev cFv[Syms]:CallT:=Qe 97 (GE Q9 Q9 (QN fns) (Qz tys) (QV plt) 100) (Qe 105 (Z6 GR) (Qe 102 (Z6 GT) (Qe 55 (Z6 GS) (Qe 54 (Z6 Kj) Q9))))
theorem On[Syms]:cFv.ok Try.prog:=Xi (Xz Qp Qq Q5 Qb QJ) (Qc Mu (Qc Jx (Qc Jv (Qc UP Qb))))
theorem OE(x:Int):wr .i64 (wr .i32 x)=wr .i32 x:=by
 apply wrI
 unfold wr
 split
 ·rename_i h
  have h1:(-2147483648:Int)≤x:=h.1
  have h2:x≤(2147483647:Int):=h.2
  omega
 ·show(-9223372036854775808:Int)≤(if(true&&decide (x%(2^32:Int)≥(2^31:Int)))=true then x%(2^32:Int)-(2^32:Int)else x%(2^32:Int))∧(if(true&&decide (x%(2^32:Int)≥(2^31:Int)))=true then x%(2^32:Int)-(2^32:Int)else x%(2^32:Int))≤(9223372036854775807:Int)
  split<;>omega
theorem Nx(r:BR):WW 1 r=(⟨((Zj r).1:Nat),[]⟩,(Zj r).2):=rfl
theorem Nw(r:BR):WW 2 r=(⟨wr .i32 ((Zc 4 r).1:Nat),[]⟩,(Zc 4 r).2):=rfl
theorem Nv(r:BR):WW 3 r=(⟨wr .i64 ((Zc 8 r).1:Nat),[]⟩,(Zc 8 r).2):=rfl
theorem Nu{k:Int}(h:¬k=1∧ ¬k=2∧ ¬k=3)(r:BR):WW k r=(⟨0,(Z4 (QX 100 5 r).1 (QX 100 5 r).2).1⟩,(Z4 (QX 100 5 r).1 (QX 100 5 r).2).2):=by
 unfold WW
 rw[if_neg h.1,if_neg h.2.1,if_neg h.2.2]
theorem NU[Syms]{Post:AVal→Heap→Nat→Prop}(k:Int)(r:BR)(hl:r.b.length≤1000000)(hP:Post (.agg (Yi (WW k r).1)) [(0,rdB (WW k r).2)] 2):
 fnT Q9 cFv (QN fns) (Qz tys) (QV plt) 100 106 [.ptr 0 0 0,.int .i64 k] [(0,rdB r)] 1 (UA Post):=by
 by_cases h1:k=1
 ·subst h1
  rw[Nx]at hP
  repeat' first|refine And.intro ?_ ?_|(intro h;try first|exact dz|replace h:=cv)
  all_goals try exact cz
  refine⟨_,.refl _ _ _,_,rfl,?_⟩
  repeat' first|refine And.intro ?_ ?_|(intro h;try first|exact dz|replace h:=cv)
  all_goals try exact cz
  refine⟨[0],[.ptr 0 0 0],[(0,rdB r)],rfl,⟨.refl _,trivial⟩,⟨⟨by decide,_,rfl,.refl _⟩,trivial⟩,r,rfl,rfl,rfl,hl,?_⟩
  generalize Zj r=q at *
  obtain⟨v,r2⟩:=q
  repeat' first|refine And.intro ?_ ?_|(intro h;try first|exact dz|replace h:=cv)
  all_goals try exact cz
  exact ZZ (k:=4) (n:=1) (row:=Yi ⟨(v:Nat),[]⟩) rfl rfl rfl ⟨.refl _,.refl _,trivial⟩ (fV _) (by first|rfl|kernel_rfl) rfl hP
 by_cases h2:k=2
 ·subst h2
  rw[Nw]at hP
  repeat' first|refine And.intro ?_ ?_|(intro h;try first|exact dz|replace h:=cv)
  all_goals try exact cz
  refine⟨_,.refl _ _ _,_,rfl,?_⟩
  repeat' first|refine And.intro ?_ ?_|(intro h;try first|exact dz|replace h:=cv)
  all_goals try exact cz
  refine⟨[0],[.ptr 0 0 0,.int .i64 ((4:Nat):Int)],[(0,rdB r)],rfl,⟨.refl _,.refl _,trivial⟩,⟨⟨by decide,_,rfl,.refl _⟩,trivial⟩,r,4,rfl,rfl,rfl,⟨by decide,hl⟩,?_⟩
  generalize Zc 4 r=q at *
  obtain⟨v,r2⟩:=q
  have hw:=OE (v:Nat)
  repeat' first|refine And.intro ?_ ?_|(intro h;try first|exact dz|replace h:=cv)
  all_goals try exact cz
  exact ZZ (k:=4) (n:=1) (row:=Yi ⟨wr .i32 (v:Nat),[]⟩) rfl rfl rfl ⟨Qg hw,.refl _,trivial⟩ (fV _) (by first|rfl|kernel_rfl) rfl hP
 by_cases h3:k=3
 ·subst h3
  rw[Nv]at hP
  repeat' first|refine And.intro ?_ ?_|(intro h;try first|exact dz|replace h:=cv)
  all_goals try exact cz
  refine⟨_,.refl _ _ _,_,rfl,?_⟩
  repeat' first|refine And.intro ?_ ?_|(intro h;try first|exact dz|replace h:=cv)
  all_goals try exact cz
  refine⟨[0],[.ptr 0 0 0,.int .i64 ((8:Nat):Int)],[(0,rdB r)],rfl,⟨.refl _,.refl _,trivial⟩,⟨⟨by decide,_,rfl,.refl _⟩,trivial⟩,r,8,rfl,rfl,rfl,⟨by decide,hl⟩,?_⟩
  generalize Zc 8 r=q at *
  obtain⟨v,r2⟩:=q
  repeat' first|refine And.intro ?_ ?_|(intro h;try first|exact dz|replace h:=cv)
  all_goals try exact cz
  exact ZZ (k:=4) (n:=1) (row:=Yi ⟨wr .i64 (v:Nat),[]⟩) rfl rfl rfl ⟨.refl _,.refl _,trivial⟩ (fV _) (by first|rfl|kernel_rfl) rfl hP
 rw[Nu ⟨h1,h2,h3⟩]at hP
 repeat' first|refine And.intro ?_ ?_|(intro h;try first|exact dz|replace h:=cv)
 all_goals try exact cz
 refine⟨_,.refl _ _ _,_,rfl,?_⟩
 repeat' first|refine And.intro ?_ ?_|(intro h;try first|exact dz|replace h:=cv)
 all_goals try exact cz
 refine⟨[0],[.ptr 0 0 0,.int .i64 ((100:Nat):Int),.int .i64 5],[(0,rdB r)],rfl,⟨.refl _,.refl _,.refl _,trivial⟩,⟨⟨by decide,_,rfl,.refl _⟩,trivial⟩,r,100,5,rfl,rfl,rfl,⟨hl,by omega,by decide⟩,?_⟩
 have l0:=QF 100 5 r
 have n0:=Zf (m:=100) (w:=5) (by decide) r
 generalize QX 100 5 r=q at *
 obtain⟨v,r2⟩:=q
 have l0:r2.b.length≤r.b.length:=l0
 have n0:v≤100:=n0
 refine⟨[0],[.ptr 0 0 0,.int .i64 (v:Nat)],[(0,rdB r2)],rfl,⟨.refl _,.refl _,trivial⟩,⟨⟨by decide,_,rfl,.refl _⟩,trivial⟩,r2,v,rfl,rfl,rfl,⟨by omega,by omega⟩,?_⟩
 replace hP:Post (.agg (Yi ⟨0,(Z4 v r2).1⟩)) [(0,rdB (Z4 v r2).2)] 2:=hP
 generalize Z4 v r2=q at *
 obtain⟨t,r3⟩:=q
 repeat' first|refine And.intro ?_ ?_|(intro h;try first|exact dz|replace h:=cv)
 all_goals try exact cz
 ·exact(Fu t).1
 exact ZZ (k:=4) (n:=1) (row:=Yi ⟨0,t⟩) rfl rfl rfl ⟨.refl _,EH (Fu t).2,trivial⟩ (fV _) (by first|rfl|kernel_rfl) rfl hP
def IK:SpecT:=fun args H nx Post=>∃(k:Int) (r:BR),args=[.ptr 0 0 0,.int .i64 k]∧H=[(0,rdB r)]∧nx=1∧r.b.length≤1000000∧Post (.agg (Yi (WW k r).1)) [(0,rdB (WW k r).2)] 2
theorem Lt[Syms]:IK.ok Try.prog 106:=by
 rintro args H nx Post ⟨k,r,rfl,rfl,rfl,h1,h⟩
 exact XI.forget (QC Qp Qq Q5 On QJ (NU k r h1 h))
end
section
set_option maxRecDepth 100000
set_option maxHeartbeats 4000000
theorem ZV(r:BR):(Zj r).2.b.length≤r.b.length:=by
 have:=Xy 1 r
 unfold Zj
 split
 ·show(QT _ _).b.length≤_;rw[Fh];exact this
 ·exact this
theorem VI(r:BR):(Zj r).1≤1:=by
 unfold Zj
 split
 ·exact Nat.zero_le _
 ·omega
theorem N8{v:Nat}(h:v<256^4):wr .u32 (v:Int)=(v:Nat):=if_pos ⟨show(0:Int)≤_ by omega,show _≤(4294967295:Int) by omega⟩
theorem eP(p:Pg):∀x∈encP p,x.flat=true:=fP [p] _ (List.mem_singleton.2 rfl)
abbrev OU:CallT:=Qe 57 (Z6 VF) (Qe 102 (Z6 GT) Q9)
theorem LV[Syms]:OU.ok Try.prog:=Qc VQ (Qc Jx Qb)
theorem Lw[Syms]{Post:AVal→Heap→Nat→Prop}(r:BR)(hl:r.b.length≤1000000)(hP:Post (.agg (encP (Y4 r).1)) [(0,rdB (Y4 r).2)] 2):
 fnT Q9 OU (QN fns) (Qz tys) (QV plt) 100 103 [.ptr 0 0 0] [(0,rdB r)] 1 (UA Post):=by
 unfold Y4 at hP
 dsimp only at hP
 refine⟨[0],[.ptr 0 0 0],[(0,rdB r)],rfl,⟨.refl _,trivial⟩,⟨⟨by decide,_,rfl,.refl _⟩,trivial⟩,r,rfl,rfl,rfl,by omega,?_⟩
 have l_r1:(Ql r).2.b.length≤r.b.length:=QF _ _ _
 have n_v1:(Ql r).1≤1048576:=Zf (by decide) _
 generalize Ql r=q at *
 obtain⟨v1,r1⟩:=q
 replace l_r1:r1.b.length≤r.b.length:=l_r1
 replace n_v1:v1≤1048576:=n_v1
 dsimp only at hP
 refine⟨[0],[.ptr 0 0 0],[(0,rdB r1)],rfl,⟨.refl _,trivial⟩,⟨⟨by decide,_,rfl,.refl _⟩,trivial⟩,r1,rfl,rfl,rfl,by omega,?_⟩
 have l_r2:(Ql r1).2.b.length≤r1.b.length:=QF _ _ _
 have n_v2:(Ql r1).1≤1048576:=Zf (by decide) _
 generalize Ql r1=q at *
 obtain⟨v2,r2⟩:=q
 replace l_r2:r2.b.length≤r1.b.length:=l_r2
 replace n_v2:v2≤1048576:=n_v2
 dsimp only at hP
 refine⟨[0],[.ptr 0 0 0],[(0,rdB r2)],rfl,⟨.refl _,trivial⟩,⟨⟨by decide,_,rfl,.refl _⟩,trivial⟩,r2,rfl,rfl,rfl,by omega,?_⟩
 have l_r3:(Ql r2).2.b.length≤r2.b.length:=QF _ _ _
 have n_v3:(Ql r2).1≤1048576:=Zf (by decide) _
 generalize Ql r2=q at *
 obtain⟨v3,r3⟩:=q
 replace l_r3:r3.b.length≤r2.b.length:=l_r3
 replace n_v3:v3≤1048576:=n_v3
 dsimp only at hP
 refine⟨[0],[.ptr 0 0 0],[(0,rdB r3)],rfl,⟨.refl _,trivial⟩,⟨⟨by decide,_,rfl,.refl _⟩,trivial⟩,r3,rfl,rfl,rfl,by omega,?_⟩
 have l_r4:(Ql r3).2.b.length≤r3.b.length:=QF _ _ _
 have n_v4:(Ql r3).1≤1048576:=Zf (by decide) _
 generalize Ql r3=q at *
 obtain⟨v4,r4⟩:=q
 replace l_r4:r4.b.length≤r3.b.length:=l_r4
 replace n_v4:v4≤1048576:=n_v4
 dsimp only at hP
 refine⟨[0],[.ptr 0 0 0],[(0,rdB r4)],rfl,⟨.refl _,trivial⟩,⟨⟨by decide,_,rfl,.refl _⟩,trivial⟩,r4,rfl,rfl,rfl,by omega,?_⟩
 have l_r5:(Ql r4).2.b.length≤r4.b.length:=QF _ _ _
 have n_v5:(Ql r4).1≤1048576:=Zf (by decide) _
 generalize Ql r4=q at *
 obtain⟨v5,r5⟩:=q
 replace l_r5:r5.b.length≤r4.b.length:=l_r5
 replace n_v5:v5≤1048576:=n_v5
 dsimp only at hP
 refine⟨[0],[.ptr 0 0 0],[(0,rdB r5)],rfl,⟨.refl _,trivial⟩,⟨⟨by decide,_,rfl,.refl _⟩,trivial⟩,r5,rfl,rfl,rfl,by omega,?_⟩
 have l_r6:(Ql r5).2.b.length≤r5.b.length:=QF _ _ _
 have n_v6:(Ql r5).1≤1048576:=Zf (by decide) _
 generalize Ql r5=q at *
 obtain⟨v6,r6⟩:=q
 replace l_r6:r6.b.length≤r5.b.length:=l_r6
 replace n_v6:v6≤1048576:=n_v6
 dsimp only at hP
 repeat' first|refine And.intro ?_ ?_|(intro h;try first|exact dz|replace h:=cv)
 all_goals try exact cz
 refine⟨[0],[.ptr 0 0 0,.int .i64 ((4:Nat):Int)],[(0,rdB r6)],rfl,⟨.refl _,.refl _,trivial⟩,⟨⟨by decide,_,rfl,.refl _⟩,trivial⟩,r6,4,rfl,rfl,rfl,⟨by decide,by omega⟩,?_⟩
 have l_r7:(Zc 4 r6).2.b.length≤r6.b.length:=Xy _ _
 have n_v7:(Zc 4 r6).1<256^4:=Jw _ _
 generalize Zc 4 r6=q at *
 obtain⟨v7,r7⟩:=q
 replace l_r7:r7.b.length≤r6.b.length:=l_r7
 replace n_v7:v7<256^4:=n_v7
 dsimp only at hP
 repeat' first|refine And.intro ?_ ?_|(intro h;try first|exact dz|replace h:=cv)
 all_goals try exact cz
 exact ZZ (k:=2) (n:=1) (row:=encP ⟨v1,v2,v3,v4,v5,v6,v7⟩) rfl rfl rfl ⟨.refl _,.refl _,.refl _,.refl _,.refl _,.refl _,Qg (N8 n_v7),trivial⟩ (eP _) (by first|rfl|kernel_rfl) rfl hP
def JD:SpecT:=fun args H nx Post=>∃(r:BR),args=[.ptr 0 0 0]∧H=[(0,rdB r)]∧nx=1∧r.b.length≤1000000∧Post (.agg (encP (Y4 r).1)) [(0,rdB (Y4 r).2)] 2
theorem I5[Syms]:JD.ok Try.prog 103:=by
 rintro args H nx Post ⟨r,rfl,rfl,rfl,h1,h⟩
 exact XI.forget (QC Qp Qq Q5 LV QJ (Lw r h1 h))
end
end Go.Proofs.Ytajieadpaeggcaa
