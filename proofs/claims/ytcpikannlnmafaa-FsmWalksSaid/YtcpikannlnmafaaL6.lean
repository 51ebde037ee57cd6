/-
  'Common':how far two leaves are repeated together. Rows that are compared:'leaves','ints' of the statements,'Same' of shapes:a row is the same as itself. 'Index' of a leaf,and the closure 'next'. 'Next':which leaf is read next,of each leaf and each level.
-/
import Derived.Test.YtcpikannlnmafaaL2
import Derived.Test.YtcpikannlnmafaaL4
import Derived.Test.YtcpikannlnmafaaL5
import Derived.Test.YtcpikannlnmafaaSxOne
set_option linter.unusedVariables false
set_option linter.unusedSimpArgs false
namespace Go.Proofs.Ytcpikannlnmafaa
open Go Go.Av
section
set_option maxRecDepth 100000
set_option maxHeartbeats 4000000
def S_way:SpecI:=fun args K=>∃(ps:List Int) (field:Int),args=[vI ps,.int .i64 field]∧(ps.length<1000∧X5 ps ps.length∧0≤field∧field<ps.length)∧K (vI (Vr ps field))
theorem IX[Syms]:X0 Try.prog 38 S_way:=by
 rintro args K ⟨ps,field,rfl,⟨h1,h2,h3,h4⟩,hk⟩
 obtain⟨field,rfl⟩:=Int.eq_ofNat_of_zero_le h3
 exact⟨rfl,_,rfl,hk,fnI QN QO Qn (YF (YP QN QO Qn Qy Za) Qy) Za (PQ ps ps.length field rfl h1 h2 (by omega))⟩
abbrev PA:CallT:=Qv 38 (Yh S_way) Qz
abbrev R4[Syms]:CallT:=Qv 39 (Dn Qz Qz (Zc fns) (Z5 tys) (ZS plt) 100) (Qv 15 (Yh S_par) (Qv 16 (Yh S_leaves) PA))
theorem Ni[Syms]:PA.det Try.prog:=XN IX Qn
theorem Ow[Syms]:R4.ok Try.prog:=YF (YP QN QO Qn Qy Za) (Qp Lo (Qp FR (Qp IX Qy)))
theorem I9(fs:List Fd){a b:List Int}{k:Nat}(h1:k<a.length)(h2:k<b.length):Yd fs (a.drop k) (b.drop k)=if a.getD k 0=b.getD k 0 then Wo fs (a.getD k 0)+Yd fs (a.drop (k+1)) (b.drop (k+1))else 0:=by
 rw[UB h1,UB h2,Yd];rfl
theorem Na[Syms](fs:List Fd)(i j:Int)(hF:FsOk fs):
 fnT PA R4 (Zc fns) (Z5 tys) (ZS plt) 100 24 [vF fs,.int .i64 i,.int .i64 j] [] 0 (fun v H _=>v= .int .i64 (QY fs i j)∧H=[]):=by
 have hl:=hF.len
 refine⟨_,rfl,hF,?_⟩
 have hpl:=Qj fs
 have ha:=QF fs
 have hc:=QY.eq_1 fs i j
 have hra:=fun h0 h1=>KJ (fs:=fs) (i:=i) h0 h1
 have hrb:=fun h0 h1=>KJ (fs:=fs) (i:=j) h0 h1
 by_cases hin:i<0∨(Q5 fs).length≤i∨j<0∨(Q5 fs).length≤j
 ·rw[if_pos hin]at hc
  rw[hc]
  repeat' first|refine And.intro ?_ ?_|(intro h;try first|exact dz|replace h:=cv)
  all_goals try exact cz
  all_goals exact⟨_,QP [6] rfl,_,rfl,rfl,rfl⟩
 ·rw[if_neg hin]at hc
  rw[hc]
  repeat' first|refine And.intro ?_ ?_|(intro h;try first|exact dz|replace h:=cv)
  all_goals try exact cz
  have h1:=hra (by omega) (by omega)
  have h2:=hrb (by omega) (by omega)
  refine⟨_,rfl,hF,?_⟩
  repeat' first|refine And.intro ?_ ?_|(intro h;try first|exact dz|replace h:=cv)
  all_goals try exact cz
  refine⟨Q0 fs,Yg fs i,rfl,⟨by omega,by rw[hpl];exact ha,h1.1,by rw[hpl];exact h1.2⟩,?_⟩
  repeat' first|refine And.intro ?_ ?_|(intro h;try first|exact dz|replace h:=cv)
  all_goals try exact cz
  refine⟨Q0 fs,Yg fs j,rfl,⟨by omega,by rw[hpl];exact ha,h2.1,by rw[hpl];exact h2.2⟩,?_⟩
  have ga:=IY (ps:=Q0 fs) (n:=fs.length) ha (k:=Yg fs i) h1.2
  have gb:=Bv (Q0 fs) (Yg fs i)
  have gc:=Bv (Q0 fs) (Yg fs j)
  generalize Vr (Q0 fs) (Yg fs i)=a at *
  generalize Vr (Q0 fs) (Yg fs j)=b at *
  have hel:∀k,k<a.length→0≤a.getD k 0∧a.getD k 0<fs.length:=fun k hk=>ga _ (by rw[List.getD_eq_getElem?_getD,List.getElem?_eq_getElem hk];exact List.getElem_mem hk)
  clear hc hra hrb ga
  repeat' first|refine And.intro ?_ ?_|(intro h;try first|exact dz|replace h:=cv)
  all_goals try exact cz
  refine⟨fun m s=>∃(k:Nat) (n:Int),(k≤a.length∧k≤b.length∧m=a.length-k∧n+Yd fs (a.drop k) (b.drop k)=Yd fs a b∧0≤n∧n≤k)∧s=⟨[(0,vF fs),(9,vI a),(10,vI b),(11,.int .i64 n),(53,.int .i64 (if(b.length:Int)<(a.length:Int)then(b.length:Int)else(a.length:Int))),(54,.int .i64 k)],[],0⟩,⟨_,⟨[(0,vF fs),(9,vI a),(10,vI b),(11,.int .i64 0),(53,.int .i64 (if(b.length:Int)<(a.length:Int)then(b.length:Int)else(a.length:Int))),(54,.int .i64 (0:Nat))],[],0⟩,QP [0,9,10,11,53,54] rfl,0,0,⟨by omega,by omega,rfl,by simp,by omega,by omega⟩,rfl⟩,?_⟩
  rintro m s ⟨k,n,⟨hk1,hk2,rfl,hs,hn0,hn1⟩,rfl⟩
  have hE:(if(b.length:Int)<(a.length:Int)then(b.length:Int)else(a.length:Int))≤a.length∧(if(b.length:Int)<(a.length:Int)then(b.length:Int)else(a.length:Int))≤b.length∧((if(b.length:Int)<(a.length:Int)then(b.length:Int)else(a.length:Int))=a.length∨(if(b.length:Int)<(a.length:Int)then(b.length:Int)else(a.length:Int))=b.length):=by split<;>omega
  generalize(if(b.length:Int)<(a.length:Int)then(b.length:Int)else(a.length:Int))=M at hE ⊢
  by_cases hka:k<a.length∧k<b.length
  ·have hp:=I9 fs hka.1 hka.2
   rw[hp]at hs
   have hak:=hel k hka.1
   by_cases heq:a.getD k 0=b.getD k 0
   ·rw[if_pos heq]at hs
    have hrr:=UW fs (a.getD k 0)
    repeat' first|refine And.intro ?_ ?_|(intro h;try first|exact dz|replace h:=cv)
    all_goals try exact cz
    ·refine⟨_,.refl _ _ _,_,rfl,?_⟩
     have hr:(fs.getD (a.getD k 0).toNat default).rep=2:=by assumption
     have hrb:Wo fs (a.getD k 0)=1:=by rw[Wo,if_pos hr]
     repeat' first|refine And.intro ?_ ?_|(intro h;try first|exact dz|replace h:=cv)
     all_goals try exact cz
     exact⟨_,⟨[(0,vF fs),(9,vI a),(10,vI b),(11,.int .i64 (n+1)),(53,.int .i64 M),(54,.int .i64 (k+1:Nat))],[],0⟩,QP [0,9,10,11,53,54] rfl,⟨k+1,n+1,⟨by omega,by omega,rfl,by omega,by omega,by omega⟩,rfl⟩,by omega⟩
    ·refine⟨_,.refl _ _ _,_,rfl,?_⟩
     have hr:¬(fs.getD (a.getD k 0).toNat default).rep=2:=by assumption
     have hrb:Wo fs (a.getD k 0)=0:=by rw[Wo,if_neg hr]
     repeat' first|refine And.intro ?_ ?_|(intro h;try first|exact dz|replace h:=cv)
     all_goals try exact cz
     exact⟨_,⟨[(0,vF fs),(9,vI a),(10,vI b),(11,.int .i64 n),(53,.int .i64 M),(54,.int .i64 (k+1:Nat))],[],0⟩,QP [0,9,10,11,53,54] rfl,⟨k+1,n,⟨by omega,by omega,rfl,by omega,by omega,by omega⟩,rfl⟩,by omega⟩
   ·rw[if_neg heq]at hs
    repeat' first|refine And.intro ?_ ?_|(intro h;try first|exact dz|replace h:=cv)
    all_goals try exact cz
    exact⟨_,QP [6] rfl,_,rfl,congrArg (AVal.int .i64) (by omega),rfl⟩
  ·have hp:Yd fs (a.drop k) (b.drop k)=0:=by
    by_cases h:k<a.length
    ·rw[List.drop_of_length_le (l:=b) (by omega),Xo]
    ·rw[List.drop_of_length_le (l:=a) (by omega),Yr]
   repeat' first|refine And.intro ?_ ?_|(intro h;try first|exact dz|replace h:=cv)
   all_goals try exact cz
   exact⟨_,QP [6] rfl,_,rfl,congrArg (AVal.int .i64) (by omega),rfl⟩
def S_common:SpecI:=fun args K=>∃fs i j,args=[vF fs,.int .i64 i,.int .i64 j]∧FsOk fs∧K (.int .i64 (QY fs i j))
theorem Dd[Syms]:X0 Try.prog 24 S_common:=by
 rintro args K ⟨fs,i,j,rfl,h,hk⟩
 exact⟨rfl,_,rfl,hk,fnI QN QO Ni Ow Za (Na fs i j h)⟩
end
section
set_option maxRecDepth 100000
set_option maxHeartbeats 4000000
end
section
set_option maxRecDepth 100000
set_option maxHeartbeats 4000000
theorem Of[Syms](l:List Lf)(k:Nat)(hl:l.length<1000)(hk:k<l.length)(hd:∀m,m<k→(l.getD m default).field≠(l.getD k default).field):
 fnT Qz Qz (Zc fns) (Z5 tys) (ZS plt) 100 44 [vL l,.agg (QW (l.getD k default))] [] 0 (fun v H _=>v= .int .i64 k∧H=[]):=by
 repeat' first|refine And.intro ?_ ?_|(intro h;try first|exact dz|replace h:=cv)
 all_goals try exact cz
 refine⟨fun m s=>∃q:Nat,(q≤k∧m=k-q)∧s=⟨[(0,vL l),(3,.ptr 0 0 0),(7,.int .i64 l.length),(8,.int .i64 q)],[(0,some (.cells [QW (l.getD k default)] false))],1⟩,⟨_,⟨[(0,vL l),(3,.ptr 0 0 0),(7,.int .i64 l.length),(8,.int .i64 (0:Nat))],[(0,some (.cells [QW (l.getD k default)] false))],1⟩,Q1 [0] rfl ?_ ?_,0,⟨by omega,rfl⟩,rfl⟩,?_⟩
 ·exact⟨.refl _,.refl _,.refl _,.refl _,trivial⟩
 ·exact⟨⟨by decide,_,rfl,Q2 rfl (fL [_])⟩,trivial⟩
 rintro m s ⟨q,⟨hq,rfl⟩,rfl⟩
 by_cases hqk:q<k
 ·have hne:=hd q hqk
  repeat' first|refine And.intro ?_ ?_|(intro h;try first|exact dz|replace h:=cv)
  all_goals try exact cz
  ·exact absurd (of_decide_eq_true (Bool.and_eq_true_iff.1 h).1:(l.getD k default).field=(l.getD q default).field) (fun e=>hne e.symm)
  ·refine⟨_,⟨[(0,vL l),(3,.ptr 0 0 0),(7,.int .i64 l.length),(8,.int .i64 (q+1:Nat))],[(0,some (.cells [QW (l.getD k default)] false))],1⟩,Q1 [0] rfl ?_ ?_,⟨q+1,⟨by omega,rfl⟩,rfl⟩,by omega⟩
   ·exact⟨.refl _,.refl _,.refl _,.refl _,trivial⟩
   ·exact⟨⟨by decide,_,rfl,Q2 rfl (fL [_])⟩,trivial⟩
 ·obtain rfl:q=k:=by omega
  repeat' first|refine And.intro ?_ ?_|(intro h;try first|exact dz|replace h:=cv)
  all_goals try exact cz
  ·exact⟨_,QP [4] rfl,_,rfl,rfl,rfl⟩
  all_goals(exfalso;first|(simp at h;done)|(have h':(decide ((l.getD q default).field=(l.getD q default).field)&&(decide ((l.getD q default).r=(l.getD q default).r)&&(decide ((l.getD q default).d=(l.getD q default).d)&&(decide ((l.getD q default).kind=(l.getD q default).kind)&&true))))=false:=h;simp at h';done))
def S_index:SpecI:=fun args K=>∃(l:List Lf) (k:Nat),args=[vL l,.agg (QW (l.getD k default))]∧(l.length<1000∧k<l.length∧ ∀m,m<k→(l.getD m default).field≠(l.getD k default).field)∧K (.int .i64 k)
theorem Cg[Syms]:X0 Try.prog 44 S_index:=by
 rintro args K ⟨l,k,rfl,⟨h1,h2,h3⟩,hk⟩
 exact⟨rfl,_,rfl,hk,fnI QN QO Qn Qy Za (Of l k h1 h2 h3)⟩
abbrev cN1:CallT:=Qv 44 (Yh (OV S_index)) (Qv 24 (Yh (OV S_common)) Qz)
theorem Ba[Syms]:cN1.det Try.prog:=XN Cg.see (XN Dd.see Qn)
theorem EO[Syms]:cN1.ok Try.prog:=Qp Cg.see (Qp Dd.see Qy)
abbrev rF(fs:List Fd):AVal:=.vs 4 (fs.map encF)
abbrev rL(l:List Lf):AVal:=.vs 4 (l.map QW)
theorem OW(fs:List Fd):SeeV (rF fs) (vF fs):=.tab _ _ _ _ (XY encF default fs).symm
theorem Hk(l:List Lf):SeeV (rL l) (vL l):=.tab _ _ _ _ (XY QW default l).symm
def n1S(fs:List Fd)(i:Nat)(r:Int):St:=⟨[(2,.vp [rF fs] 0),(3,.vp [rL (Q5 fs)] 0),(4,.vp [.int .i64 i] 0),(5,.vp [.int .i64 r] 0),(13,.bool (decide (r≤QY fs i (i+1))))],[],0⟩
theorem P6[Syms]{N:Nat}{e:Env}{H:Heap}{nx:Nat}{fs:List Fd}{i:Nat}{r:Int}(h2:e.get 2= .vp [rF fs] 0)(h3:e.get 3= .vp [rL (Q5 fs)] 0)(h4:e.get 4= .ptr 0 0 0)(h5:e.get 5= .ptr 1 0 0)(h13:e.get 13= .bool (decide (r≤QY fs i (i+1))))
 (hb0:H.get 0=some (.cells [[.int .i64 i]] false)) (hb1:H.get 1=some (.cells [[.int .i64 r]] false)):Reb 0 N ⟨e,H,nx⟩ (n1S fs i r):=by
 have f1:∀x:Int,∀q∈[[AVal.int .i64 x]],∀y∈q,y.flat=true:=fun x q hq y hy=>by simp at hq;subst hq;simp at hy;subst hy;rfl
 refine(Zo (n:=0) (rows:=[[.int .i64 i]]) (e3:=[(2,.vp [rF fs] 0),(3,.vp [rL (Q5 fs)] 0),(4,.vp [.int .i64 i] 0),(5,.ptr 1 0 0),(13,.bool (decide (r≤QY fs i (i+1))))]) (H3:=[(1,some (.cells [[.int .i64 r]] false))]) hb0 (f1 _) ⟨.eq h2,.eq h3,by rw[h4];exact .pt 0 0 _ [.int .i64 i] rfl ⟨.same _,trivial⟩,.eq h5,.eq h13,trivial⟩ ⟨⟨by decide,_,hb1,.same _⟩,trivial⟩).trans ?_
 refine(Zo (n:=1) (rows:=[[.int .i64 r]]) (e3:=[(2,.vp [rF fs] 0),(3,.vp [rL (Q5 fs)] 0),(4,.vp [.int .i64 i] 0),(5,.vp [.int .i64 r] 0),(13,.bool (decide (r≤QY fs i (i+1))))]) (H3:=[]) rfl (f1 _) ⟨.same _,.same _,.same _,.pt 0 0 _ [.int .i64 r] rfl (show G2 [.int .i64 r] [.int .i64 r] from⟨.same _,trivial⟩),.same _,trivial⟩ trivial).trans ?_
 exact QP [2,3,4,5,13] rfl
def S_ixf:SpecI:=fun args K=>∃(fs:List Fd) (i:Nat) (r:Int),args=[rL (Q5 fs),.func 43 [.vp [rF fs] 0,.vp [.int .i64 i] 0,.vp [rL (Q5 fs)] 0,.vp [.int .i64 r] 0]]∧(FsOk fs∧i<Qf fs)∧K (.int .i64 (Y3 fs i r (Qf fs)))
abbrev cN3:CallT:=Qv 42 (Yh S_ixf) cN1
theorem O3[Syms](fs:List Fd)(i:Nat)(r:Int)(hF:FsOk fs)(hi:i<Qf fs):
 fnT cN1 cN3 (Zc fns) (Z5 tys) (ZS plt) 100 41 [.int .i64 i,.int .i64 r,.vp [rF fs] 0,.vp [rL (Q5 fs)] 0] [] 0 (fun v H _=>v= .int .i64 (nx1 fs i r)∧H=[]):=by
 have hl:=hF.len
 have hle:Qf fs≤fs.length:=Zw _ _ _
 have hnx:=nx1.eq_1 fs i r
 refine⟨NoSel.mk (by kernel_rfl),n1S fs i r,?_,?_⟩
 · repeat' first|refine And.intro ?_ ?_|(intro h;try first|exact dz|replace h:=cv)
   all_goals(try((with_reducible refine Apart.mk ?_);kernel_rfl))
   all_goals(try first|((with_reducible show _=_);exact rfl)|((with_reducible show(-9223372036854775808:Int)≤_);(show _≤(i:Int)+1);omega)|((with_reducible show _≤(9223372036854775807:Int));(show(i:Int)+1≤_);omega))
   all_goals refine⟨[vF fs,.int .i64 i,.int .i64 (i+1)],⟨OW fs,.same _,.same _,trivial⟩,fs,i,i+1,rfl,hF,?_⟩
   repeat' first|refine And.intro ?_ ?_|(intro h;try first|exact dz|replace h:=cv)
   all_goals(try((with_reducible refine Apart.mk ?_);kernel_rfl))
   all_goals(try((with_reducible show _=_);exact rfl))
   all_goals exact Exists.intro () (P6 rfl rfl rfl rfl rfl rfl rfl)
 ·by_cases hr:r≤QY fs i (i+1)
  ·rw[if_pos hr]at hnx
   rw[hnx]
   repeat' first|refine And.intro ?_ ?_|(intro h;try first|exact dz|replace h:=cv)
   all_goals(try first|((with_reducible show(-9223372036854775808:Int)≤_);(show _≤(i:Int)+1);omega)|((with_reducible show _≤(9223372036854775807:Int));(show(i:Int)+1≤_);omega))
   all_goals try exact cz
   exact⟨_,QP [6] rfl,_,rfl,rfl,rfl⟩
  ·rw[if_neg hr]at hnx
   rw[hnx]
   repeat' first|refine And.intro ?_ ?_|(intro h;try first|exact dz|replace h:=cv)
   all_goals try exact cz
   refine⟨fs,i,r,rfl,⟨hF,hi⟩,?_⟩
   repeat' first|refine And.intro ?_ ?_|(intro h;try first|exact dz|replace h:=cv)
   all_goals try exact cz
   exact⟨_,QP [6] rfl,_,rfl,rfl,rfl⟩
def ixE(fs:List Fd)(i:Nat)(r:Int)(k:Nat):Env:=[(0,vL (Q5 fs)),(1,.func 43 [.vp [rF fs] 0,.vp [.int .i64 i] 0,.vp [rL (Q5 fs)] 0,.vp [.int .i64 r] 0]),(7,.int .i64 (Q5 fs).length),(8,.int .i64 k)]
def Pg(fs:List Fd)(i:Nat)(r:Int):Env:=[(0,rL (Q5 fs)),(1,.func 43 [.vp [rF fs] 0,.vp [.int .i64 i] 0,.vp [rL (Q5 fs)] 0,.vp [.int .i64 r] 0]),(7,.int .i64 ((Q5 fs).map QW).length),(8,.int .i64 0)]
theorem Pf[Syms]{N:Nat}{fs:List Fd}{i:Nat}{r:Int}:Reb 0 N ⟨Pg fs i r,[],0⟩ ⟨ixE fs i r 0,[],0⟩:=by
 refine(Xv (e:=Pg fs i r) (k:=0) (y:=vL (Q5 fs)) fun ι v hv=>(Hk _).rel (show RelV ι (rL (Q5 fs)) v from hv)).trans (Ku (fun j=>?_) (Heap.sub_refl _))
 unfold ixE Pg
 rw[List.length_map]
 simp only[Env.get_cons,Env.get_nil]
 cases Nat.beq j 0<;>simp
theorem Ez{fs:List Fd}{i r:Int}{k:Nat}(h:k<Qf fs):Y3 fs i r (Qf fs-k)=if r≤QY fs i k then(k:Int)else Y3 fs i r (Qf fs-(k+1)):=by
 obtain⟨n,hn⟩:∃n,Qf fs-k=n+1:=⟨Qf fs-k-1,by omega⟩
 rw[hn,Y3,show Qf fs-(n+1)=k by omega,show Qf fs-(k+1)=n by omega]
theorem R2[Syms](fs:List Fd)(i:Nat)(r:Int)(hF:FsOk fs)(hi:i<Qf fs):
 fnT cN1 (Qv 43 (Dn cN1 cN1 (Zc fns) (Z5 tys) (ZS plt) 100) cN1) (Zc fns) (Z5 tys) (ZS plt) 100 42 [rL (Q5 fs),.func 43 [.vp [rF fs] 0,.vp [.int .i64 i] 0,.vp [rL (Q5 fs)] 0,.vp [.int .i64 r] 0]] [] 0 (fun v H _=>v= .int .i64 (Y3 fs i r (Qf fs))∧H=[]):=by
 have hl:=hF.len
 have hle:Qf fs≤fs.length:=Zw _ _ _
 have hll:(Q5 fs).length=Qf fs:=rfl
 repeat' first|refine And.intro ?_ ?_|(intro h;try first|exact dz|replace h:=cv)
 all_goals try exact cz
 refine⟨fun m s=>∃k:Nat,(k≤Qf fs∧m=Qf fs-k∧Y3 fs i r (Qf fs-k)=Y3 fs i r (Qf fs))∧s=⟨ixE fs i r k,[],0⟩,⟨_,⟨ixE fs i r 0,[],0⟩,(show Reb 0 _ _ _ from(QP (na:=0) [0,1,7,8] rfl).trans Pf),0,⟨by omega,rfl,rfl⟩,rfl⟩,?_⟩
 rintro m s ⟨k,⟨hk,rfl,hf⟩,rfl⟩
 by_cases hin:k<Qf fs
 ·rw[Ez hin]at hf
  by_cases hr:r≤QY fs i k
  ·rw[if_pos hr]at hf
   repeat' first|refine And.intro ?_ ?_|(intro h;try first|exact dz|replace h:=cv)
   all_goals try exact cz
   refine⟨[vL (Q5 fs),.agg (QW ((Q5 fs).getD k default))],⟨Hk _,.same _,trivial⟩,Q5 fs,k,rfl,⟨by omega,by omega,fun q hq=>by have:=W3 (fs:=fs) (ps:=Q0 fs) fs.length q k hq hin;exact Int.ne_of_lt this⟩,?_⟩
   repeat' first|refine And.intro ?_ ?_|(intro h;try first|exact dz|replace h:=cv)
   all_goals try exact cz
   refine⟨[vF fs,.int .i64 i,.int .i64 k],⟨OW fs,.same _,.same _,trivial⟩,fs,i,k,rfl,hF,?_⟩
   repeat' first|refine And.intro ?_ ?_|(intro h;try first|exact dz|replace h:=cv)
   all_goals try exact cz
   refine⟨_,.refl _ _ _,_,rfl,?_⟩
   repeat' first|refine And.intro ?_ ?_|(intro h;try first|exact dz|replace h:=cv)
   all_goals try exact cz
   all_goals first|exact⟨_,QP [4] rfl,_,rfl,congrArg (AVal.int .i64) hf,rfl⟩|exact absurd hr (Int.not_le.2 (by assumption))
  ·rw[if_neg hr]at hf
   repeat' first|refine And.intro ?_ ?_|(intro h;try first|exact dz|replace h:=cv)
   all_goals try exact cz
   refine⟨[vL (Q5 fs),.agg (QW ((Q5 fs).getD k default))],⟨Hk _,.same _,trivial⟩,Q5 fs,k,rfl,⟨by omega,by omega,fun q hq=>by have:=W3 (fs:=fs) (ps:=Q0 fs) fs.length q k hq hin;exact Int.ne_of_lt this⟩,?_⟩
   repeat' first|refine And.intro ?_ ?_|(intro h;try first|exact dz|replace h:=cv)
   all_goals try exact cz
   refine⟨[vF fs,.int .i64 i,.int .i64 k],⟨OW fs,.same _,.same _,trivial⟩,fs,i,k,rfl,hF,?_⟩
   repeat' first|refine And.intro ?_ ?_|(intro h;try first|exact dz|replace h:=cv)
   all_goals try exact cz
   refine⟨_,.refl _ _ _,_,rfl,?_⟩
   repeat' first|refine And.intro ?_ ?_|(intro h;try first|exact dz|replace h:=cv)
   all_goals try exact cz
   all_goals first|exact absurd (show r≤QY fs i k by assumption) hr|exact⟨_,⟨ixE fs i r (k+1),[],0⟩,QP [0,1,7,8] rfl,⟨k+1,⟨by omega,rfl,hf⟩,rfl⟩,by omega⟩
 ·rw[show Qf fs-k=0 by omega]at hf
  rw[←hf]
  repeat' first|refine And.intro ?_ ?_|(intro h;try first|exact dz|replace h:=cv)
  all_goals try exact cz
  exact⟨_,QP [4] rfl,_,rfl,rfl,rfl⟩
theorem Pe[Syms]:X0 Try.prog 42 S_ixf:=by
 rintro args K ⟨fs,i,r,rfl,⟨h1,h2⟩,hk⟩
 exact⟨rfl,_,rfl,hk,fnI QN QO Ba (YF (YP QN QO Ba EO Za) EO) Za (R2 fs i r h1 h2)⟩
def S_next1:SpecI:=fun args K=>∃(fs:List Fd) (i:Nat) (r:Int),args=[.int .i64 i,.int .i64 r,.vp [rF fs] 0,.vp [rL (Q5 fs)] 0]∧(FsOk fs∧i<Qf fs)∧K (.int .i64 (nx1 fs i r))
theorem C1[Syms]:X0 Try.prog 41 S_next1:=by
 rintro args K ⟨fs,i,r,rfl,⟨h1,h2⟩,hk⟩
 exact⟨rfl,_,rfl,hk,fnI QN QO Ba (Qp Pe EO) Za (O3 fs i r h1 h2)⟩
end
section
set_option maxRecDepth 100000
set_option maxHeartbeats 4000000
abbrev cX1:CallT:=Qv 41 (Yh S_next1) Qz
theorem Q06[Syms]:cX1.det Try.prog:=XN C1 Qn
abbrev cX2[Syms]:CallT:=Qv 16 (Yh (seeR S_leaves)) (Qv 34 (Dn Qz Qz (Zc fns) (Z5 tys) (ZS plt) 100) cX1)
theorem Px[Syms]:cX2.ok Try.prog:=Qp FR.seeR (YF (YP QN QO Qn Qy Za) (Qp C1 Qy))
abbrev fnN(fs:List Fd):AVal:=.func 41 [.vp [rF fs] 0,.vp [rL (Q5 fs)] 0]
def YH(fs:List Fd)(i:Nat)(cur:AVal):List (List AVal):=(Vf fs i).map encN++[cur]::List.replicate (Qf fs-i-1) [.nils]
def BW(fs:List Fd)(i:Nat):List (List AVal):=(Vf fs i).map encN++List.replicate (Qf fs-i) [.nils]
def nxE(fs:List Fd)(i:Nat):Env:=[(4,fnN fs),(5,.slice 0 0 (Qf fs) 1 none),(15,vL (Q5 fs)),(16,.int .i64 (Qf fs)),(17,.int .i64 i)]
def nxS(fs:List Fd)(i:Nat):St:=⟨nxE fs i,[(0,some (.cells (BW fs i) false))],1⟩
def nE1(fs:List Fd)(cap:Option Nat):Env:=[(4,.func 41 [.vp [rF fs] 0,.ptr 1 0 0]),(5,.slice 3 0 (Qf fs) 1 cap),(15,rL (Q5 fs)),(16,.int .i64 (Qf fs)),(17,.int .i64 0)]
def nH1(fs:List Fd):Heap:=[(1,some (.cells [[rL (Q5 fs)]] false)),(3,some (.cells (List.replicate (Qf fs) [.nils]) false))]
def nE2(fs:List Fd)(cap:Option Nat):Env:=[(4,fnN fs),(5,.slice 3 0 (Qf fs) 1 cap),(15,rL (Q5 fs)),(16,.int .i64 (Qf fs)),(17,.int .i64 0)]
def nH2(fs:List Fd):Heap:=[(3,some (.cells (List.replicate (Qf fs) [.nils]) false))]
def nE3(fs:List Fd):Env:=[(4,fnN fs),(5,.slice 0 0 (Qf fs) 1 none),(15,rL (Q5 fs)),(16,.int .i64 (Qf fs)),(17,.int .i64 0)]
def nH3(fs:List Fd):Heap:=[(0,some (.cells (List.replicate (Qf fs) [.nils]) false))]
theorem Cm{x:AVal}(hx:x.flat=true):∀q∈[[x]],∀y∈q,y.flat=true:=fun q hq y hy=>by simp at hq;subst hq;simp at hy;subst hy;exact hx
theorem D3(n:Nat):Qe (List.replicate n [AVal.nils]):=fun r hr x hx=>by rw[List.eq_of_mem_replicate hr]at hx;simp at hx;subst hx;rfl
theorem P3[Syms]{N:Nat}{e:Env}{H:Heap}{nx:Nat}{fs:List Fd}{cap:Option Nat}(hn:3<nx)(h4:e.get 4= .func 41 [.ptr 0 0 0,.ptr 1 0 0])(h5:e.get 5= .slice 3 0 ((Q5 fs).map QW).length 1 cap)(h15:e.get 15=rL (Q5 fs))(h16:e.get 16= .int .i64 ((Q5 fs).map QW).length)(h17:e.get 17= .int .i64 0)
 (hb0:H.get 0=some (.cells [[vF fs]] false)) (hb1:H.get 1=some (.cells [[rL (Q5 fs)]] false)) (hb3:H.get 3=some (.cells (List.replicate ((Q5 fs).map QW).length [.nils]) false)):Reb 0 N ⟨e,H,nx⟩ (nxS fs 0):=by
 have hlm:((Q5 fs).map QW).length=Qf fs:=by rw[List.length_map];rfl
 rw[hlm]at h5 h16 hb3
 have r1:Reb 0 N ⟨e,H,nx⟩ ⟨nE1 fs cap,nH1 fs,nx⟩:=Zo (n:=0) (rows:=[[vF fs]]) hb0 (Cm rfl)
  ⟨by rw[h4];exact FzV.func (show FzL 0 [[vF fs]] [.ptr 0 0 0,.ptr 1 0 0] [.vp [rF fs] 0,.ptr 1 0 0] from⟨.pt 0 0 _ [rF fs] rfl (show G2 [vF fs] [rF fs] from⟨.un _ _ _ _ (XY encF default fs).symm,trivial⟩),.same _,trivial⟩),.eq h5,.eq h15,.eq h16,.eq h17,trivial⟩ ⟨⟨by decide,_,hb1,.same _⟩,⟨by decide,_,hb3,.same _⟩,trivial⟩
 have r2:Reb 0 N ⟨nE1 fs cap,nH1 fs,nx⟩ ⟨nE2 fs cap,nH2 fs,nx⟩:=Zo (n:=1) (rows:=[[rL (Q5 fs)]]) rfl (Cm rfl)
  ⟨FzV.func (show FzL 1 [[rL (Q5 fs)]] [.vp [rF fs] 0,.ptr 1 0 0] [.vp [rF fs] 0,.vp [rL (Q5 fs)] 0] from⟨.same _,.pt 0 0 _ [rL (Q5 fs)] rfl (show G2 [rL (Q5 fs)] [rL (Q5 fs)] from⟨.same _,trivial⟩),trivial⟩),.same _,.same _,.same _,.same _,trivial⟩ ⟨⟨by decide,_,rfl,.same _⟩,trivial⟩
 have r3:Reb 0 N ⟨nE2 fs cap,nH2 fs,nx⟩ ⟨nE3 fs,nH3 fs,1⟩:=Q1 (s:=⟨nE2 fs cap,nH2 fs,nx⟩) [3] (by simp[WG,hn]) ⟨.refl _,.cap _ _ _ _ _,.refl _,.refl _,.refl _,trivial⟩ ⟨⟨Nat.zero_lt_one,_,rfl,Qc (D3 _)⟩,trivial⟩
 have r4:Reb 0 N ⟨nE3 fs,nH3 fs,1⟩ (nxS fs 0):=by
  refine(Xv (e:=nE3 fs) (k:=15) (y:=vL (Q5 fs)) fun ι v hv=>(Hk _).rel (show RelV ι (rL (Q5 fs)) v from hv)).trans (Ku (fun j=>?_) (Heap.sub_refl _))
  show(nxE fs 0).get j= .any∨Env.get ((15,vL (Q5 fs))::nE3 fs) j=(nxE fs 0).get j
  unfold nxE nE3
  simp only[Env.get_cons,Env.get_nil]
  by_cases h:j=15
  ·subst h;exact .inr rfl
  ·simp[Qd h]
 exact r1.trans (r2.trans (r3.trans r4))
theorem Pc{fs:List Fd}{i:Nat}(h:i<Qf fs):0≤((Q5 fs).getD i default).r∧((Q5 fs).getD i default).r≤fs.length:=by
 have hm:(Q5 fs).getD i default∈Q5 fs:=by rw[List.getD_eq_getElem?_getD,List.getElem?_eq_getElem (show i<(Q5 fs).length from h)];exact List.getElem_mem _
 obtain⟨h1,h2,h3⟩:=YK _ _ hm
 generalize(Q5 fs).getD i default=L at *
 have hb:=YJ (fs:=fs) (QF fs) fs.length (Nat.le_refl _) L.field.toNat (by omega)
 rw[Wr fs (Q0 fs) (by omega),←h3]at hb
 omega
theorem Ls(ρ:Nat→Nat)(fs:List Fd)(i:Nat)(cur:AVal):(YH fs i cur).map (AVal.renL ρ)=YH fs i (cur.ren ρ):=by
 have h1:((Vf fs i).map encN).map (AVal.renL ρ)=(Vf fs i).map encN:=by
  rw[List.map_map]
  refine List.map_congr_left fun l _=>?_
  exact W9 ρ (fun x hx=>by simp[encN]at hx;subst hx;rfl)
 have h2:(List.replicate (Qf fs-i-1) [AVal.nils]).map (AVal.renL ρ)=List.replicate (Qf fs-i-1) [.nils]:=by rw[List.map_replicate];rfl
 unfold YH
 rw[List.map_append,h1,List.map_cons,h2]
 rfl
theorem Dv{ρ:Nat→Nat}{fs:List Fd}{i:Nat}{cur:AVal}{rows:List (List AVal)}{ro:Bool}(h:rows=YH fs i (cur.ren ρ)):WkB (.cells rows ro) ((Blk.cells (YH fs i cur) ro).ren ρ):=by
 have:(Blk.cells (YH fs i cur) ro).ren ρ= .cells (YH fs i (cur.ren ρ)) ro:=by
  show Blk.cells ((YH fs i cur).map (AVal.renL ρ)) ro=_
  rw[Ls]
 rw[this,h]
 exact .refl _
theorem P1{fs:List Fd}{i:Nat}(h:i<Qf fs):BW fs i=YH fs i .nils:=by
 unfold BW YH
 rw[show Qf fs-i=(Qf fs-i-1)+1 by omega,List.replicate_succ];rfl
theorem NW{fs:List Fd}{i:Nat}{cur:AVal}:(YH fs i cur).getD i []=[cur]:=by
 have hl:=Y1 fs i
 unfold YH
 rw[List.getD_eq_getElem?_getD,List.getElem?_append_right (by rw[List.length_map,hl];exact Nat.le_refl _),List.length_map,hl,Nat.sub_self];rfl
theorem Lr{fs:List Fd}{i:Nat}{cur x:AVal}:(YH fs i cur).set i [x]=YH fs i x:=by
 have hl:((Vf fs i).map encN).length=i:=by rw[List.length_map,Y1]
 unfold YH
 rw[List.set_append_right (h:=by rw[hl];exact Nat.le_refl _),hl,Nat.sub_self];rfl
def nrE(fs:List Fd)(i r:Nat):Env:=nxE fs i++[(6,.int .i64 i),(24,.int .i64 (((Q5 fs).getD i default).r+1)),(25,.int .i64 r)]
def nrA(fs:List Fd)(i:Nat):St:=⟨nrE fs i 0,[(0,some (.cells (YH fs i .nils) false))],1⟩
def nrB(fs:List Fd)(i r:Nat):St:=⟨nrE fs i r,[(0,some (.cells (YH fs i (.slice 1 0 r 1 none)) false)),(1,some (.cells ((UG fs i r).map encI) false))],2⟩
theorem Hr(n nx k:Nat):(AVal.slice 1 0 k 1 none).ren (rho [0,n] nx)= .slice n 0 k 1 none:=rfl
theorem Ho{fs:List Fd}{i n:Nat}:(((UG fs i n).map encI).drop 0).take n=(UG fs i n).map encI:=by
 rw[List.drop_zero,List.take_of_length_le (by rw[List.length_map,XM];exact Nat.le_refl _)]
theorem MI(n:Nat)(rows:List (List AVal)):∀l:List AVal,FzL n rows l l
 |[]=>trivial
 |_::l=>⟨.same _,MI n rows l⟩
theorem Oi{n:Nat}{rows A B:List (List AVal)}{x y:AVal}{ro:Bool}(h:FzV n rows x y):FzB n rows (.cells (A++[x]::B) ro) (.cells (A++[y]::B) ro):=by
 refine .cells _ _ _ (by simp) fun k r r' h1 h2=>?_
 by_cases hk:k<A.length
 ·rw[List.getElem?_append_left hk]at h1 h2
  rw[h1]at h2
  cases h2
  exact MI n rows r
 ·rw[List.getElem?_append_right (by omega)]at h1 h2
  cases hq:k-A.length with
  |zero=>
   rw[hq]at h1 h2
   cases h1;cases h2
   exact⟨h,trivial⟩
  |succ q=>
   rw[hq]at h1 h2
   simp only[List.getElem?_cons_succ]at h1 h2
   rw[h1]at h2
   cases h2
   exact MI n rows r
theorem fE(fs:List Fd)(i:Nat):Qe (BW fs i):=QC (fN _) (D3 _)
theorem Ie{fs:List Fd}{i:Nat}(h:i<Qf fs):YH fs i (.vs 1 ((((UG fs i (Xh fs i)).map encI).drop 0).take (Xh fs i)))=BW fs (i+1):=by
 unfold YH BW
 rw[Ho,Eg,List.map_append,List.append_assoc,show Qf fs-(i+1)=Qf fs-i-1 by omega];rfl
theorem C0{fs:List Fd}{n a:Nat}(h:a<n):(Vf fs n).getD a []=UG fs a (Xh fs a):=by simp[Vf,h]
theorem P5[Syms](fs:List Fd)(hF:FsOk fs):
 fnT cX1 cX2 (Zc fns) (Z5 tys) (ZS plt) 100 26 [vF fs] [] 0 (fun v H _=>v=vN (VT fs)∧H=[]):=by
 have hl:=hF.len
 have hle:Qf fs≤fs.length:=Zw _ _ _
 have hll:(Q5 fs).length=Qf fs:=rfl
 have hlm:((Q5 fs).map QW).length=Qf fs:=by rw[List.length_map];rfl
 repeat' first|refine And.intro ?_ ?_|(intro h;try first|exact dz|replace h:=cv)
 all_goals try exact cz
 refine⟨fs,rfl,hF,rL (Q5 fs),rfl,.un _ _ _ _ (XY QW default _).symm,?_⟩
 repeat' first|refine And.intro ?_ ?_|(intro h;try first|exact dz|replace h:=cv)
 all_goals try exact cz
 ·show((((Q5 fs).map QW).length:Nat):Int)*((24:Nat):Int)≤_
  omega
 ·show((((Q5 fs).map QW).length:Nat):Int)≤_
  omega
 refine⟨fun m s=>∃i:Nat,(i≤Qf fs∧m=Qf fs-i)∧s=nxS fs i,⟨_,nxS fs 0,P3 (cap:=some ((Q5 fs).map QW).length) (Nat.le_of_ble_eq_true rfl) rfl rfl rfl rfl rfl rfl rfl rfl,0,⟨by omega,rfl⟩,rfl⟩,?_⟩
 rintro m s ⟨i,⟨hi,rfl⟩,rfl⟩
 by_cases hin:i<Qf fs
 ·have hr:=Pc hin
  repeat' first|refine And.intro ?_ ?_|(intro h;try first|exact dz|replace h:=cv)
  all_goals try exact cz
  ·show(-9223372036854775808:Int)≤((Q5 fs).getD i default).r+1
   omega
  ·show((Q5 fs).getD i default).r+1≤(9223372036854775807:Int)
   omega
  refine⟨fun m s=>∃r:Nat,(r≤Xh fs i∧m=Xh fs i-r)∧((r=0∧s=nrA fs i)∨s=nrB fs i r),⟨_,nrA fs i,Q1 [0] rfl ?_ ?_,0,⟨by omega,rfl⟩,.inl ⟨rfl,rfl⟩⟩,?_⟩
  ·exact⟨.refl _,.refl _,.refl _,.refl _,.refl _,.refl _,.refl _,.refl _,trivial⟩
  ·exact⟨⟨by decide,_,rfl,Dv (P1 hin)⟩,trivial⟩
  have hw:((Xh fs i:Nat):Int)=((Q5 fs).getD i default).r+1:=by unfold Xh;omega
  have hg:∀cur:AVal,(YH fs i cur).getD (0+((i:Nat):Int).toNat) []=[cur]:=fun cur=>by rw[Nat.zero_add];exact NW
  have hgl:∀cur:AVal,(YH fs i cur).length=Qf fs:=fun cur=>by simp[YH,Y1];omega
  have hset:∀cur x:AVal,(YH fs i cur).set (0+((i:Nat):Int).toNat) [x]=YH fs i x:=fun cur x=>by rw[Nat.zero_add];exact Lr
  rintro m s ⟨r,⟨hrw,rfl⟩,(⟨rfl,rfl⟩|rfl)⟩
  ·have h0:(0:Int)<((Q5 fs).getD i default).r+1:=by omega
   repeat' first|refine And.intro ?_ ?_|(intro h;try first|exact dz|replace h:=cv)
   all_goals try exact cz
   all_goals conv=>whnf
   ·rw[hg];rfl
   rw[hg]
   repeat' first|refine And.intro ?_ ?_|(intro h;try first|exact dz|replace h:=cv)
   all_goals try exact cz
   refine⟨fs,i,((0:Nat):Int),rfl,⟨hF,hin⟩,?_⟩
   repeat' first|refine And.intro ?_ ?_|(intro h;try first|exact dz|replace h:=cv)
   all_goals try exact cz
   ·show 0+i<_
    rw[hgl];omega
   ·rw[hg];exact Nat.le_refl _
   refine⟨_,nrB fs i 1,Q1 [0,1+11*RR] (by kernel_rfl) ?_ ?_,⟨1,⟨by omega,rfl⟩,.inr rfl⟩,by omega⟩
   ·exact⟨.refl _,.refl _,.refl _,.refl _,.refl _,.refl _,.refl _,.refl _,trivial⟩
   ·refine⟨⟨by decide,_,rfl,Dv (by rw[hg,Hr];exact hset .nils (.slice (1+11*RR) 0 1 1 none))⟩,⟨by decide,_,rfl,Q2 ?_ (fI _)⟩,trivial⟩
    rfl
  ·by_cases hlt:(r:Int)<((Q5 fs).getD i default).r+1
   · repeat' first|refine And.intro ?_ ?_|(intro h;try first|exact dz|replace h:=cv)
     all_goals try exact cz
     all_goals conv=>whnf
     ·rw[hg];rfl
     rw[hg]
     repeat' first|refine And.intro ?_ ?_|(intro h;try first|exact dz|replace h:=cv)
     all_goals try exact cz
     refine⟨fs,i,(r:Int),rfl,⟨hF,hin⟩,?_⟩
     repeat' first|refine And.intro ?_ ?_|(intro h;try first|exact dz|replace h:=cv)
     all_goals try exact cz
     ·show 0+r≤_
      rw[List.length_map,XM];omega
     ·show 0+i<_
      rw[hgl];omega
     ·rw[hg];exact Nat.le_refl _
     refine⟨_,nrB fs i (r+1),Q1 [0,2+11*RR] (by kernel_rfl) ?_ ?_,⟨r+1,⟨by omega,rfl⟩,.inr rfl⟩,by omega⟩
     ·exact⟨.refl _,.refl _,.refl _,.refl _,.refl _,.refl _,.refl _,.refl _,trivial⟩
     ·refine⟨⟨by decide,_,rfl,Dv (by rw[hg,Hr];exact hset (.slice 1 0 r 1 none) (.slice (2+11*RR) 0 (r+1) 1 none))⟩,⟨by decide,_,rfl,Q2 ?_ (fI _)⟩,trivial⟩
      rw[I5,List.map_append]
      show List.take _ (List.drop 0 ((UG fs i r).map encI))++[_]=_
      rw[List.drop_zero,List.take_of_length_le (by rw[List.length_map,XM];exact Nat.le_refl _)];rfl
   · repeat' first|refine And.intro ?_ ?_|(intro h;try first|exact dz|replace h:=cv)
     all_goals try exact cz
     all_goals conv=>whnf
     ·rw[hg];rfl
     rw[hg]
     repeat' first|refine And.intro ?_ ?_|(intro h;try first|exact dz|replace h:=cv)
     all_goals try exact cz
     ·show 0+r≤_
      rw[List.length_map,XM];omega
     ·exact VP (enc:=encI) (z:=1) (fun _=>rfl) _ _ _
     refine⟨_,.refl _ _ _,_,rfl,?_⟩
     repeat' first|refine And.intro ?_ ?_|(intro h;try first|exact dz|replace h:=cv)
     all_goals try exact cz
     ·show 0+i<_
      rw[hgl];omega
     ·rw[hg];exact Nat.le_refl _
     obtain rfl:r=Xh fs i:=by omega
     refine⟨_,nxS fs (i+1),(Zo (n:=3) (rows:=(UG fs i (Xh fs i)).map encI) (e3:=[(4,fnN fs),(5,.slice 0 0 (Qf fs) 1 none),(15,vL (Q5 fs)),(16,.int .i64 (Qf fs)),(17,.int .i64 (i+1:Nat))]) (H3:=[(0,some (.cells (YH fs i (.vs 1 ((((UG fs i (Xh fs i)).map encI).drop 0).take (Xh fs i)))) false))]) ?_ (fI _) ⟨.same _,.same _,.same _,.same _,.same _,trivial⟩ ⟨⟨by decide,_,rfl,?_⟩,trivial⟩).trans (Q1 [0] (by first|rfl|kernel_rfl) ⟨.refl _,.refl _,.refl _,.refl _,.refl _,trivial⟩ ⟨⟨by decide,_,rfl,Q2 ?_ (fE _ _)⟩,trivial⟩),⟨i+1,⟨by omega,rfl⟩,rfl⟩,by omega⟩
     ·exact congrArg (fun R=>some (Blk.cells R false)) Ho
     ·rw[hg]
      show FzB 3 _ (.cells ((YH fs i (.slice 1 0 (Xh fs i) 1 none)).set (0+((i:Nat):Int).toNat) [.slice 3 0 (0+Xh fs i) 1 none]) false) _
      rw[hset,Nat.zero_add]
      exact Oi (.sl 0 (Xh fs i) 1 none (by omega) (by rw[List.length_map,XM];omega))
     ·exact Ie hin
 · repeat' first|refine And.intro ?_ ?_|(intro h;try first|exact dz|replace h:=cv)
   all_goals try exact cz
   have he:i=Qf fs:=by omega
   subst he
   have ho:BW fs (Qf fs)=(VT fs).map encN:=by(unfold BW VT;rw[Nat.sub_self];exact List.append_nil _)
   have hlN:(VT fs).length=Qf fs:=Y1 fs (Qf fs)
   refine⟨_,XD (enc:=encN) (k:=2) [] (l:=VT fs) rfl rfl (by rw[ho];exact fN _) ?_ ?_,_,rfl,rfl,rfl⟩
   ·rw[ho]
    exact List.take_of_length_le (by rw[List.length_map,hlN];exact Nat.le_refl _)
   ·rw[ho,List.length_map,hlN];exact Nat.le_refl _
def S_next:SpecI:=fun args K=>∃fs,args=[vF fs]∧FsOk fs∧K (vN (VT fs))
theorem O1[Syms]:X0 Try.prog 26 S_next:=by
 rintro args K ⟨fs,rfl,h,hk⟩
 exact⟨rfl,_,rfl,hk,fnI QN QO Q06 Px Za (P5 fs h)⟩
end
end Go.Proofs.Ytcpikannlnmafaa
