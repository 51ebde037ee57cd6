/-
  The leaf of a path:the closures of 'asks'. The program's.
-/
import Derived.Test.YtekipcaifckffaaGreatL5
import Derived.Test.YtekipcaifckffaaGreatL6
import Derived.Test.YtekipcaifckffaaGreatSxOne
set_option linter.unusedVariables false
set_option linter.unusedSimpArgs false
namespace Go.Proofs.YtekipcaifckffaaGreat
open Go Go.Av
section
set_option maxRecDepth 100000
set_option maxHeartbeats 4000000
abbrev rFs(fs:List Fd):AVal:=.vs 4 (fs.map encF)
abbrev rLs(l:List Lf):AVal:=.vs 4 (l.map QT)
theorem DZ(fs:List Fd):SeeV (rFs fs) (vF fs):=.tab _ _ _ _ (Qj encF default fs).symm
theorem RP(l:List Lf):SeeV (rLs l) (vL l):=.tab _ _ _ _ (Qj QT default l).symm
abbrev X7(fs:List Fd)(k:Nat):List UInt8:=QS fs (Q0 fs) ((Q3 fs).getD k default).field
def ixP(fs:List Fd)(p:List UInt8):Nat→Int
 |0=>-1
 |n+1=>if X7 fs ((Q3 fs).length-(n+1))=p then(((Q3 fs).length-(n+1):Nat):Int)else ixP fs p n
def Xp(fs:List Fd)(p:List UInt8):Int:=ixP fs p (Q3 fs).length
theorem EN{fs:List Fd}{p:List UInt8}{k:Nat}(h:k<(Q3 fs).length):ixP fs p ((Q3 fs).length-k)=if X7 fs k=p then(k:Int)else ixP fs p ((Q3 fs).length-(k+1)):=by
 obtain⟨n,hn⟩:∃n,(Q3 fs).length-k=n+1:=⟨(Q3 fs).length-k-1,by omega⟩
 rw[hn,ixP,show(Q3 fs).length-(n+1)=k by omega,show(Q3 fs).length-(k+1)=n by omega]
abbrev cEq:CallT:=Qm 48 (Zd (MC S_path)) Qi
theorem Oo[Syms]:cEq.det Tryz.prog:=Zk ED.see Qd
theorem Ri[Syms]:cEq.ok Tryz.prog:=Q6 ED.see Qh
theorem Sd[Syms](fs:List Fd)(l:Lf)(p:List UInt8)(hF:FsOk fs):
 fnT cEq cEq (QK fns) (QH tys) (QW plt) 100 47 [.agg (QT l),.vp [rFs fs] 0,.vp [.str p] 0] [] 0 (fun v H _=>v= .bool (eqb (QS fs (Q0 fs) l.field) p)∧H=[]):=by
 repeat' first|refine And.intro ?_ ?_|(intro h;try first|exact dz|replace h:=cv)
 all_goals try exact cz
 refine⟨[vF fs,.int .i64 l.field],⟨DZ fs,.same _,trivial⟩,fs,l.field,rfl,hF,?_⟩
 repeat' first|refine And.intro ?_ ?_|(intro h;try first|exact dz|replace h:=cv)
 all_goals try exact cz
 exact⟨_,Q5 [4] rfl,_,rfl,rfl,rfl⟩
def S_eqp:SpecI:=fun args K=>∃(fs:List Fd) (l:Lf) (p:List UInt8),args=[.agg (QT l),.vp [rFs fs] 0,.vp [.str p] 0]∧FsOk fs∧K (.bool (eqb (QS fs (Q0 fs) l.field) p))
theorem PP[Syms]:Z5 Tryz.prog 47 S_eqp:=by
 rintro args K ⟨fs,l,p,rfl,h1,hk⟩
 exact⟨rfl,_,rfl,hk,fnI Qu Qs Oo Ri QJ (Sd fs l p h1)⟩
abbrev cIx:CallT:=Qm 47 (Zd S_eqp) Qi
theorem Ra[Syms]:cIx.ok Tryz.prog:=Q6 PP Qh
def fnE(fs:List Fd)(p:List UInt8):AVal:=.func 47 [.vp [rFs fs] 0,.vp [.str p] 0]
def ifS(fs:List Fd)(p:List UInt8)(k:Nat):St:=⟨[(0,vL (Q3 fs)),(1,fnE fs p),(7,.int .i64 (Q3 fs).length),(8,.int .i64 k)],[],0⟩
theorem S8[Syms](fs:List Fd)(p:List UInt8)(hF:FsOk fs):
 fnT Qi cIx (QK fns) (QH tys) (QW plt) 100 46 [vL (Q3 fs),fnE fs p] [] 0 (fun v H _=>v= .int .i64 (Xp fs p)∧H=[]):=by
 have hl:=hF.len
 have hle:(Q3 fs).length≤fs.length:=Zb _ _ _
 repeat' first|refine And.intro ?_ ?_|(intro h;try first|exact dz|replace h:=cv)
 all_goals try exact cz
 refine⟨fun m s=>∃k:Nat,(k≤(Q3 fs).length∧m=(Q3 fs).length-k∧ixP fs p ((Q3 fs).length-k)=Xp fs p)∧s=ifS fs p k,⟨_,ifS fs p 0,Q5 [0,1,7,8] rfl,0,⟨by omega,rfl,rfl⟩,rfl⟩,?_⟩
 rintro m s ⟨k,⟨hk,rfl,hf⟩,rfl⟩
 unfold ifS
 by_cases hin:k<(Q3 fs).length
 ·rw[EN hin]at hf
  by_cases hp:X7 fs k=p
  ·rw[if_pos hp]at hf
   have hx1:eqb (X7 fs k) p=true:=(Yi _ _).trans (decide_eq_true hp)
   rw[←hf]
   repeat' first|refine And.intro ?_ ?_|(intro h;try first|exact dzh|replace h:=cvh)
   all_goals try exact cz
   refine⟨fs,(Q3 fs).getD k default,p,rfl,hF,?_⟩
   rw[hx1]
   repeat' first|refine And.intro ?_ ?_|(intro h;try first|exact dzh|replace h:=cvh)
   all_goals try exact cz
   exact⟨_,Q5 [4] rfl,_,rfl,rfl,rfl⟩
  ·rw[if_neg hp]at hf
   have hx1:eqb (X7 fs k) p=false:=(Yi _ _).trans (decide_eq_false hp)
   repeat' first|refine And.intro ?_ ?_|(intro h;try first|exact dzh|replace h:=cvh)
   all_goals try exact cz
   refine⟨fs,(Q3 fs).getD k default,p,rfl,hF,?_⟩
   rw[hx1]
   repeat' first|refine And.intro ?_ ?_|(intro h;try first|exact dzh|replace h:=cvh)
   all_goals try exact cz
   exact⟨_,ifS fs p (k+1),Q5 [0,1,7,8] rfl,⟨k+1,⟨by omega,rfl,hf⟩,rfl⟩,by omega⟩
 ·rw[show(Q3 fs).length-k=0 by omega]at hf
  rw[←hf]
  repeat' first|refine And.intro ?_ ?_|(intro h;try first|exact dz|replace h:=cv)
  all_goals try exact cz
  exact⟨_,Q5 [4] rfl,_,rfl,rfl,rfl⟩
def S_ixp:SpecI:=fun args K=>∃(fs:List Fd) (p:List UInt8),args=[vL (Q3 fs),fnE fs p]∧FsOk fs∧K (.int .i64 (Xp fs p))
theorem Pu[Syms]:Z5 Tryz.prog 46 S_ixp:=by
 rintro args K ⟨fs,p,rfl,h1,hk⟩
 exact⟨rfl,_,rfl,hk,fnI Qu Qs Qd Ra QJ (S8 fs p h1)⟩
abbrev cFi:CallT:=Qm 46 (Zd (MC S_ixp)) Qi
theorem Rh[Syms]:cFi.ok Tryz.prog:=Q6 Pu.see Qh
noncomputable def SS:Nat→Nat→Pl:=Xx [(45,0)] (QW plt)
theorem PM[Syms](fs:List Fd)(p:List UInt8)(hF:FsOk fs):
 fnT Qi cFi (QK fns) (QH tys) SS 100 45 [.str p,.vp [rLs (Q3 fs)] 0,.vp [rFs fs] 0] [] 0 (fun v H _=>v= .int .i64 (Xp fs p)∧H=[]):=by
 refine⟨⟨[(1,.vp [rLs (Q3 fs)] 0),(2,.vp [rFs fs] 0),(3,.vp [.str p] 0)],[],1⟩,?_,?_⟩
 ·exact QV (n:=0) (rows:=[[.str p]]) rfl (fun q hq y hy=>by simp at hq;subst hq;simp at hy;subst hy;rfl) ⟨.same _,.same _,.pt 0 0 _ [.str p] rfl ⟨.same _,trivial⟩,trivial⟩ trivial
 · repeat' first|refine And.intro ?_ ?_|(intro h;try first|exact dz|replace h:=cv)
   all_goals try exact cz
   refine⟨[vL (Q3 fs),fnE fs p],⟨RP _,.same _,trivial⟩,fs,p,rfl,hF,?_⟩
   repeat' first|refine And.intro ?_ ?_|(intro h;try first|exact dz|replace h:=cv)
   all_goals try exact cz
   exact⟨_,Q5 [4] rfl,_,rfl,rfl,rfl⟩
def S_find:SpecI:=fun args K=>∃(fs:List Fd) (p:List UInt8),args=[.str p,.vp [rLs (Q3 fs)] 0,.vp [rFs fs] 0]∧FsOk fs∧K (.int .i64 (Xp fs p))
theorem NV[Syms]:Z5 Tryz.prog 45 S_find:=by
 rintro args K ⟨fs,p,rfl,h1,hk⟩
 exact⟨rfl,_,rfl,hk,fnI Qu Qs Qd Rh QJ (PM fs p h1)⟩
end
end Go.Proofs.YtekipcaifckffaaGreat
