/-
 Regions,code,functions,run over abstract states,are sound;from there to the statement's form. Over every program.
-/
import Derived.Test.YtajieadpaeggcaaAvOne
import Derived.OrdersHeld
import Derived.KernelRfl
import Derived.ProofKit
import Derived.OpenShut
set_option linter.unusedVariables false
set_option linter.unusedSimpArgs false
section
set_option linter.unusedVariables false
set_option linter.unusedSimpArgs false
noncomputable section
namespace Go.Av
theorem K8[Syms]{ι:Inj}{ρ:Operand→AVal}{σ:Operand→Value}(hev:∀x,RelV ι (ρ x) (σ x)):∀l:List Operand,QE ι (l.map ρ) (l.map σ)
 |[]=>.nil ι
 |x::l=>.cons (hev x) (K8 hev l)
def Jm(f:FuncId):FuncId:=bif Nat.ble BND f then f-BND else f
def U5(f:FuncId)(as caps:List AVal):List AVal:=bif Nat.ble BND f then caps++as else as++caps
theorem RelV.of_func[Syms]{ι:Inj}{f:FuncId}{cs:List AVal}{v:Value}(h:RelV ι (.func f cs) v):∃fs vs,v= .func (.func (Jm f)) ⟨fs⟩ ⟨vs⟩∧ ∀as us,QE ι as us→QE ι (U5 f as cs) (fs++us++vs):=by
 cases h with
 |func _ _ vs hf hl h=>exact⟨[],vs,by rw[Jm,hf];rfl,fun as us hu=>by rw[U5,hf];exact hu.append ⟨hl,h⟩⟩
 |bfunc f _ vs hl h=>
  have hb:Nat.ble BND (f+BND)=true:=by rw[Nat.ble_eq];exact Nat.le_add_left _ _
  exact⟨vs,[],by rw[Jm,hb];simp,fun as us hu=>by rw[U5,hb,List.append_nil];exact QE.append ⟨hl,h⟩ hu⟩
theorem GD[Syms]{P:Program}{σ:Operand→Value}{o:Oper}{fo:Operand}{args:Array Operand}{argTypes:Array TypeId}{fid:FuncId}{fvs cvs:List Value}{w:World}
 (ho:o.op= .call {callee:=.value fo,args,argTypes}) (hf:σ fo= .func (.func fid) ⟨fvs⟩ ⟨cvs⟩) (hok:Uv P fid):
 (execOp σ o).run P w= .ok (.enter fid ⟨fvs++args.toList.map σ++cvs⟩) w:=by
 unfold execOp
 have e:((⟨fvs⟩:Array Value)++args.map σ++(⟨cvs⟩:Array Value))=⟨fvs++args.toList.map σ++cvs⟩:=by apply Array.ext';simp
 simp only[ho,resolve,hf,Deferred.ofValue,Sem.run_bind,Sem.run_pure,Result.andThen_ok,invoke,e,hok.call]
theorem B6[Syms]{P:Program}{N:Nat}{ops:Array Oper}{o:Oper}{s:St}{fo:Operand}{args:Array Operand}{argTypes:Array TypeId}{fid:FuncId}{caps:List AVal}{v:AVal}{H':Heap}{nx':Nat}
 (hw:Z3 ops s.env o=some true) (hd:X9 N o.dst=true) (ho:o.op= .call {callee:=.value fo,args,argTypes}) (hf:s.ev fo= .func fid caps) (hok:Uv P (Jm fid))
 (hc:KV P (Jm fid) (U5 fid (args.toList.map s.ev) caps) s.heap s.nx v H' nx'):XU P N ops o s ⟨s.env.put o.dst v,H',nx'⟩:=by
 intro ι a w K Q hS hK
 rw[ZU hS.env hw]
 simp only[if_true]
 left
 have hfv:=hS.ev fo
 rw[hf]at hfv
 obtain⟨fvs,cvs,hfe,hcl⟩:=hfv.of_func
 unfold Oper.wp
 rw[GD ho hfe hok]
 simp only[Oper.upon]
 refine(hc ι w _ (hcl _ _ (K8 hS.ev _)) hS.heap hS.bound).mono ?_
 rintro e w' ⟨r,κ,rfl,hv,hH,hst,hb⟩
 obtain⟨h1,h2⟩:=VT hS hst.st.le hd hv
 exact hK κ _ w' ⟨by rw[XX];exact hS.defers,h1,h2,hH,hb⟩ hst
def VG[Syms](P:Program)(N:Nat)(ops:Array Oper):List Oper→St→St→Prop
 |[],s,s'=>s=s'
 |o::rest,s,s'=>∃s1,XU P N ops o s s1∧VG P N ops rest s1 s'
def Nz:Option Blk→Option Blk
 |some (.cells rows _)=>some (.cells rows true)
 |_=>none
def XH:Heap→Heap
 |[]=>[]
 |(k,b)::h=>(k,Nz b)::XH h
theorem Mc[Syms](H:Heap)(n:Nat):(XH H).get n=Nz (H.get n):=by
 induction H with
 |nil=>rfl
 |cons x h ih=>
  obtain⟨k,b⟩:=x
  simp only[XH,Heap.get_nil,Heap.get_cons]
  cases Nat.beq n k
  ·exact ih
  ·rfl
theorem W3[Syms]{H:Heap}{n:Nat}{b:Blk}(h:(XH H).get n=some b):∃rows ro,H.get n=some (.cells rows ro)∧b= .cells rows true:=by
 rw[Mc]at h
 cases hb:H.get n with
 |none=>rw[hb]at h;cases h
 |some c=>
  rw[hb]at h
  cases c with
  |cells rows ro=>simp only[Nz,Option.some.injEq]at h;exact⟨rows,ro,rfl,h.symm⟩
  |iter s p=>cases h
theorem Xv[Syms]{ι:Inj}{H:Heap}{g:Nat}:¬Own ι (XH H) g:=by
 rintro⟨n,b,L,h1,h2,_⟩
 obtain⟨rows,ro,_,rfl⟩:=W3 h1
 cases h2
def RR:Nat:=4294967296
structure Calm[Syms](ι:Inj)(w:World)(κ:Inj)(w':World)(m:Nat)(news:List (Nat×Blk)):Prop where
 le:ι.le κ
 os:w'.os=w.os
 tape:w'.tape=w.tape
 output:w'.output=w.output
 size:w.heap.size≤w'.heap.size
 same:∀g,g<w.heap.size→w'.heap[g]?=w.heap[g]?
 made:∀id b,(id,b)∈news→ ∃L,κ id=some L∧w.heap.size≤L.g∧Zv κ w' L b
 apart:∀(id id':Nat) (b b':Blk) (L L':Loc),(id,b)∈news→(id',b')∈news→κ id=some L→κ id'=some L'→L.g=L'.g→id=id'
 only:∀n L,κ n=some L→L.g<w'.heap.size∧(ι n=some L∨(m≤n∧n<m+RR))
 fzs:∀g cs,κ.fz g=some cs→(ι.fz g=some cs∨w.heap.size≤g)∧(∃e z,w'.heap[g]?=some (.cells cs e z))∧ ∀id b L,(id,b)∈news→κ id=some L→L.g≠g
def Env.only(l:List Tmp):Env→Env
 |[]=>[]
 |(k,v)::e=>bif l.contains k then(k,v)::Env.only l e else Env.only l e
theorem Env.only_get[Syms](l:List Tmp):∀(e:Env) (t:Nat),(e.only l).get t=if l.contains t then e.get t else .any
 |[],t=>by simp[Env.only,Env.get_nil,Env.get_cons]
 |(k,v)::e,t=>by
  have ih:=Env.only_get l e t
  simp only[Env.only]
  by_cases hk:l.contains k=true
  ·rw[hk]
   simp only[cond_true,Env.get_nil,Env.get_cons]
   by_cases ht:t=k
   ·subst ht
    rw[Nat.beq_refl,if_pos hk]
    rfl
   ·rw[QL ht]
    exact ih
  ·have hk':l.contains k=false:=by simpa using hk
   rw[hk']
   simp only[cond_false,Env.get_nil,Env.get_cons]
   by_cases ht:t=k
   ·subst ht
    rw[ih,hk']
    simp
   ·rw[QL ht]
    exact ih
def ZL[Syms](P:Program)(N:Nat)(ops:Array Oper)(o:Oper)(env:Env)(Hv:Heap)(m:Nat)(v:AVal)(news:List (Nat×Blk)):Prop:=
 ∀(ι:Inj) (a:Act) (w:World) (K:Act→World→Prop) (Q:Exit→Act→World→Prop),a.defers=[]→N≤a.tmps.size→(∀t,RelV ι (env.get t) (a.tmps.getD t undef))→RelH ι (XH Hv) w→XB ι m w→
  (∀κ u w',RelV κ v u→Calm ι w κ w' m news→K (a.put o.dst u) w')→
  if Region.wanted o (yielded ops a.tmps)then o.wp P a w K Q∨(o.asks P a w∧LetsOut Q)else K (a.put o.dst undef) w
theorem Es[Syms]{P:Program}{N:Nat}{ops:Array Oper}{o:Oper}{env:Env}{Hv:Heap}{m:Nat}(hw:Z3 ops env o=some false):ZL P N ops o env Hv m Vf []:=by
 intro ι a w K Q hd hN he hH hb hK
 rw[ZU he hw]
 simp only[Bool.false_eq_true,if_false]
 exact hK ι undef w (RelV.undef ι) ⟨Inj.le_refl ι,rfl,rfl,rfl,Nat.le_refl _,fun _ _=>rfl,by simp,by simp,fun n L hn=>⟨(hb n L hn).2,.inl hn⟩,fun g cs hg=>⟨.inl hg,(hH.fz g cs hg).1,by simp⟩⟩
def evE(env:Env):Operand→AVal:=(St.mk env [] 0).ev
theorem Fi[Syms]{ι:Inj}{env:Env}{a:Act}(h:∀t,RelV ι (env.get t) (a.tmps.getD t undef))(x:Operand):RelV ι (evE env x) (a.eval x):=by
 cases x with
 |tmp t=>exact h t
 |const v=>exact UY ι v
 |global g=>exact .any _
 |func f=>
  show RelV ι (bif Nat.ble BND f then .any else .func f []) _
  cases hf:Nat.ble BND f with
  |true=>exact .any _
  |false=>exact .func f [] [] hf rfl (by simp)
def Res.news(m:Nat):Res→List (Nat×Blk)
 | .new b _=>[(m,b)]
 |_=>[]
def Res.calm:Res→Bool
 | .upd _ _=>false
 | .new b _=>!b.ro
 |_=>true
theorem Dw[Syms]{P:Program}{tt:TT}(htt:TT.ok P tt){N:Nat}{ops:Array Oper}{o:Oper}{env:Env}{Hv:Heap}{m:Nat}{r:Res}(hw:Z3 ops env o=some true)
 (h:aop tt (evE env) (XH Hv) m o.op=some r) (hr:r.calm=true):ZL P N ops o env Hv m r.v (r.news m):=by
 intro ι a w K Q hd hN he hH hb hK
 rw[ZU he hw]
 simp only[if_true]
 left
 obtain⟨v,w',κ,hrun,hv,hH',hst,hk,hval⟩:=ML (P:=P) htt hH hb.lies (hb.fresh (Nat.le_refl _)) (Fi he) h
 have hsame:∀g,g<w.heap.size→w'.heap[g]?=w.heap[g]?:=fun g hg=>hst.same g hg Xv
 have fin:K (a.put o.dst v) w':=by
  refine hK κ v w' hv ⟨hst.le,hst.os,hst.tape,hst.output,hst.size,hsame,fun id b hin=>?_,fun id id' b b' L L' h1 h2 _ _ _=>?_,fun n L hn=>?_,fun g cs hg=>⟨?_,(hH'.fz g cs hg).1,fun id b L hin hL e=>(hH'.fz g cs hg).2 ?_⟩⟩
  ·cases r with
   |new b0 v0=>
    simp only[Res.news,List.mem_singleton,Prod.mk.injEq]at hin
    obtain⟨rfl,rfl⟩:=hin
    simp only[Res.heap]at hH' hst
    obtain⟨L,hL,hB⟩:=hH'.blk id b (Heap.get_set_same _ _ _)
    refine⟨L,hL,?_,hB⟩
    have hro:b.ro=false:=by simpa[Res.calm]using hr
    rcases hst.own L.g ⟨id,b,L,Heap.get_set_same _ _ _,hro,hL,rfl⟩with h|h
    ·exact absurd h Xv
    ·exact h
   |_=>simp[Res.news]at hin
  ·cases r with
   |new b0 v0=>
    simp only[Res.news,List.mem_singleton,Prod.mk.injEq]at h1 h2
    rw[h1.1,h2.1]
   |_=>simp[Res.news]at h1
  ·rcases hk n L hn with h2|⟨rfl,h2⟩
   ·exact⟨Nat.lt_of_lt_of_le (hb n L h2).2 hst.size,.inl h2⟩
   ·exact⟨h2,.inr ⟨Nat.le_refl _,by unfold RR;omega⟩⟩
  ·rcases hst.fzs g cs hg with h|h|h
   ·exact .inl h
   ·exact .inr h
   ·exact absurd h Xv
  ·cases r with
   |new b0 v0=>
    simp only[Res.news,List.mem_singleton,Prod.mk.injEq]at hin
    obtain⟨rfl,rfl⟩:=hin
    exact⟨id,b,L,Heap.get_set_same _ _ _,by simpa[Res.calm]using hr,hL,e⟩
   |_=>simp[Res.news]at hin
 unfold Oper.wp
 rcases hrun with hrun|⟨hrun,rfl⟩
 ·rw[hrun];exact fin
 ·rw[hrun];exact fin
theorem Et[Syms]{P:Program}{N:Nat}{ops:Array Oper}{o:Oper}{env:Env}{Hv:Heap}{m:Nat}{fo:Operand}{args:Array Operand}{argTypes:Array TypeId}{fid:FuncId}{caps:List AVal}{v:AVal}{H':Heap}{nx':Nat}{news:List (Nat×Blk)}
 (hw:Z3 ops env o=some true) (ho:o.op= .call {callee:=.value fo,args,argTypes}) (hf:evE env fo= .func fid caps) (hok:Uv P (Jm fid))
 (hc:KV P (Jm fid) (U5 fid (args.toList.map (evE env)) caps) (XH Hv) m v H' nx') (hn:nx'≤m+RR) (hnews:∀id b,(id,b)∈news→H'.get id=some b∧b.ro=false):ZL P N ops o env Hv m v news:=by
 intro ι a w K Q hd hN he hH hb hK
 rw[ZU he hw]
 simp only[if_true]
 left
 have hfv:=Fi he fo
 rw[hf]at hfv
 obtain⟨fvs,cvs,hfe,hcl⟩:=hfv.of_func
 unfold Oper.wp
 rw[GD ho hfe hok]
 simp only[Oper.upon]
 refine(hc ι w _ (hcl _ _ (K8 (Fi he) _)) hH hb).mono ?_
 rintro e w' ⟨r,κ,rfl,hv,hH',hst,hb'⟩
 have hstn:=hst
 obtain⟨hst,_,hfr⟩:=hst
 refine hK κ r w' hv ⟨hst.le,hst.os,hst.tape,hst.output,hst.size,fun g hg=>hst.same g hg Xv,fun id b hin=>?_,fun id id' b b' L L' h1 h2 h3 h4 h5=>?_,fun n L hn'=>⟨(hb' n L hn').2,?_⟩,fun g cs hg=>⟨?_,(hH'.fz g cs hg).1,fun id b L hin hL e=>(hH'.fz g cs hg).2 ⟨id,b,L,(hnews id b hin).1,(hnews id b hin).2,hL,e⟩⟩⟩
 ·obtain⟨h1,h2⟩:=hnews id b hin
  obtain⟨L,hL,hB⟩:=hH'.blk id b h1
  refine⟨L,hL,?_,hB⟩
  rcases hst.own L.g ⟨id,b,L,h1,h2,hL,rfl⟩with h|h
  ·exact absurd h Xv
  ·exact h
 ·obtain⟨g1,g2⟩:=hnews id b h1
  obtain⟨g3,g4⟩:=hnews id' b' h2
  rcases hH'.inj id id' b b' L L' g1 g3 h3 h4 h5 with h|h
  ·exact h
  ·rw[g2]at h;cases h.1
 ·rcases hfr n L hn' with h|h
  ·exact .inl h
  ·exact .inr ⟨h,Nat.lt_of_lt_of_le (hb' n L hn').1 hn⟩
 ·rcases hst.fzs g cs hg with h|h|h
  ·exact .inl h
  ·exact .inr h
  ·exact absurd h Xv
end Go.Av
end
end
section
set_option linter.unusedVariables false
set_option linter.unusedSimpArgs false
noncomputable section
namespace Go.Av
open Classical in
noncomputable def VW(ι:Inj)(p:Nat→Prop):Inj:=⟨fun n=>if p n then ι n else none,ι.fz⟩
theorem Y8{ι:Inj}{p:Nat→Prop}{n:Nat}{L:Loc}:VW ι p n=some L↔p n∧ι n=some L:=by
 unfold VW
 by_cases h:p n<;>simp[h]
theorem Cn[Syms]{ι κ:Inj}{p q:Nat→Prop}(h:∀n L,ι n=some L→p n→κ n=some L∧q n)(hz:∀g cs,ι.fz g=some cs→κ.fz g=some cs):(VW ι p).le (VW κ q):=by
 refine⟨fun n L hn=>?_,hz⟩
 rw[Y8]at hn ⊢
 exact(h n L hn.2 hn.1).symm
theorem UW[Syms](ι:Inj)(p:Nat→Prop):(VW ι p).le ι:=⟨fun n L h=>(Y8.1 h).2,fun _ _ h=>h⟩
def X0(H:Heap)(l:List (Nat×Blk)):Heap:=l.foldl (fun H p=>H.set p.1 (some p.2)) H
theorem Ji[Syms]:∀(l:List (Nat×Blk)) (H:Heap) (n:Nat) (b:Blk),(X0 H l).get n=some b→H.get n=some b∨(n,b)∈l
 |[],H,n,b,h=>.inl h
 |(k,c)::l,H,n,b,h=>by
  rcases Ji l (H.set k (some c)) n b h with h1|h1
  ·rw[Heap.get_set]at h1
   by_cases e:n=k
   ·subst e;rw[if_pos rfl]at h1;cases h1;exact .inr (List.mem_cons_self ..)
   ·rw[if_neg e]at h1;exact .inl h1
  ·exact .inr (List.mem_cons_of_mem _ h1)
def WU(H0:Heap)(nw:Nat→List (Nat×Blk))(p:Nat→Bool):Nat→Heap
 |0=>H0
 |i+1=>if p i then X0 (WU H0 nw p i) (nw i)else WU H0 nw p i
theorem Ya[Syms]{H0:Heap}{nw:Nat→List (Nat×Blk)}{p:Nat→Bool}:∀(i:Nat) (n:Nat) (b:Blk),(WU H0 nw p i).get n=some b→H0.get n=some b∨ ∃k,k<i∧p k=true∧(n,b)∈nw k
 |0,n,b,h=>.inl h
 |i+1,n,b,h=>by
  simp only[WU]at h
  split at h
  ·rename_i hp
   rcases Ji _ _ _ _ h with h1|h1
   ·rcases Ya i n b h1 with h2|⟨k,h2,h3,h4⟩
    ·exact .inl h2
    ·exact .inr ⟨k,by omega,h3,h4⟩
   ·exact .inr ⟨i,by omega,hp,h1⟩
  ·rcases Ya i n b h with h2|⟨k,h2,h3,h4⟩
   ·exact .inl h2
   ·exact .inr ⟨k,by omega,h3,h4⟩
def X4(env0:Env)(dst:Nat→Option Tmp)(v:Nat→AVal):Nat→Env
 |0=>env0
 |i+1=>(X4 env0 dst v i).put (dst i) (v i)
theorem Um[Syms]{env0:Env}{dst:Nat→Option Tmp}{v:Nat→AVal}:∀{i t:Nat},(∀k,k<i→dst k≠some t)→(X4 env0 dst v i).get t=env0.get t
 |0,t,_=>rfl
 |i+1,t,h=>by
  have ih:=Um (env0:=env0) (v:=v) (i:=i) (t:=t) (fun k hk=>h k (by omega))
  simp only[X4]
  cases hd:dst i with
  |none=>exact ih
  |some d=>
   have hne:t≠d:=fun e=>h i (by omega) (by rw[hd,e])
   simp only[Env.put,Env.get_nil,Env.get_cons,QL hne,cond_false]
   exact ih
theorem KI[Syms]{env0:Env}{dst:Nat→Option Tmp}{v:Nat→AVal}(hd:∀k l t,k<l→dst k=some t→dst l≠some t):∀{i k t:Nat},k<i→dst k=some t→(X4 env0 dst v i).get t=v k
 |i+1,k,t,hk,h=>by
  simp only[X4]
  by_cases e:k=i
  ·subst e
   rw[h]
   simp only[Env.put,Env.get_nil,Env.get_cons,Nat.beq_refl,cond_true]
  ·have ih:=KI (env0:=env0) (v:=v) hd (i:=i) (k:=k) (by omega) h
   cases hd':dst i with
   |none=>exact ih
   |some d=>
    have hne:t≠d:=fun e'=>hd k i t (by omega) h (by rw[hd',e'])
    simp only[Env.put,Env.get_nil,Env.get_cons,QL hne,cond_false]
    exact ih
def Wu(nx0 k id:Nat):Prop:=nx0+k*RR≤id∧id<nx0+(k+1)*RR
theorem G8{nx0 k l id:Nat}(h:Wu nx0 k id)(h':Wu nx0 l id):k=l:=by
 unfold Wu RR at *
 omega
structure Plan(ops:Array Oper)(n:Nat)(M:Nat→Nat→Bool)(Mv:Nat→Bool):Prop where
 le:n≤ops.size
 sel:∀(j:Nat) (o:Oper) cs b,ops[j]?=some o→o.op≠ .select cs b
 edge:∀i o,ops[i]?=some o→ ∀e∈o.after,Region.binds .any e=true→e.on<i∧M i e.on=true
 tr:∀i k l,M i k=true→M k l=true→M i l=true
 lt:∀i k,M i k=true→k<i
 by_:∀i k,M i k=true→Mv k=true∨ ∃o,ops[i]?=some o∧ ∃e∈o.after,Region.binds .any e=true∧(e.on=k∨M e.on k=true)
 uses:∀i k o p d,ops[i]?=some o→ops[k]?=some p→i<n→k≠i→p.dst=some d→d∈o.looksAt ops→M i k=true∨M k i=true
 dsts:∀i k o p d,ops[i]?=some o→ops[k]?=some p→i<k→k<n→o.dst=some d→p.dst≠some d
 tail:∀t k,n≤t→t<ops.size→k<t→M t k=true
def Z9(ops:Array Oper)(k:Nat):Option Tmp:=(ops[k]?).bind (·.dst)
section
variable {P:Program} {N:Nat} {ops:Array Oper} {n:Nat} {M:Nat→Nat→Bool} {s:St} {v:Nat→AVal} {nw:Nat→List (Nat×Blk)} {ι0:Inj} {w0:World}
def JQ(nx0:Nat)(M:Nat→Nat→Bool)(i id:Nat):Prop:=id<nx0∨ ∃k,M i k=true∧Wu nx0 k id
def M8(nx0:Nat)(M:Nat→Nat→Bool)(i id:Nat):Prop:=JQ nx0 M i id∨Wu nx0 i id
structure DInv[Syms](N:Nat)(ops:Array Oper)(n:Nat)(M:Nat→Nat→Bool)(s:St)(v:Nat→AVal)(nw:Nat→List (Nat×Blk))(ι0:Inj)(w0:World)(D:Nat→Prop)(ι:Inj)(a:Act)(w:World):Prop where
 defers:a.defers=[]
 size:N≤a.tmps.size
 le:ι0.le ι
 ids:∀m L,ι m=some L→L.g<w.heap.size∧(ι0 m=some L∨ ∃k,k<n∧D k∧Wu s.nx k m)
 os:w.os=w0.os
 tape:w.tape=w0.tape
 output:w.output=w0.output
 hsize:w0.heap.size≤w.heap.size
 same:∀g,g<w0.heap.size→w.heap[g]?=w0.heap[g]?
 miss:∀t,(∀k,k<n→D k→Z9 ops k≠some t)→RelV ι0 (s.env.get t) (a.tmps.getD t undef)
 hit:∀k t,k<n→D k→Z9 ops k=some t→RelV (VW ι (M8 s.nx M k)) (v k) (a.tmps.getD t undef)
 made:∀k id b,k<n→D k→(id,b)∈nw k→ ∃L,ι id=some L∧w0.heap.size≤L.g∧Zv (VW ι (M8 s.nx M k)) w L b
 apart:∀(k k' id id':Nat) (b b':Blk) (L L':Loc),k<n→k'<n→D k→D k'→(id,b)∈nw k→(id',b')∈nw k'→ι id=some L→ι id'=some L'→L.g=L'.g→id=id'
 fz:∀g cs,ι.fz g=some cs→(ι0.fz g=some cs∨w0.heap.size≤g)∧(∃e z,w.heap[g]?=some (.cells cs e z))∧ ∀k id b L,k<n→D k→(id,b)∈nw k→ι id=some L→L.g≠g
theorem G1(a:Act){dst:Option Tmp}{t:Nat}{u:Value}(h:dst≠some t):(a.put dst u).tmps.getD t undef=a.tmps.getD t undef:=by
 cases dst with
 |none=>rfl
 |some d=>
  have:d≠t:=fun e=>h (by rw[e])
  simp[Act.put,Array.getElem?_setIfInBounds_ne this]
theorem B4(a:Act){t:Nat}{u:Value}(h:t<a.tmps.size):(a.put (some t) u).tmps.getD t undef=u:=by
 simp[Act.put,h]
theorem MD[Syms]{Mv:Nat→Bool}(pl:Plan ops n M Mv)(hS:RelH ι0 s.heap w0∧XB ι0 s.nx w0){D:Nat→Prop}{ι:Inj}{a:Act}{w:World}(hI:DInv N ops n M s v nw ι0 w0 D ι a w){i:Nat}{o:Oper}(ho:ops[i]?=some o)(hi:i<n)(hiD:¬D i)
 (hpre:∀k,M i k=true→D k) (hpost:∀k,M k i=true→ ¬D k) (hdst:X9 N o.dst=true)
 (hnw:∀k,k<n→ ∀id b,(id,b)∈nw k→Wu s.nx k id)
 (hc:ZL P N ops o ((X4 s.env (Z9 ops) v i).only (o.looksAt ops)) (WU s.heap nw (M i) i) (s.nx+i*RR) (v i) (nw i)) {K:Act→World→Prop} {Q:Exit→Act→World→Prop}
 (hK:∀κ a' w',DInv N ops n M s v nw ι0 w0 (fun k=>D k∨k=i) κ a' w'→K a' w'):
 if Region.wanted o (yielded ops a.tmps)then o.wp P a w K Q∨(o.asks P a w∧LetsOut Q)else K (a.put o.dst undef) w:=by
 have hd:Z9 ops i=o.dst:=by simp[Z9,ho]
 have hdd:∀k l t,k<l→l<n→Z9 ops k=some t→Z9 ops l≠some t:=by
  intro k l t hkl hln hk
  have hlsz:l<ops.size:=Nat.lt_of_lt_of_le hln pl.le
  have hk':ops[k]?=some (ops[k]'(by omega)):=Array.getElem?_eq_getElem _
  have hl':ops[l]?=some (ops[l]'hlsz):=Array.getElem?_eq_getElem _
  have e1:Z9 ops k=(ops[k]'(by omega)).dst:=by simp[Z9,hk']
  have e2:Z9 ops l=(ops[l]'hlsz).dst:=by simp[Z9,hl']
  rw[e1]at hk
  rw[e2]
  exact pl.dsts k l _ _ t hk' hl' hkl hln hk
 have low:∀m L,ι0 m=some L→m<s.nx:=fun m L h=>(hS.2 m L h).1
 have hle0:ι0.le (VW ι (JQ s.nx M i)):=⟨fun m L h=>Y8.2 ⟨.inl (low m L h),hI.le.1 m L h⟩,hI.le.2⟩
 have mono1:∀k,M i k=true→(VW ι (M8 s.nx M k)).le (VW ι (JQ s.nx M i)):=by
  intro k hk
  refine Cn (fun m L hm hs=>⟨hm,?_⟩) (fun _ _ h=>h)
  rcases hs with(h1|⟨l,h2,h3⟩)|h1
  ·exact .inl h1
  ·exact .inr ⟨l,pl.tr i k l hk h2,h3⟩
  ·exact .inr ⟨k,hk,h1⟩
 refine hc (VW ι (JQ s.nx M i)) a w K Q hI.defers hI.size (fun t=>?_) ?_ ?_ (fun κ u w' hu hcalm=>?_)
 · -- the slots that it looks at
   rw[Env.only_get]
   split
   ·rename_i hlook
    have hlook:t∈o.looksAt ops:=by simpa using hlook
    by_cases hex:∃k,k<n∧D k∧Z9 ops k=some t
    ·obtain⟨k,hkn,hkD,hkd⟩:=hex
     have hki:k≠i:=fun e=>hiD (e▸hkD)
     have hksz:k<ops.size:=Nat.lt_of_lt_of_le hkn pl.le
     have hk':ops[k]?=some (ops[k]'hksz):=Array.getElem?_eq_getElem _
     have hkd':(ops[k]'hksz).dst=some t:=by simpa[Z9,hk']using hkd
     rcases pl.uses i k o _ t ho hk' hi hki hkd' hlook with h|h
     ·have hlt:=pl.lt i k h
      have hval:(X4 s.env (Z9 ops) v i).get t=v k:=by
       have:=KI (env0:=s.env) (dst:=fun q=>if q<n then Z9 ops q else none) (v:=v) (i:=i) (k:=k) (t:=t) (fun k l t hkl hk=>by
        by_cases hl:l<n
        ·have hk2:k<n:=by omega
         simp only[hk2,if_true]at hk
         simp only[hl,if_true]
         exact hdd k l t hkl hl hk
        ·simp[hl]) hlt (by simp[hkn,hkd])
       rw[←this]
       have heq:∀j,j≤n→X4 s.env (Z9 ops) v j=X4 s.env (fun q=>if q<n then Z9 ops q else none) v j:=by
        intro j
        induction j with
        |zero=>intro _;rfl
        |succ j ih=>intro hj;simp only[X4];rw[ih (by omega)];rw[if_pos (by omega)]
       rw[heq i (by omega)]
      rw[hval]
      exact(hI.hit k t hkn hkD hkd).mono (mono1 k h)
     ·exact absurd hkD (hpost k h)
    ·have hnone:∀k,k<n→D k→Z9 ops k≠some t:=fun k h1 h2 h3=>hex ⟨k,h1,h2,h3⟩
     have hval:(X4 s.env (Z9 ops) v i).get t=s.env.get t:=by
      refine Um fun k hk hkd=>?_
      have hksz:k<ops.size:=by have:=pl.le;omega
      have hk':ops[k]?=some (ops[k]'hksz):=Array.getElem?_eq_getElem _
      have hkd':(ops[k]'hksz).dst=some t:=by simpa[Z9,hk']using hkd
      rcases pl.uses i k o _ t ho hk' hi (by omega) hkd' hlook with h|h
      ·exact hnone k (by omega) (hpre k h) hkd
      ·have:=pl.lt k i h;omega
     rw[hval]
     exact(hI.miss t hnone).mono hle0
   ·exact .any _
 · -- the heap that it sees
   refine⟨fun m b hb=>?_,fun m m' b b' L L' h1 h2 _ _ _=>.inr ?_,fun g cs hg=>⟨(hI.fz g cs hg).2.1,Xv⟩⟩
   ·obtain⟨rows,ro,hb1,rfl⟩:=W3 hb
    have weak:∀{L},Zv (VW ι (JQ s.nx M i)) w L (.cells rows ro)→Zv (VW ι (JQ s.nx M i)) w L (.cells rows true):=by
     intro L hB
     obtain⟨cs,e,fz,h1,h2,h3,h4,h5⟩:=hB.rows
     exact Zv.mk h1 h2 h3 h4 (fun h=>by cases h) (hB.ty h1)
    rcases Ya i m _ hb1 with h1|⟨k,h1,h2,h3⟩
    ·obtain⟨L,hL,hB⟩:=hS.1.blk m _ h1
     exact⟨L,hle0.1 m L hL,weak (hB.keep hle0 (hI.same _ (hS.2 m L hL).2))⟩
    ·have hkn:k<n:=by omega
     obtain⟨L,hL,_,hB⟩:=hI.made k m _ hkn (hpre k h2) h3
     have hsee:JQ s.nx M i m:=.inr ⟨k,h2,hnw k hkn m _ h3⟩
     exact⟨L,Y8.2 ⟨hsee,hL⟩,weak (hB.keep (mono1 k h2) rfl)⟩
   ·obtain⟨_,_,_,rfl⟩:=W3 h1
    obtain⟨_,_,_,rfl⟩:=W3 h2
    exact⟨rfl,rfl⟩
 · -- its numbers
   intro m L hm
   obtain⟨hs,hm'⟩:=Y8.1 hm
   refine⟨?_,(hI.ids m L hm').1⟩
   rcases hs with h|⟨k,h1,h2⟩
   ·omega
   ·have:=pl.lt i k h1
    unfold Wu at h2
    have:(k+1)*RR≤i*RR:=Nat.mul_le_mul_right _ (by omega)
    omega
 · -- behind it
   have nown:∀m L,ι m=some L→ ¬Wu s.nx i m:=by
    intro m L hm hown
    rcases(hI.ids m L hm).2 with h|⟨k,_,hkD,hk⟩
    ·have:=low m L h
     unfold Wu at hown
     omega
    ·exact hiD (G8 hk hown▸hkD)
   obtain⟨ι',hι1,hι2,hι3⟩:∃ι':Inj,(∀m,Wu s.nx i m→ι' m=κ m)∧(∀m,¬Wu s.nx i m→ι' m=ι m)∧ι'.fz=κ.fz:=by
    classical
    exact⟨⟨fun m=>if Wu s.nx i m then κ m else ι m,κ.fz⟩,fun m h=>if_pos h,fun m h=>if_neg h,rfl⟩
   have hle':ι.le ι':=⟨fun m L hm=>by rw[hι2 m (nown m L hm)];exact hm,fun g cs hg=>by rw[hι3];exact hcalm.le.2 g cs hg⟩
   have hκ:κ.le (VW ι' (M8 s.nx M i)):=by
    refine⟨fun m L hm=>?_,fun g cs hg=>by show ι'.fz g=_;rw[hι3];exact hg⟩
    rcases(hcalm.only m L hm).2 with h|⟨h1,h2⟩
    ·obtain⟨h3,h4⟩:=Y8.1 h
     exact Y8.2 ⟨.inl h3,hle'.1 m L h4⟩
    ·have hown:Wu s.nx i m:=⟨h1,by rw[Nat.add_mul];omega⟩
     exact Y8.2 ⟨.inr hown,by rw[hι1 m hown];exact hm⟩
   have monoD:∀k,(VW ι (M8 s.nx M k)).le (VW ι' (M8 s.nx M k)):=fun k=>Cn (fun m L hm hs=>⟨hle'.1 m L hm,hs⟩) hle'.2
   have keep:∀k t,k<n→D k→Z9 ops k=some t→o.dst≠some t:=by
    intro k t hkn hkD hkd hod
    have hki:k≠i:=fun e=>hiD (e▸hkD)
    rcases Nat.lt_or_gt_of_ne hki with h|h
    ·exact hdd k i t h hi hkd (by rw[hd];exact hod)
    ·exact hdd i k t h hkn (by rw[hd];exact hod) hkd
   refine hK ι' _ w' ⟨by rw[XX];exact hI.defers,?_,Inj.le_trans hI.le hle',fun m L hm=>?_,hcalm.os.trans hI.os,hcalm.tape.trans hI.tape,hcalm.output.trans hI.output,Nat.le_trans hI.hsize hcalm.size,
    fun g hg=>(hcalm.same g (Nat.lt_of_lt_of_le hg hI.hsize)).trans (hI.same g hg),fun t hno=>?_,fun k t hkn hk hkd=>?_,fun k id b hkn hk hin=>?_,fun k k' id id' b b' L L' hkn hkn' hk hk' hin hin' hL hL' hg=>?_,fun g cs hg=>?_⟩
   ·have:=hI.size
    cases o.dst<;>simpa[Act.put]using this
   ·by_cases hown:Wu s.nx i m
    ·rw[hι1 m hown]at hm
     exact⟨(hcalm.only m L hm).1,.inr ⟨i,hi,.inr rfl,hown⟩⟩
    ·rw[hι2 m hown]at hm
     obtain⟨h1,h2⟩:=hI.ids m L hm
     refine⟨Nat.lt_of_lt_of_le h1 hcalm.size,?_⟩
     rcases h2 with h2|⟨k,h3,h4,h5⟩
     ·exact .inl h2
     ·exact .inr ⟨k,h3,.inl h4,h5⟩
   ·have h1:o.dst≠some t:=by rw[←hd];exact hno i hi (.inr rfl)
    rw[G1 a h1]
    exact hI.miss t (fun k hkn hkD=>hno k hkn (.inl hkD))
   ·rcases hk with hk|rfl
    ·rw[G1 a (keep k t hkn hk hkd)]
     exact(hI.hit k t hkn hk hkd).mono (monoD k)
    ·rw[hd]at hkd
     rw[hkd]at hdst ⊢
     have hlt:t<N:=by simpa[X9,Nat.blt_eq]using hdst
     rw[B4 a (Nat.lt_of_lt_of_le hlt hI.size)]
     exact hu.mono hκ
   ·rcases hk with hk|rfl
    ·obtain⟨L,hL,h1,h2⟩:=hI.made k id b hkn hk hin
     exact⟨L,hle'.1 id L hL,h1,h2.keep (monoD k) (hcalm.same _ (hI.ids id L hL).1)⟩
    ·obtain⟨L,hL,h1,h2⟩:=hcalm.made id b hin
     exact⟨L,by rw[hι1 id (hnw k hi id b hin)];exact hL,Nat.le_trans hI.hsize h1,h2.keep hκ rfl⟩
   ·have old:∀k id b L,k<n→D k→(id,b)∈nw k→ι' id=some L→ι id=some L:=by
     intro k id b L hkn hkD hin hL
     rw[hι2 id (fun hown=>hiD (G8 (hnw k hkn id b hin) hown▸hkD))]at hL
     exact hL
    have new:∀id b L,(id,b)∈nw i→ι' id=some L→κ id=some L:=by
     intro id b L hin hL
     rw[hι1 id (hnw i hi id b hin)]at hL
     exact hL
    rcases hk with hk|rfl
    ·have e1:=old k id b L hkn hk hin hL
     rcases hk' with hk'|rfl
     ·exact hI.apart k k' id id' b b' L L' hkn hkn' hk hk' hin hin' e1 (old k' id' b' L' hkn' hk' hin' hL') hg
     ·have e2:=new id' b' L' hin' hL'
      obtain⟨X,hX,h1,_⟩:=hcalm.made id' b' hin'
      rw[e2]at hX
      cases hX
      have:=(hI.ids id L e1).1
      omega
    ·have e1:=new id b L hin hL
     rcases hk' with hk'|rfl
     ·have e2:=old k' id' b' L' hkn' hk' hin' hL'
      obtain⟨X,hX,h1,_⟩:=hcalm.made id b hin
      rw[e1]at hX
      cases hX
      have:=(hI.ids id' L' e2).1
      omega
     ·exact hcalm.apart id id' b b' L L' hin hin' e1 (new id' b' L' hin' hL') hg
   ·rw[hι3]at hg
    obtain⟨g1,g2,g3⟩:=hcalm.fzs g cs hg
    refine⟨?_,g2,fun k id b L hkn hk hin hL=>?_⟩
    ·rcases g1 with g1|g1
     ·exact(hI.fz g cs g1).1
     ·exact .inr (Nat.le_trans hI.hsize g1)
    ·rcases hk with hk|rfl
     ·rw[hι2 id (fun hown=>hiD (G8 (hnw k hkn id b hin) hown▸hk))]at hL
      rcases g1 with g1|g1
      ·exact(hI.fz g cs g1).2.2 k id b L hkn hk hin hL
      ·have:=(hI.ids id L hL).1
       omega
     ·rw[hι1 id (hnw k hkn id b hin)]at hL
      exact g3 id b L hin hL
end
end Go.Av
end
end
section
set_option linter.unusedVariables false
set_option linter.unusedSimpArgs false
noncomputable section
namespace Go.Av
section
variable {P:Program} {N:Nat} {ops:Array Oper} {n:Nat} {M:Nat→Nat→Bool} {s:St} {v:Nat→AVal} {nw:Nat→List (Nat×Blk)} {ι0:Inj} {w0:World}
def Wr(ops:Array Oper)(n:Nat)(s:St)(v:Nat→AVal)(nw:Nat→List (Nat×Blk)):St:=⟨X4 s.env (Z9 ops) v n,WU s.heap nw (fun _=>true) n,s.nx+n*RR⟩
theorem LI{Mv:Nat→Bool}(pl:Plan ops n M Mv):∀k l t,k<l→l<n→Z9 ops k=some t→Z9 ops l≠some t:=by
 intro k l t hkl hln hk
 have hlsz:l<ops.size:=Nat.lt_of_lt_of_le hln pl.le
 have hk':ops[k]?=some (ops[k]'(by omega)):=Array.getElem?_eq_getElem _
 have hl':ops[l]?=some (ops[l]'hlsz):=Array.getElem?_eq_getElem _
 have e1:Z9 ops k=(ops[k]'(by omega)).dst:=by simp[Z9,hk']
 have e2:Z9 ops l=(ops[l]'hlsz).dst:=by simp[Z9,hl']
 rw[e1]at hk
 rw[e2]
 exact pl.dsts k l _ _ t hk' hl' hkl hln hk
theorem ME[Syms]{Mv:Nat→Bool}(pl:Plan ops n M Mv)(hS:RelH ι0 s.heap w0∧XB ι0 s.nx w0){D:Nat→Prop}{ι:Inj}{a:Act}{w:World}(hI:DInv N ops n M s v nw ι0 w0 D ι a w)(hall:∀k,k<n→D k):
 RelS N ι (Wr ops n s v nw) a w∧StepN ι0 s.heap s.nx w0 ι (Wr ops n s v nw).heap (Wr ops n s v nw).nx w:=by
 have hb:∀m L,ι m=some L→m<s.nx+n*RR∧L.g<w.heap.size:=by
  intro m L hm
  obtain⟨h1,h2⟩:=hI.ids m L hm
  refine⟨?_,h1⟩
  rcases h2 with h2|⟨k,hk,_,hown⟩
  ·have:=(hS.2 m L h2).1;omega
  ·unfold Wu at hown
   have:(k+1)*RR≤n*RR:=Nat.mul_le_mul_right _ (by omega)
   omega
 refine⟨⟨hI.defers,hI.size,fun t=>?_,⟨fun m b hm=>?_,fun m m' b b' L L' h1 h2 h3 h4 h5=>?_,fun g cs hg=>⟨(hI.fz g cs hg).2.1,fun ho=>?_⟩⟩,hb⟩,⟨⟨hI.le,hI.os,hI.tape,hI.output,hI.hsize,fun g hg _=>hI.same g hg,fun g hg=>?_,fun g cs hg=>(hI.fz g cs hg).1.elim .inl (fun h=>.inr (.inl h))⟩,by simp[Wr],fun m L hm=>?_⟩⟩
 ·by_cases hex:∃k,k<n∧Z9 ops k=some t
  ·obtain⟨k,hk,hd⟩:=hex
   have hval:(X4 s.env (Z9 ops) v n).get t=v k:=by
    have:=KI (env0:=s.env) (dst:=fun q=>if q<n then Z9 ops q else none) (v:=v) (i:=n) (k:=k) (t:=t) (fun k l t hkl hk=>by
     by_cases hl:l<n
     ·have hk2:k<n:=by omega
      simp only[hk2,if_true]at hk
      simp only[hl,if_true]
      exact LI pl k l t hkl hl hk
     ·simp[hl]) hk (by simp[hk,hd])
    rw[←this]
    have heq:∀j,j≤n→X4 s.env (Z9 ops) v j=X4 s.env (fun q=>if q<n then Z9 ops q else none) v j:=by
     intro j
     induction j with
     |zero=>intro _;rfl
     |succ j ih=>intro hj;simp only[X4];rw[ih (by omega)];rw[if_pos (by omega)]
    rw[heq n (Nat.le_refl _)]
   show RelV ι ((X4 s.env (Z9 ops) v n).get t) _
   rw[hval]
   exact(hI.hit k t hk (hall k hk) hd).mono (UW _ _)
  ·have hno:∀k,k<n→Z9 ops k≠some t:=fun k h1 h2=>hex ⟨k,h1,h2⟩
   show RelV ι ((X4 s.env (Z9 ops) v n).get t) _
   rw[Um hno]
   exact(hI.miss t (fun k hk _=>hno k hk)).mono hI.le
 ·rcases Ya n m b hm with h1|⟨k,h1,_,h3⟩
  ·obtain⟨L,hL,hB⟩:=hS.1.blk m b h1
   exact⟨L,hI.le.1 m L hL,hB.keep hI.le (hI.same _ (hS.2 m L hL).2)⟩
  ·obtain⟨L,hL,_,hB⟩:=hI.made k m b h1 (hall k h1) h3
   exact⟨L,hL,hB.keep (UW _ _) rfl⟩
 ·rcases Ya n m b h1 with g1|⟨k,g1,_,g3⟩
  ·obtain⟨X,hX,_⟩:=hS.1.blk m b g1
   obtain rfl:X=L:=by have:=hI.le.1 m X hX;rw[h3]at this;exact(Option.some.inj this).symm
   have hXg:=(hS.2 m X hX).2
   rcases Ya n m' b' h2 with g1'|⟨k',g1',_,g3'⟩
   ·obtain⟨X',hX',_⟩:=hS.1.blk m' b' g1'
    obtain rfl:X'=L':=by have:=hI.le.1 m' X' hX';rw[h4]at this;exact(Option.some.inj this).symm
    exact hS.1.inj m m' b b' X X' g1 g1' hX hX' h5
   ·obtain⟨Y,hY,hYg,_⟩:=hI.made k' m' b' g1' (hall k' g1') g3'
    rw[h4]at hY
    cases hY
    omega
  ·obtain⟨Y,hY,hYg,_⟩:=hI.made k m b g1 (hall k g1) g3
   rw[h3]at hY
   cases hY
   rcases Ya n m' b' h2 with g1'|⟨k',g1',_,g3'⟩
   ·obtain⟨X',hX',_⟩:=hS.1.blk m' b' g1'
    obtain rfl:X'=L':=by have:=hI.le.1 m' X' hX';rw[h4]at this;exact(Option.some.inj this).symm
    have hXg:=(hS.2 m' X' hX').2
    omega
   ·exact .inl (hI.apart k k' m m' b b' L L' g1 g1' (hall k g1) (hall k' g1') g3 g3' h3 h4 h5)
 ·obtain⟨m,b,L,h1,h2,h3,h4⟩:=ho
  rcases Ya n m b h1 with g1|⟨k,g1,_,g3⟩
  ·obtain⟨X,hX,_⟩:=hS.1.blk m b g1
   obtain rfl:X=L:=by have:=hI.le.1 m X hX;rw[h3]at this;exact(Option.some.inj this).symm
   rcases(hI.fz g cs hg).1 with hz|hz
   ·exact(hS.1.fz g cs hz).2 ⟨m,b,X,g1,h2,hX,h4⟩
   ·have:=(hS.2 m X hX).2
    omega
  ·exact(hI.fz g cs hg).2.2 k m b L g1 (hall k g1) g3 h3 h4
 ·obtain⟨m,b,L,h1,h2,h3,h4⟩:=hg
  rcases Ya n m b h1 with g1|⟨k,g1,_,g3⟩
  ·obtain⟨X,hX,_⟩:=hS.1.blk m b g1
   obtain rfl:X=L:=by have:=hI.le.1 m X hX;rw[h3]at this;exact(Option.some.inj this).symm
   exact .inl ⟨m,b,X,g1,h2,hX,h4⟩
  ·obtain⟨Y,hY,hYg,_⟩:=hI.made k m b g1 (hall k g1) g3
   rw[h3]at hY
   cases hY
   exact .inr (by omega)
 ·rcases(hI.ids m L hm).2 with h|⟨k,_,_,hown⟩
  ·exact .inl h
  ·right
   unfold Wu at hown
   omega
def Lst(listed:Array Bool)(k:Nat):Prop:=listed.getD k false=true
structure Cl(ops:Array Oper)(listed:Array Bool):Prop where
 size:listed.size=ops.size
 closed:∀k o,ops[k]?=some o→Lst listed k→ ∀e∈o.after,Region.binds .any e=true→Lst listed e.on
theorem Ir{Mv:Nat→Bool}(pl:Plan ops n M Mv){listed:Array Bool}(hc:Cl ops listed)(hmv:∀k,Mv k=true→Lst listed k):∀i k,Lst listed i→M i k=true→Lst listed k:=by
 intro i
 induction i using Nat.strongRecOn with
 |_ i ih=>
  intro k hi hm
  rcases pl.by_ i k hm with hv|⟨o,ho,e,he,hb,hor⟩
  ·exact hmv k hv
  have hl:=hc.closed i o ho hi e he hb
  rcases hor with rfl|h
  ·exact hl
  ·exact ih e.on (pl.edge i o ho e he hb).1 k hl h
theorem Yq{listed:Array Bool}{i k:Nat}(hi:i<listed.size):Lst (listed.setIfInBounds i true) k↔Lst listed k∨k=i:=by
 unfold Lst
 by_cases h:i=k
 ·subst h
  simp[hi]
 ·rw[getD_set_ne false h]
  have:¬k=i:=fun e=>h e.symm
  simp[this]
def left(listed:Array Bool):Nat:=listed.toList.count false
theorem Ge{listed:Array Bool}{i:Nat}(hi:listed.getD i true=false):left (listed.setIfInBounds i true)+1=left listed∧i<listed.size:=by
 have hlt:i<listed.size:=by
  rcases Nat.lt_or_ge i listed.size with h|h
  ·exact h
  ·simp[Array.getElem?_eq_none h]at hi
 have hv:listed.toList[i]'(by simpa using hlt)=false:=by simpa[hlt]using hi
 refine⟨?_,hlt⟩
 unfold left
 rw[Array.toList_setIfInBounds,List.count_set (by simpa using hlt)]
 rw[hv]
 have hpos:0<listed.toList.count false:=List.count_pos_iff.2 (by rw[←hv];exact List.getElem_mem _)
 rw[show(false == false)=true from rfl,show(true == false)=false from rfl,if_pos rfl,if_neg (by simp)]
 omega
theorem E4{listed:Array Bool}(h:left listed=0)(k:Nat)(hk:k<listed.size):Lst listed k:=by
 have:¬false∈listed.toList:=List.count_eq_zero.1 h
 unfold Lst
 have hv:listed.getD k false=listed[k]:=by simp[hk]
 rw[hv]
 cases hb:listed[k]with
 |true=>rfl
 |false=>exact absurd (by rw[←hb];exact Array.mem_toList_iff.2 (Array.getElem_mem hk)) this
theorem C1{listed:Array Bool}{k:Nat}(hk:k<listed.size)(h:¬Lst listed k):listed.getD k true=false:=by
 unfold Lst at h
 simp[hk]at h ⊢
 exact h
theorem Bv[Syms]{Mv:Nat→Bool}(pl:Plan ops n M Mv){listed:Array Bool}(hc:Cl ops listed)(hr:Region.ready .any ops listed=[]):∀k,k<ops.size→Lst listed k:=by
 intro k
 induction k using Nat.strongRecOn with
 |_ k ih=>
  intro hk
  rcases Classical.em (Lst listed k)with h|h
  ·exact h
  ·have ho:ops[k]?=some (ops[k]'hk):=Array.getElem?_eq_getElem _
   have:k∈Region.ready .any ops listed:=mem_ready.2 ⟨C1 (by rw[hc.size];exact hk) h,_,ho,fun e he hb=>by
    have:=(pl.edge k _ ho e he hb).1
    exact ih e.on this (by omega)⟩
   rw[hr]at this
   cases this
structure Drawn[Syms](P:Program)(N:Nat)(ops:Array Oper)(n:Nat)(M:Nat→Nat→Bool)(s:St)(v:Nat→AVal)(nw:Nat→List (Nat×Blk))(s':St)(Mv:Nat→Bool):Prop where
 plan:Plan ops n M Mv
 dst:∀i o,ops[i]?=some o→i<n→X9 N o.dst=true
 news:∀k,k<n→ ∀id b,(id,b)∈nw k→Wu s.nx k id
 calm:∀i o,ops[i]?=some o→i<n→ZL P N ops o ((X4 s.env (Z9 ops) v i).only (o.looksAt ops)) (WU s.heap nw (M i) i) (s.nx+i*RR) (v i) (nw i)
 tail:VG P N ops (ops.toList.drop n) (Wr ops n s v nw) s'
theorem Ih[Syms]{s':St}{Mv:Nat→Bool}{Q:Exit→Act→World→Prop}(hd:Drawn P N ops n M s v nw s' Mv)(hS:RelH ι0 s.heap w0∧XB ι0 s.nx w0)
 (hQ:∀κ a' w',RelS N κ s' a' w'→StepN ι0 s.heap s.nx w0 κ s'.heap s'.nx w'→Q .normal a' w'):∀(fuel:Nat) (listed:Array Bool) (a:Act) (w:World) (ι:Inj),Cl ops listed→(∀k,Mv k=true→Lst listed k)→left listed≤fuel→
 (((∀k,Lst listed k→k<n)∧DInv N ops n M s v nw ι0 w0 (Lst listed) ι a w)∨
   ∃j sj,n≤j∧(∀k,k<ops.size→(Lst listed k↔k<j))∧VG P N ops (ops.toList.drop j) sj s'∧RelS N ι sj a w∧StepN ι0 s.heap s.nx w0 ι sj.heap sj.nx w)→
 wpAny P .any ops Q fuel listed a w:=by
 have pl:=hd.plan
 -- all listed:the end
 have fin:∀(listed:Array Bool) (a:Act) (w:World) (ι:Inj),(∀k,k<ops.size→Lst listed k)→
  (((∀k,Lst listed k→k<n)∧DInv N ops n M s v nw ι0 w0 (Lst listed) ι a w)∨
  ∃j sj,n≤j∧(∀k,k<ops.size→(Lst listed k↔k<j))∧VG P N ops (ops.toList.drop j) sj s'∧RelS N ι sj a w∧StepN ι0 s.heap s.nx w0 ι sj.heap sj.nx w)→Q .normal a w:=by
  intro listed a w ι hall hst
  rcases hst with⟨h1,h2⟩|⟨j,sj,h1,h2,h3,h4,h5⟩
  ·have hn:ops.size≤n:=by
    rcases Nat.lt_or_ge n ops.size with h|h
    ·exact absurd (h1 n (hall n h)) (Nat.lt_irrefl _)
    ·exact h
   obtain⟨g1,g2⟩:=ME pl hS h2 (fun k hk=>hall k (Nat.lt_of_lt_of_le hk pl.le))
   have ht:=hd.tail
   rw[List.drop_of_length_le (by simpa using hn)]at ht
   have ht:Wr ops n s v nw=s':=ht
   rw[ht]at g1 g2
   exact hQ ι a w g1 g2
  ·have hj:ops.size≤j:=by
    rcases Nat.lt_or_ge j ops.size with h|h
    ·exact absurd ((h2 j h).1 (hall j h)) (Nat.lt_irrefl _)
    ·exact h
   rw[List.drop_of_length_le (by simpa using hj)]at h3
   have h3:sj=s':=h3
   subst h3
   exact hQ ι a w h4 h5
 intro fuel
 induction fuel with
 |zero=>
  intro listed a w ι hc hmv hf hst
  have hall:∀k,k<ops.size→Lst listed k:=fun k hk=>E4 (by omega) k (by rw[hc.size];exact hk)
  refine⟨?_,fin listed a w ι hall hst⟩
  cases hr:Region.ready .any ops listed with
  |nil=>rfl
  |cons x xs=>
   have hx:x∈Region.ready .any ops listed:=by rw[hr];exact List.mem_cons_self ..
   obtain⟨h1,o,ho,_⟩:=mem_ready.1 hx
   have hxs:x<ops.size:=(Array.getElem?_eq_some_iff.1 ho).1
   have:=hall x hxs
   unfold Lst at this
   have hxl:x<listed.size:=by rw[hc.size];exact hxs
   simp[hxl]at this h1
   rw[this]at h1
   cases h1
 |succ fuel ih=>
  intro listed a w ι hc hmv hf hst
  refine⟨fun hr=>fin listed a w ι (Bv pl hc hr) hst,fun i hir=>?_⟩
  obtain⟨hun,o,ho,hedges⟩:=mem_ready.1 hir
  have hisz:i<ops.size:=(Array.getElem?_eq_some_iff.1 ho).1
  obtain⟨hleft,hilt⟩:=Ge hun
  have hnl:¬Lst listed i:=by
   unfold Lst
   simp[hilt]at hun ⊢
   exact hun
  have hpre:∀k,M i k=true→Lst listed k:=by
   intro k hm
   rcases pl.by_ i k hm with hv|⟨o',ho',e,he,hb,hor⟩
   ·exact hmv k hv
   rw[ho]at ho'
   cases ho'
   have hl:=hedges e he hb
   rcases hor with rfl|h
   ·exact hl
   ·exact Ir pl hc hmv e.on k hl h
  have hpost:∀k,M k i=true→ ¬Lst listed k:=fun k hm hl=>hnl (Ir pl hc hmv k i hl hm)
  have hc':Cl ops (listed.setIfInBounds i true):=by
   refine⟨by simp[hc.size],fun k p hp hl e he hb=>?_⟩
   rw[Yq hilt]at hl ⊢
   rcases hl with hl|rfl
   ·exact .inl (hc.closed k p hp hl e he hb)
   ·rw[ho]at hp
    cases hp
    exact .inl (hedges e he hb)
  have hmv':∀k,Mv k=true→Lst (listed.setIfInBounds i true) k:=fun k hk=>(Yq hilt).2 (.inl (hmv k hk))
  have tailStep:∀(j:Nat) (sj:St),n≤j→(∀k,k<ops.size→(Lst listed k↔k<j))→VG P N ops (ops.toList.drop j) sj s'→RelS N ι sj a w→StepN ι0 s.heap s.nx w0 ι sj.heap sj.nx w→n≤i→
   wpOp P ops Q i (wpAny P .any ops Q fuel (listed.setIfInBounds i true)) a w:=by
   intro j sj hj hlist hch hRS hSt hni
   have hij:i=j:=by
    have h1:¬i<j:=fun h=>hnl ((hlist i hisz).2 h)
    have h2:¬j<i:=by
     intro h
     have:=hpre j (pl.tail i j hni hisz h)
     exact absurd ((hlist j (by omega)).1 this) (Nat.lt_irrefl _)
    omega
   subst hij
   have hdrop:ops.toList.drop i=o::ops.toList.drop (i+1):=by
    have hv:ops.toList[i]'(by simpa using hisz)=o:=by
     have:=Array.getElem?_eq_some_iff.1 ho
     simpa using this.2
    rw[List.drop_eq_getElem_cons (by simpa using hisz),hv]
   rw[hdrop]at hch
   obtain⟨s1,hop,hch'⟩:=hch
   unfold wpOp
   rw[ho]
   refine hop ι a w _ Q hRS (fun κ a' w' hRS' hSt'=>?_)
   refine ih _ a' w' κ hc' hmv' (by omega) (.inr ⟨i+1,s1,by omega,fun k hk=>?_,hch',hRS',hSt.trans hSt'⟩)
   rw[Yq hilt,hlist k hk]
   omega
  rcases hst with⟨h1,h2⟩|⟨j,sj,h1,h2,h3,h4,h5⟩
  ·by_cases hin:i<n
   ·unfold wpOp
    rw[ho]
    refine MD pl hS h2 ho hin hnl hpre hpost (hd.dst i o ho hin) hd.news (hd.calm i o ho hin) (fun κ a' w' hI=>?_)
    refine ih _ a' w' κ hc' hmv' (by omega) (.inl ⟨fun k hk=>?_,?_⟩)
    ·rw[Yq hilt]at hk
     rcases hk with hk|rfl
     ·exact h1 k hk
     ·exact hin
    ·have:(fun k=>Lst listed k∨k=i)=Lst (listed.setIfInBounds i true):=funext fun k=>propext (Yq hilt).symm
     rw[←this]
     exact hI
   ·have hall:∀k,k<n→Lst listed k:=fun k hk=>hpre k (pl.tail i k (by omega) hisz (by omega))
    obtain⟨g1,g2⟩:=ME pl hS h2 hall
    exact tailStep n _ (Nat.le_refl _) (fun k hk=>⟨h1 k,hall k⟩) hd.tail g1 g2 (by omega)
  ·have hin:n≤i:=by
    rcases Nat.lt_or_ge i n with h|h
    ·exact absurd ((h2 i hisz).2 (by omega)) hnl
    ·exact h
   exact tailStep j sj h1 h2 h3 h4 h5 hin
theorem Mp:∀(l:List Nat) (listed:Array Bool),l.Nodup→(∀i∈l,listed.getD i true=false)→l.length≤left listed
 |[],_,_,_=>Nat.zero_le _
 |i::l,listed,hnd,h=>by
  obtain⟨hleft,hilt⟩:=Ge (h i (List.mem_cons_self ..))
  have:=Mp l (listed.setIfInBounds i true) (List.nodup_cons.1 hnd).2 (fun j hj=>by
   rw[getD_set_ne true (fun e=>by subst e;exact(List.nodup_cons.1 hnd).1 hj)]
   exact h j (List.mem_cons_of_mem _ hj))
  rw[List.length_cons]
  omega
def FF(ops:Array Oper)(i:Nat):Prop:=
 ∃o x,ops[i]?=some o∧(o.op= .move x∨o.op= .assign x)∧o.guard=none∧(∀e∈o.after,Region.binds .any e=false)∧
  ∀j oj,ops[j]?=some oj→j≠i→(∀e∈oj.after,Region.binds .any e=true→e.on≠i)→o.apart ops oj=true
theorem Hl[Syms]{Mv:Nat→Bool}(pl:Plan ops n M Mv)(hS:RelH ι0 s.heap w0∧XB ι0 s.nx w0){D:Nat→Prop}{ι:Inj}{a:Act}{w:World}(hI:DInv N ops n M s v nw ι0 w0 D ι a w){i:Nat}{o:Oper}(ho:ops[i]?=some o)(hi:i<n)(hiD:¬D i)
 (hpre:∀k,M i k=true→D k) (hpost:∀k,M k i=true→ ¬D k) (hdst:X9 N o.dst=true)
 (hnw:∀k,k<n→ ∀id b,(id,b)∈nw k→Wu s.nx k id)
 (hc:ZL P N ops o ((X4 s.env (Z9 ops) v i).only (o.looksAt ops)) (WU s.heap nw (M i) i) (s.nx+i*RR) (v i) (nw i))
 (hw:Region.wanted o (yielded ops a.tmps)=true) {u:Value} (hu:(execOp a.eval o).run P w= .ok (.value u) w):
 ∃κ,DInv N ops n M s v nw ι0 w0 (fun k=>D k∨k=i) κ (a.put o.dst u) w:=by
 have:=MD pl hS hI ho hi hiD hpre hpost hdst hnw hc (K:=fun a' w'=>∃κ,DInv N ops n M s v nw ι0 w0 (fun k=>D k∨k=i) κ a' w') (Q:=fun _ _ _=>False) (fun κ a' w' h=>⟨κ,h⟩)
 rw[hw]at this
 simp only[if_true]at this
 rcases this with h|⟨_,a',w',h⟩
 ·unfold Oper.wp at h
  rw[hu]at h
  exact h
 ·exact h.elim
theorem MC[Syms]{s':St}{Mv:Nat→Bool}{Q:Exit→Act→World→Prop}(hd:Drawn P N ops n M s v nw s' Mv)(hS:RelH ι0 s.heap w0∧XB ι0 s.nx w0)(hQ:∀c a w,¬Q (.panic c) a w):
 ∀(l:List Nat),l.Nodup→(∀i∈l,FF ops i∧i<n∧(∀k,M i k=false))→ ∀(fuel:Nat) (listed:Array Bool) (a:Act) (w:World) (ι:Inj),Cl ops listed→(∀i∈l,¬Lst listed i)→(∀i∈l,∀k,Lst listed k→M k i=false)→
  (∀i∈l,∀j∈l,M i j=false)→
  DInv N ops n M s v nw ι0 w0 (Lst listed) ι a w→
  (∀(listed':Array Bool) (a':Act) (κ:Inj),Cl ops listed'→left listed'+l.length=left listed→(∀k,Lst listed' k↔Lst listed k∨k∈l)→DInv N ops n M s v nw ι0 w0 (Lst listed') κ a' w→wpAny P .any ops Q fuel listed' a' w)→
  wpAny P .any ops Q (fuel+l.length) listed a w
 |[],_,_,fuel,listed,a,w,ι,hc,_,_,_,hI,hK=>hK listed a ι hc rfl (fun k=>by simp) hI
 |i::l,hnd,hl,fuel,listed,a,w,ι,hc,hnl,hlm,hmm,hI,hK=>by
  obtain⟨⟨o,x,ho,hop,hg,haf,hap⟩,hin,hM⟩:=hl i (List.mem_cons_self ..)
  have hisz:i<ops.size:=(Array.getElem?_eq_some_iff.1 ho).1
  have hunl:=C1 (listed:=listed) (k:=i) (by rw[hc.size];exact hisz) (hnl i (List.mem_cons_self ..))
  obtain⟨hleft,hilt⟩:=Ge hunl
  have hw:Region.wanted o (yielded ops a.tmps)=true:=by simp[Region.wanted,hg]
  have hu:∀w,(execOp a.eval o).run P w= .ok (.value (a.eval x)) w:=by
   intro w
   unfold execOp
   rcases hop with hop|hop<;>simp[hop,Sem.run_bind,Sem.run_pure,Result.andThen_ok]
  have hready:i∈Region.ready .any ops listed:=mem_ready.2 ⟨hunl,o,ho,fun e he hb=>by rw[haf e he]at hb;cases hb⟩
  have hsel:=hd.plan.sel
  obtain⟨κ,hI'⟩:=Hl hd.plan hS hI ho hin (hnl i (List.mem_cons_self ..)) (fun k hk=>by rw[hM k]at hk;cases hk) (fun k hk hkl=>by rw[hlm i (List.mem_cons_self ..) k hkl]at hk;cases hk) (hd.dst i o ho hin) hd.news (hd.calm i o ho hin) hw (hu w)
  have hfun:(fun k=>Lst listed k∨k=i)=Lst (listed.setIfInBounds i true):=funext fun k=>propext (Yq hilt).symm
  rw[hfun]at hI'
  have hc':Cl ops (listed.setIfInBounds i true):=by
   refine⟨by simp[hc.size],fun k p hp hl e he hb=>?_⟩
   rw[Yq hilt]at hl ⊢
   rcases hl with hl|rfl
   ·exact .inl (hc.closed k p hp hl e he hb)
   ·rw[ho]at hp
    cases hp
    rw[haf e he]at hb
    cases hb
  rw[List.length_cons,←Nat.add_assoc]
  refine wpAny_first ho hsel (fun c a w h=>(hQ _ _ _ h).elim) (fuel+l.length) listed a w (fun j oj hj hne _ hed=>hap j oj hj hne hed) hready (.inl ⟨hw,hu⟩) ?_
  refine MC hd hS hQ l (List.nodup_cons.1 hnd).2 (fun j hj=>hl j (List.mem_cons_of_mem _ hj)) fuel _ _ w κ hc' (fun j hj h=>?_) (fun j hj k hk=>?_) (fun j hj k hk=>hmm j (List.mem_cons_of_mem _ hj) k (List.mem_cons_of_mem _ hk)) hI' (fun listed' a' μ hcl hle hli hI''=>hK listed' a' μ hcl (by rw[List.length_cons];omega) (fun k=>by rw[hli k,Yq hilt];simp[or_assoc]) hI'')
  ·rw[Yq hilt]at h
   rcases h with h|rfl
   ·exact hnl j (List.mem_cons_of_mem _ hj) h
   ·exact(List.nodup_cons.1 hnd).1 hj
  ·rw[Yq hilt]at hk
   rcases hk with hk|rfl
   ·exact hlm j (List.mem_cons_of_mem _ hj) k hk
   ·exact hmm k (List.mem_cons_self ..) j (List.mem_cons_of_mem _ hj)
theorem Fm[Syms]{s':St}{Mv:Nat→Bool}{Q:Exit→Act→World→Prop}{id:Nat}{a:Act}{w:World}{ι:Inj}(hm:P.follows .mixedOrders=true)(hd:Drawn P N ops n M s v nw s' Mv){l:List Nat}(hlv:∀k,Mv k=true→k∈l)(hnd:l.Nodup)(hl:∀i∈l,FF ops i∧i<n∧(∀k,M i k=false))(hS:RelS N ι s a w)
 (hQ:∀κ a' w',RelS N κ s' a' w'→StepN ι s.heap s.nx w κ s'.heap s'.nx w'→Q .normal a' w'):(Code.region id ops true).wp P Q a w:=by
 refine Code.wp_mono (Q:=fun e a w=>e= .normal∧Q e a w) (fun _ _ _ h=>h.2) ?_
 refine wp_region_any hm ?_
 have hH:RelH ι s.heap {w with drawn:=w.drawn+1}:=⟨fun n b hb=>let⟨L,h1,h2⟩:=hS.heap.blk n b hb;⟨L,h1,h2.keep (Inj.le_refl ι) rfl⟩,hS.heap.inj,hS.heap.fz⟩
 have hst:StepN ι s.heap s.nx w ι s.heap s.nx {w with drawn:=w.drawn+1}:=⟨Step.drew ι s.heap w _,Nat.le_refl _,fun _ _ h=>.inl h⟩
 have no:∀k,¬Lst (Array.replicate ops.size false) k:=by
  intro k h
  unfold Lst at h
  rcases Nat.lt_or_ge k ops.size with h'|h'
  ·simp[h']at h
  ·simp[h']at h
 have hlen:l.length≤ops.size:=by
  have hlt:∀i∈l,i<ops.size:=fun i hi=>let⟨⟨o,_,ho,_⟩,_⟩:=hl i hi;(Array.getElem?_eq_some_iff.1 ho).1
  have:=Mp l (Array.replicate ops.size false) hnd (fun i hi=>by simp[hlt i hi])
  simpa[left]using this
 have key:=MC (Q:=fun e a w=>e= .normal∧Q e a w) (w0:={w with drawn:=w.drawn+1}) hd ⟨hH,hS.bound⟩ (fun c a w h=>by cases h.1) l hnd hl (ops.size-l.length) (Array.replicate ops.size false) a {w with drawn:=w.drawn+1} ι ⟨by simp,fun k o ho h=>absurd h (no k)⟩ (fun i _=>no i) (fun i _ k hk=>absurd hk (no k))
  (fun i hi j _=>(hl i hi).2.2 j)
  ⟨hS.defers,hS.size,Inj.le_refl ι,fun m L hm=>⟨(hS.bound m L hm).2,.inl hm⟩,rfl,rfl,rfl,Nat.le_refl _,fun _ _=>rfl,fun t _=>hS.env t,fun k t _ h=>absurd h (no k),fun k id b _ h=>absurd h (no k),fun k k' id id' b b' L L' _ _ h=>absurd h (no k),fun g cs hg=>⟨.inl hg,(hS.heap.fz g cs hg).1,fun k id b L _ h=>absurd h (no k)⟩⟩
  (fun listed' a' κ hcl hle hli hI=>?_)
 ·rw[show ops.size-l.length+l.length=ops.size by omega]at key
  exact key
 ·refine Ih (w0:={w with drawn:=w.drawn+1}) hd ⟨hH,hS.bound⟩ (fun κ a' w' h1 h2=>⟨rfl,hQ κ a' w' h1 (hst.trans h2)⟩) _ _ a' _ κ hcl (fun k hk=>(hli k).2 (.inr (hlv k hk))) ?_ (.inl ⟨fun k h=>?_,hI⟩)
  ·have:left (Array.replicate ops.size false)=ops.size:=by simp[left]
   omega
  ·rcases(hli k).1 h with h|h
   ·exact absurd h (no k)
   ·exact(hl k h).2.1
end
end Go.Av
end
end
section
set_option linter.unusedVariables false
set_option linter.unusedSimpArgs false
noncomputable section
namespace Go.Av
mutual
def AVal.ren(ρ:Nat→Nat):AVal→AVal
 | .ptr n k j=>.ptr (ρ n) k j
 | .slice n off len sz cap=>.slice (ρ n) off len sz cap
 | .obj n=>.obj (ρ n)
 | .tagp n t=>.tagp (ρ n) t
 | .tnils=>.tnils
 | .tslice n len sz t=>.tslice (ρ n) len sz t
 | .agg cs=>.agg (AVal.renL ρ cs)
 | .tup cs=>.tup (AVal.renL ρ cs)
 | .func f cs=>.func f (AVal.renL ρ cs)
 | .iface t v=>.iface t (v.ren ρ)
 | .any=>.any
 | .bool b=>.bool b
 | .int k n=>.int k n
 | .str s=>.str s
 | .nilp=>.nilp
 | .nils=>.nils
 | .nilf=>.nilf
 | .nili=>.nili
 | .sym n=>.sym n
 | .vs sz rows=>.vs sz rows
 | .vp row j=>.vp row j
 | .zs sz=>.zs sz
 | .vt sz n f=>.vt sz n f
def AVal.renL(ρ:Nat→Nat):List AVal→List AVal
 |[]=>[]
 |x::l=>x.ren ρ::AVal.renL ρ l
end
theorem Xr(ρ:Nat→Nat):∀l:List AVal,AVal.renL ρ l=l.map (AVal.ren ρ)
 |[]=>by simp only[AVal.renL,List.map_nil]
 |x::l=>by simp only[AVal.renL,List.map_cons,Xr ρ l]
def Blk.ren(ρ:Nat→Nat):Blk→Blk
 | .cells rows ro=>.cells (rows.map (AVal.renL ρ)) ro
 | .iter s p=>.iter s p
theorem Blk.ren_ro(ρ:Nat→Nat)(b:Blk):(b.ren ρ).ro=b.ro:=by cases b<;>rfl
structure Inj.via(ρ:Nat→Nat)(ι κ:Inj):Prop where
 loc:∀n L,ι n=some L→κ (ρ n)=some L
 fz:∀g cs,ι.fz g=some cs→κ.fz g=some cs
theorem Inj.via.bare{ρ:Nat→Nat}{ι κ:Inj}(h:Inj.via ρ ι κ):ι.bare.le κ.bare:=⟨fun _ _ h=>(nomatch h),h.fz⟩
theorem RelV.ren[Syms]{ρ:Nat→Nat}{ι κ:Inj}(hv:Inj.via ρ ι κ){x:AVal}{v:Value}(h:RelV ι x v):RelV κ (x.ren ρ) v:=by
 induction h generalizing κ with
 |any v=>simp only[AVal.ren];exact .any v
 |bool b=>simp only[AVal.ren];exact .bool b
 |int k n=>simp only[AVal.ren];exact .int k n
 |str s=>simp only[AVal.ren];exact .str s
 |nilp=>simp only[AVal.ren];exact .nilp
 |ptr n k j L h=>simp only[AVal.ren];exact .ptr _ k j L (hv.loc _ _ h)
 |nils=>simp only[AVal.ren];exact .nils
 |slice n off len sz cap L a c h hs ha hl hp hm hc=>simp only[AVal.ren];exact .slice _ off len sz cap L a c (hv.loc _ _ h) hs ha hl hp hm hc
 |agg cs vs hl h ih=>
  simp only[AVal.ren,Xr]
  refine .agg _ vs (by simpa using hl) fun i c v h1 h2=>?_
  rw[List.getElem?_map,Option.map_eq_some_iff]at h1
  obtain⟨x,hx,rfl⟩:=h1
  exact ih i x v hx h2 hv
 |tup cs vs hl h ih=>
  simp only[AVal.ren,Xr]
  refine .tup _ vs (by simpa using hl) fun i c v h1 h2=>?_
  rw[List.getElem?_map,Option.map_eq_some_iff]at h1
  obtain⟨x,hx,rfl⟩:=h1
  exact ih i x v hx h2 hv
 |func f cs vs hf hl h ih=>
  simp only[AVal.ren,Xr]
  refine .func f _ vs hf (by simpa using hl) fun i c v h1 h2=>?_
  rw[List.getElem?_map,Option.map_eq_some_iff]at h1
  obtain⟨x,hx,rfl⟩:=h1
  exact ih i x v hx h2 hv
 |bfunc f cs vs hl h ih=>
  simp only[AVal.ren,Xr]
  refine .bfunc f _ vs (by simpa using hl) fun i c v h1 h2=>?_
  rw[List.getElem?_map,Option.map_eq_some_iff]at h1
  obtain⟨x,hx,rfl⟩:=h1
  exact ih i x v hx h2 hv
 |nilf=>simp only[AVal.ren];exact .nilf
 |nili=>simp only[AVal.ren];exact .nili
 |iface t x v h ih=>simp only[AVal.ren];exact .iface t _ v (ih hv)
 |obj n L h=>simp only[AVal.ren];exact .obj _ L (hv.loc _ _ h)
 |tagp n t L h ht=>simp only[AVal.ren];exact .tagp _ t L (hv.loc _ _ h) ht
 |tnils=>simp only[AVal.ren];exact .tnils
 |tslice n len sz t L c h hs ht hl hp hm=>simp only[AVal.ren];exact .tslice _ len sz t L c (hv.loc _ _ h) hs ht hl hp hm
 |sym n=>simp only[AVal.ren];exact .sym n
 |vs sz rows g o c cs hf hl hm hp hr h1 h ih=>simp only[AVal.ren];exact .vs sz rows g o c cs (hv.fz _ _ hf) hl hm hp hr h1 fun k j row x v a b d=>(h k j row x v a b d).mono hv.bare
 |vp row j g b cs hf hp h1 h ih=>simp only[AVal.ren];exact .vp row j g b cs (hv.fz _ _ hf) hp h1 fun i x v a b=>(h i x v a b).mono hv.bare
 |zs sz a=>simp only[AVal.ren];exact .zs sz a
 |vz sz a c hm hc=>simp only[AVal.ren];exact .vz sz a c hm hc
 |vt sz n f v h ih=>simp only[AVal.ren]at ih ⊢;exact .vt sz n f v (ih hv)
def Inj.pull(ι:Inj)(ρ:Nat→Nat):Inj:=⟨fun n=>ι (ρ n),ι.fz⟩
theorem RelV.unren[Syms]{ρ:Nat→Nat}{ι:Inj}{y:AVal}{v:Value}(h:RelV ι y v):∀x:AVal,y=x.ren ρ→RelV (ι.pull ρ) x v:=by
 induction h with
 |any v=>intro x hx;cases x<;>simp only[AVal.ren]at hx<;>cases hx;exact .any v
 |bool b=>intro x hx;cases x<;>simp only[AVal.ren]at hx<;>cases hx;exact .bool b
 |int k n=>intro x hx;cases x<;>simp only[AVal.ren]at hx<;>cases hx;exact .int k n
 |str s=>intro x hx;cases x<;>simp only[AVal.ren]at hx<;>cases hx;exact .str s
 |nilp=>intro x hx;cases x<;>simp only[AVal.ren]at hx<;>cases hx;exact .nilp
 |ptr n k j L h=>intro x hx;cases x<;>simp only[AVal.ren]at hx<;>cases hx;exact .ptr _ k j L h
 |nils=>intro x hx;cases x<;>simp only[AVal.ren]at hx<;>cases hx;exact .nils
 |slice n off len sz cap L a c h hs ha hl hp hm hc=>intro x hx;cases x<;>simp only[AVal.ren]at hx<;>cases hx;exact .slice _ off len sz cap L a c h hs ha hl hp hm hc
 |agg cs vs hl h ih=>
  intro x hx;cases x<;>simp only[AVal.ren]at hx<;>cases hx
  simp only[Xr]at hl ih
  exact .agg _ vs (by simpa using hl) fun i c v h1 h2=>ih i (c.ren ρ) v (by rw[List.getElem?_map,h1];rfl) h2 c rfl
 |tup cs vs hl h ih=>
  intro x hx;cases x<;>simp only[AVal.ren]at hx<;>cases hx
  simp only[Xr]at hl ih
  exact .tup _ vs (by simpa using hl) fun i c v h1 h2=>ih i (c.ren ρ) v (by rw[List.getElem?_map,h1];rfl) h2 c rfl
 |func f cs vs hf hl h ih=>
  intro x hx;cases x<;>simp only[AVal.ren]at hx<;>cases hx
  simp only[Xr]at hl ih
  exact .func f _ vs hf (by simpa using hl) fun i c v h1 h2=>ih i (c.ren ρ) v (by rw[List.getElem?_map,h1];rfl) h2 c rfl
 |bfunc f cs vs hl h ih=>
  intro x hx;cases x<;>simp only[AVal.ren]at hx<;>cases hx
  simp only[Xr]at hl ih
  exact .bfunc f _ vs (by simpa using hl) fun i c v h1 h2=>ih i (c.ren ρ) v (by rw[List.getElem?_map,h1];rfl) h2 c rfl
 |nilf=>intro x hx;cases x<;>simp only[AVal.ren]at hx<;>cases hx;exact .nilf
 |nili=>intro x hx;cases x<;>simp only[AVal.ren]at hx<;>cases hx;exact .nili
 |iface t y v h ih=>intro x hx;cases x<;>simp only[AVal.ren]at hx<;>cases hx;exact .iface t _ v (ih _ rfl)
 |obj n L h=>intro x hx;cases x<;>simp only[AVal.ren]at hx<;>cases hx;exact .obj _ L h
 |tagp n t L h ht=>intro x hx;cases x<;>simp only[AVal.ren]at hx<;>cases hx;exact .tagp _ t L h ht
 |tnils=>intro x hx;cases x<;>simp only[AVal.ren]at hx<;>cases hx;exact .tnils
 |tslice n len sz t L c h hs ht hl hp hm=>intro x hx;cases x<;>simp only[AVal.ren]at hx<;>cases hx;exact .tslice _ len sz t L c h hs ht hl hp hm
 |sym n=>intro x hx;cases x<;>simp only[AVal.ren]at hx<;>cases hx;exact .sym n
 |vs sz rows g o c cs hf hl hm hp hr h1 h ih=>intro x hx;cases x<;>simp only[AVal.ren]at hx<;>cases hx;exact .vs sz rows g o c cs hf hl hm hp hr h1 h
 |vp row j g b cs hf hp h1 h ih=>intro x hx;cases x<;>simp only[AVal.ren]at hx<;>cases hx;exact .vp row j g b cs hf hp h1 h
 |zs sz a=>intro x hx;cases x<;>simp only[AVal.ren]at hx<;>cases hx;exact .zs sz a
 |vz sz a c hm hc=>intro x hx;cases x<;>simp only[AVal.ren]at hx<;>cases hx;exact .vz sz a c hm hc
 |vt sz n f v h ih=>intro x hx;cases x<;>simp only[AVal.ren]at hx<;>cases hx;exact .vt sz n f v (ih (.vs _ _) (by simp only[AVal.ren]))
theorem Zv.ren[Syms]{ρ:Nat→Nat}{ι κ:Inj}(hv:Inj.via ρ ι κ){w:World}{L:Loc}{b:Blk}(h:Zv ι w L b):Zv κ w L (b.ren ρ):=by
 cases b with
 |iter s p=>exact h
 |cells rows ro=>
  obtain⟨cs,e,fz,h1,h2,h3,h4,h5⟩:=h.rows
  refine Zv.mk h1 h2 (by simpa using h3) (fun k row hr=>?_) h5 (h.ty h1)
  rw[List.getElem?_map,Option.map_eq_some_iff]at hr
  obtain⟨r,hr,rfl⟩:=hr
  obtain⟨g1,g2⟩:=h4 k r hr
  rw[Xr]
  refine⟨by simpa using g1,fun j x hx=>?_⟩
  rw[List.getElem?_map,Option.map_eq_some_iff]at hx
  obtain⟨y,hy,rfl⟩:=hx
  obtain⟨v,v1,v2,v3⟩:=g2 j y hy
  exact⟨v,v1,v2,v3.ren hv⟩
theorem Zv.unren[Syms]{ρ:Nat→Nat}{ι:Inj}{w:World}{L:Loc}{b:Blk}(h:Zv ι w L (b.ren ρ)):Zv (ι.pull ρ) w L b:=by
 cases b with
 |iter s p=>exact h
 |cells rows ro=>
  obtain⟨cs,e,fz,h1,h2,h3,h4,h5⟩:=h.rows
  refine Zv.mk h1 h2 (by simpa using h3) (fun k row hr=>?_) h5 (h.ty h1)
  obtain⟨g1,g2⟩:=h4 k (AVal.renL ρ row) (by rw[List.getElem?_map,hr];rfl)
  rw[Xr]at g1 g2
  refine⟨by simpa using g1,fun j x hx=>?_⟩
  obtain⟨v,v1,v2,v3⟩:=g2 j (x.ren ρ) (by rw[List.getElem?_map,hx];rfl)
  exact⟨v,v1,v2,v3.unren x rfl⟩
mutual
def AVal.nums:AVal→List Nat
 | .ptr n _ _=>[n]
 | .slice n _ _ _ _=>[n]
 | .obj n=>[n]
 | .agg cs=>AVal.numsL cs
 | .tup cs=>AVal.numsL cs
 | .func _ cs=>AVal.numsL cs
 | .iface _ v=>v.nums
 |_=>[]
def AVal.numsL:List AVal→List Nat
 |[]=>[]
 |x::l=>x.nums++AVal.numsL l
end
def Blk.nums:Blk→List Nat
 | .cells rows _=>(rows.map AVal.numsL).flatten
 | .iter _ _=>[]
end Go.Av
end
end
section
set_option linter.unusedVariables false
set_option linter.unusedSimpArgs false
noncomputable section
namespace Go.Av
def NM(acc:List Nat)(o:Oper):Nat:=
 o.after.toList.foldl (fun s e=>if Region.binds .any e then s ||| 2^e.on ||| acc.getD e.on 0 else s) 0
def Cd:List Nat→List Oper→List Nat
 |acc,[]=>acc
 |acc,o::l=>Cd (acc++[NM acc o]) l
def Pt(ops:Array Oper):List Nat:=Cd [] ops.toList
def Yh(p:Nat→Bool):Nat→Bool
 |0=>true
 |n+1=>p n&&Yh p n
theorem ZD{p:Nat→Bool}:∀{n:Nat},Yh p n=true→ ∀k,k<n→p k=true
 |n+1,h,k,hk=>by
  simp only[Yh,Bool.and_eq_true]at h
  rcases Nat.lt_succ_iff_lt_or_eq.1 hk with h'|rfl
  ·exact ZD h.2 k h'
  ·exact h.1
def Df:Op→Bool
 | .select _ _=>true
 |_=>false
def C5(ops:Array Oper)(i:Nat):Bool:=
 match ops[i]? with
 |some o=>(match o.op with| .move _| .assign _=>true|_=>false)&&o.guard.isNone&&o.after.toList.all (fun e=>!Region.binds .any e)&&
  Yh (fun j=>Nat.beq j i||(match ops[j]? with
   |some oj=>oj.after.toList.any (fun e=>Region.binds .any e&&Nat.beq e.on i)||o.apart ops oj
   |none=>true)) ops.size
 |none=>false
def V2(ops:Array Oper):Nat→List Nat
 |0=>[]
 |i+1=>if C5 ops i then i::V2 ops i else V2 ops i
theorem UI(ops:Array Oper):∀(n:Nat),(V2 ops n).Nodup∧ ∀i∈V2 ops n,i<n∧C5 ops i=true
 |0=>⟨List.nodup_nil,by simp[V2]⟩
 |n+1=>by
  obtain⟨h1,h2⟩:=UI ops n
  unfold V2
  split
  ·rename_i h
   refine⟨List.nodup_cons.2 ⟨fun hin=>Nat.lt_irrefl _ (h2 n hin).1,h1⟩,fun i hi=>?_⟩
   rcases List.mem_cons.1 hi with rfl|hi
   ·exact⟨Nat.lt_succ_self _,h⟩
   ·exact⟨Nat.lt_succ_of_lt (h2 i hi).1,(h2 i hi).2⟩
  ·exact⟨h1,fun i hi=>⟨Nat.lt_succ_of_lt (h2 i hi).1,(h2 i hi).2⟩⟩
theorem M3{ops:Array Oper}{i:Nat}(h:C5 ops i=true):FF ops i:=by
 unfold C5 at h
 split at h
 ·rename_i o ho
  simp only[Bool.and_eq_true]at h
  obtain⟨⟨⟨h1,h2⟩,h3⟩,h4⟩:=h
  have hx:∃x,o.op= .move x∨o.op= .assign x:=by
   split at h1
   ·rename_i x hx;exact⟨x,.inl hx⟩
   ·rename_i x hx;exact⟨x,.inr hx⟩
   ·cases h1
  obtain⟨x,hx⟩:=hx
  refine⟨o,x,ho,hx,by simpa using h2,fun e he=>by simpa using List.all_eq_true.1 h3 e (by simpa using he),fun j oj hj hne hed=>?_⟩
  have:=ZD h4 j (Array.getElem?_eq_some_iff.1 hj).1
  rw[hj]at this
  simp only[QL hne,Bool.false_or,Bool.or_eq_true]at this
  rcases this with h|h
  ·obtain⟨e,he,hb⟩:=List.any_eq_true.1 h
   simp only[Bool.and_eq_true]at hb
   exact absurd (Nat.eq_of_beq_eq_true hb.2) (hed e (by simpa using he) hb.1)
  ·exact h
 ·cases h
def F1(ops:Array Oper)(ms:List Nat)(l:List Nat)(n:Nat):Bool:=
 l.all (fun i=>Nat.blt i n&&Nat.beq (ms.getD i 0) 0)&&
 Nat.ble n ops.size&&
 Yh (fun i=>match ops[i]? with
  |some o=>
   !Df o.op&&
   o.after.toList.all (fun e=>!Region.binds .any e||(Nat.blt e.on i&&(ms.getD i 0).testBit e.on))&&
   Yh (fun k=>!(ms.getD i 0).testBit k||
    (Nat.beq (Nat.lor (ms.getD k 0) (ms.getD i 0)) (ms.getD i 0)&&(l.contains k||o.after.toList.any (fun e=>Region.binds .any e&&(Nat.beq e.on k||(ms.getD e.on 0).testBit k))))) i&&
   Nat.blt (ms.getD i 0) (2^i)&&
   (Nat.ble n i||
     Yh (fun k=>Nat.beq k i||(match ops[k]? with
      |some p=>(match p.dst with
       |some d=>!(o.looksAt ops).contains d||(ms.getD i 0).testBit k||(ms.getD k 0).testBit i
       |none=>true)
      |none=>true)) ops.size)&&
   (Nat.ble n i||(match o.dst with
     |some d=>Yh (fun k=>match ops[k]? with
      |some p=>(match p.dst with|some d'=>!Nat.beq d d'|none=>true)
      |none=>true) i
     |none=>true))&&
   (Nat.blt i n||Yh (fun k=>(ms.getD i 0).testBit k) i)
  |none=>true) ops.size&&
 Nat.beq ms.length ops.size
theorem DQ{m i k:Nat}(h:m<2^i)(hb:m.testBit k=true):k<i:=by
 rcases Nat.lt_or_ge k i with h'|h'
 ·exact h'
 ·have:m<2^k:=Nat.lt_of_lt_of_le h (Nat.pow_le_pow_right (by omega) h')
  rw[Nat.testBit_lt_two_pow this]at hb
  cases hb
theorem D1[Syms]{ops:Array Oper}{ms l:List Nat}{n:Nat}(h:F1 ops ms l n=true):Plan ops n (fun i k=>(ms.getD i 0).testBit k) (fun k=>l.contains k)∧ ∀i∈l,i<n∧ms.getD i 0=0:=by
 simp only[F1,Bool.and_eq_true]at h
 obtain⟨⟨⟨hl,h0⟩,h1⟩,h2⟩:=h
 refine⟨?_,fun i hi=>by
  have:=List.all_eq_true.1 hl i hi
  simp only[Bool.and_eq_true,Nat.blt_eq]at this
  exact⟨this.1,Nat.eq_of_beq_eq_true this.2⟩⟩
 have hlen:ms.length=ops.size:=Nat.eq_of_beq_eq_true h2
 have at_:∀i o,ops[i]?=some o→_:=fun i o ho=>by
  have hi:i<ops.size:=(Array.getElem?_eq_some_iff.1 ho).1
  have:=ZD h1 i hi
  rw[ho]at this
  simp only[Bool.and_eq_true]at this
  exact this
 have sz:∀i k,(ms.getD i 0).testBit k=true→i<ops.size:=by
  intro i k hb
  rcases Nat.lt_or_ge i ops.size with h'|h'
  ·exact h'
  ·rw[List.getD_eq_getElem?_getD,List.getElem?_eq_none (by omega)]at hb
   simp at hb
 have lt:∀i k,(ms.getD i 0).testBit k=true→k<i:=by
  intro i k hb
  obtain⟨⟨⟨⟨⟨⟨_,_⟩,_⟩,h3⟩,_⟩,_⟩,_⟩:=at_ i _ (Array.getElem?_eq_getElem (sz i k hb))
  exact DQ (by simpa[Nat.blt_eq]using h3) hb
 refine⟨by simpa using h0,fun j o cs b ho hs=>?_,fun i o ho e he hb=>?_,fun i k l hik hkl=>?_,lt,fun i k hik=>?_,fun i k o p d ho hp hin hki hd hl=>?_,fun i k o p d ho hp hik hkn hd hd'=>?_,fun t k hnt htsz hkt=>?_⟩
 ·obtain⟨⟨⟨⟨⟨⟨h3,_⟩,_⟩,_⟩,_⟩,_⟩,_⟩:=at_ j o ho
  rw[hs]at h3
  simp[Df]at h3
 ·obtain⟨⟨⟨⟨⟨⟨_,h3⟩,_⟩,_⟩,_⟩,_⟩,_⟩:=at_ i o ho
  have:=List.all_eq_true.1 h3 e (by simpa using he)
  rw[hb]at this
  simpa[Nat.blt_eq]using this
 ·have hki:=lt i k hik
  obtain⟨⟨⟨⟨⟨⟨_,_⟩,h3⟩,_⟩,_⟩,_⟩,_⟩:=at_ i _ (Array.getElem?_eq_getElem (sz i k hik))
  have:=ZD h3 k hki
  rw[hik]at this
  simp only[Bool.not_true,Bool.false_or,Bool.and_eq_true]at this
  have heq:=Nat.eq_of_beq_eq_true this.1
  rw[←heq,show Nat.lor (ms.getD k 0) (ms.getD i 0)=ms.getD k 0 ||| ms.getD i 0 from rfl,Nat.testBit_or,hkl]
  rfl
 ·have hki:=lt i k hik
  obtain⟨⟨⟨⟨⟨⟨_,_⟩,h3⟩,_⟩,_⟩,_⟩,_⟩:=at_ i _ (Array.getElem?_eq_getElem (sz i k hik))
  have:=ZD h3 k hki
  rw[hik]at this
  simp only[Bool.not_true,Bool.false_or,Bool.and_eq_true]at this
  rcases Bool.or_eq_true _ _▸this.2 with hlk|hlk
  ·exact .inl hlk
  right
  obtain⟨e,he,hb⟩:=List.any_eq_true.1 hlk
  simp only[Bool.and_eq_true,Bool.or_eq_true]at hb
  refine⟨_,Array.getElem?_eq_getElem (sz i k hik),e,by simpa using he,hb.1,?_⟩
  rcases hb.2 with h|h
  ·exact .inl (Nat.eq_of_beq_eq_true h)
  ·exact .inr h
 ·obtain⟨⟨⟨⟨⟨⟨_,_⟩,_⟩,_⟩,h3⟩,_⟩,_⟩:=at_ i o ho
  rw[Bool.or_eq_true]at h3
  have h3':=h3.resolve_left (fun h=>absurd (Nat.le_of_ble_eq_true h) (by omega))
  have:=ZD h3' k (Array.getElem?_eq_some_iff.1 hp).1
  simp only[hp,hd,QL hki,Bool.false_or,Bool.or_eq_true,Bool.not_eq_true']at this
  rcases this with(h|h)|h
  ·have:(o.looksAt ops).contains d=true:=by simpa using hl
   rw[this]at h;cases h
  ·exact .inl h
  ·exact .inr h
 ·obtain⟨⟨⟨⟨⟨⟨_,_⟩,_⟩,_⟩,_⟩,h3⟩,_⟩:=at_ k p hp
  rw[Bool.or_eq_true]at h3
  rcases h3 with h|h
  ·exact absurd (Nat.le_of_ble_eq_true h) (by omega)
  ·rw[hd']at h
   simp only at h
   have:=ZD h i hik
   simp only[ho,hd,Nat.beq_refl,Bool.not_true]at this
   cases this
 ·obtain⟨⟨⟨⟨⟨⟨_,_⟩,_⟩,_⟩,_⟩,_⟩,h3⟩:=at_ t _ (Array.getElem?_eq_getElem htsz)
  rw[Bool.or_eq_true]at h3
  rcases h3 with h|h
  ·have:t<n:=by simpa[Nat.blt_eq]using h
   omega
  ·exact ZD h k hkt
def mvs(ops:Array Oper):List Nat:=V2 ops ops.size
abbrev Nr:=FuncId→List AVal→Heap→Nat→Option (AVal×Heap×Nat)
def Nr.ok[Syms](P:Program)(call:Nr):Prop:=∀f args H nx v H' nx',call f args H nx=some (v,H',nx')→Uv P f∧KV P f args H nx v H' nx'
def KN:Op→Option (Operand×Array Operand)
 | .call {callee:=.value fo,args,..}=>some (fo,args)
 |_=>none
theorem VC{o:Op}{fo:Operand}{args:Array Operand}(h:KN o=some (fo,args)):∃argTypes,o= .call {callee:=.value fo,args,argTypes}:=by
 unfold KN at h
 split at h
 ·simp only[Option.some.injEq,Prod.mk.injEq]at h
  obtain⟨rfl,rfl⟩:=h
  exact⟨_,rfl⟩
 ·cases h
def Vp(m:Nat)(H:Heap):List (Nat×Option Blk)→List (Nat×Blk)
 |[]=>[]
 |(k,_)::l=>match Nat.ble m k&&Nat.blt k (m+RR),H.get k with
  |true,some b=>if b.ro then Vp m H l else(k,b)::Vp m H l
  |_,_=>Vp m H l
theorem Y5{m:Nat}{H:Heap}:∀{l:List (Nat×Option Blk)} {id:Nat} {b:Blk},(id,b)∈Vp m H l→H.get id=some b∧b.ro=false∧m≤id∧id<m+RR
 |(k,_)::l,id,b,h=>by
  simp only[Vp]at h
  split at h
  ·rename_i c h1 h2
   split at h
   ·exact Y5 h
   ·rename_i hro
    rcases List.mem_cons.1 h with he|he
    ·cases he
     simp only[Bool.and_eq_true]at h1
     exact⟨h2,by simpa using hro,Nat.le_of_ble_eq_true h1.1,by simpa[Nat.blt_eq]using h1.2⟩
    ·exact Y5 he
  ·exact Y5 h
def AVal.under1(B:Nat):AVal→Bool
 | .ptr n _ _=>Nat.blt n B
 | .slice n _ _ _ _=>Nat.blt n B
 | .obj n=>Nat.blt n B
 | .tagp n _=>Nat.blt n B
 | .tslice n _ _ _=>Nat.blt n B
 | .agg _| .tup _| .func _ _| .iface _ _=>false
 |_=>true
def AVal.under(B:Nat):AVal→Bool
 | .agg cs=>cs.all (AVal.under1 B)
 | .tup cs=>cs.all (AVal.under1 B)
 | .func _ cs=>cs.all (AVal.under1 B)
 |v=>v.under1 B
def Blk.under(B:Nat):Blk→Bool
 | .cells rows _=>rows.all fun r=>r.all (AVal.under B)
 | .iter _ _=>true
def Inj.cutB(B:Nat)(κ:Inj):Inj:=⟨fun n=>if n<B then κ n else none,κ.fz⟩
theorem Inj.cutB_lt{B:Nat}{κ:Inj}{n:Nat}(h:n<B):κ.cutB B n=κ n:=by simp[Inj.cutB,h]
theorem RelV.under1[Syms]{B:Nat}{κ:Inj}{x:AVal}{v:Value}(h:RelV κ x v)(hx:x.under1 B=true):RelV (κ.cutB B) x v:=by
 cases h with
 |any v=>exact .any v
 |bool b=>exact .bool b
 |int k n=>exact .int k n
 |str s=>exact .str s
 |nilp=>exact .nilp
 |ptr n k j L h=>exact .ptr n k j L (by rw[Inj.cutB_lt (by simpa[AVal.under1,Nat.blt_eq]using hx)];exact h)
 |nils=>exact .nils
 |slice n off len sz cap L a c h hs ha hl hp hm hc=>exact .slice n off len sz cap L a c (by rw[Inj.cutB_lt (by simpa[AVal.under1,Nat.blt_eq]using hx)];exact h) hs ha hl hp hm hc
 |vs sz rows g o c cs hf hl hm hp hr h1 h=>exact .vs sz rows g o c cs hf hl hm hp hr h1 h
 |vz sz a c hm hc=>exact .vz sz a c hm hc
 |vt sz n f v h=>
  refine .vt sz n f v ?_
  generalize ZM n f=rows at h ⊢
  cases h with
  |vs _ _ g o c cs hf hl hm hp hr h1 h=>exact .vs _ _ _ _ _ cs hf hl hm hp hr h1 h
  |vz _ a c hm hc=>exact .vz _ a c hm hc
 |vp row j g b cs hf hp h1 h=>exact .vp row j g b cs hf hp h1 h
 |zs sz a=>exact .zs sz a
 |agg cs vs hl h=>cases hx
 |tup cs vs hl h=>cases hx
 |func f cs vs hf hl h=>cases hx
 |bfunc f cs vs hl h=>cases hx
 |nilf=>exact .nilf
 |nili=>exact .nili
 |iface t x v h=>cases hx
 |obj n L h=>exact .obj n L (by rw[Inj.cutB_lt (by simpa[AVal.under1,Nat.blt_eq]using hx)];exact h)
 |tagp n t L h ht=>exact .tagp n t L (by rw[Inj.cutB_lt (by simpa[AVal.under1,Nat.blt_eq]using hx)];exact h) ht
 |tnils=>exact .tnils
 |tslice n len sz t L c h hs ht hl hp hm=>exact .tslice n len sz t L c (by rw[Inj.cutB_lt (by simpa[AVal.under1,Nat.blt_eq]using hx)];exact h) hs ht hl hp hm
 |sym n=>exact .sym n
theorem RelV.under[Syms]{B:Nat}{κ:Inj}{x:AVal}{v:Value}(h:RelV κ x v)(hx:x.under B=true):RelV (κ.cutB B) x v:=by
 cases h with
 |agg cs vs hl h=>exact .agg cs vs hl fun i c v h1 h2=>(h i c v h1 h2).under1 (List.all_eq_true.1 hx c (List.mem_of_getElem? h1))
 |tup cs vs hl h=>exact .tup cs vs hl fun i c v h1 h2=>(h i c v h1 h2).under1 (List.all_eq_true.1 hx c (List.mem_of_getElem? h1))
 |func f cs vs hf hl h=>exact .func f cs vs hf hl fun i c v h1 h2=>(h i c v h1 h2).under1 (List.all_eq_true.1 hx c (List.mem_of_getElem? h1))
 |bfunc f cs vs hl h=>exact .bfunc f cs vs hl fun i c v h1 h2=>(h i c v h1 h2).under1 (List.all_eq_true.1 hx c (List.mem_of_getElem? h1))
 |any v=>exact RelV.under1 (.any v) hx
 |bool b=>exact RelV.under1 (.bool b) hx
 |int k n=>exact RelV.under1 (.int k n) hx
 |str s=>exact RelV.under1 (.str s) hx
 |nilp=>exact RelV.under1 .nilp hx
 |ptr n k j L h=>exact RelV.under1 (.ptr n k j L h) hx
 |nils=>exact RelV.under1 .nils hx
 |slice n off len sz cap L a c h hs ha hl hp hm hc=>exact RelV.under1 (.slice n off len sz cap L a c h hs ha hl hp hm hc) hx
 |nilf=>exact RelV.under1 .nilf hx
 |nili=>exact RelV.under1 .nili hx
 |iface t x v h=>cases hx
 |vs sz rows g o c cs hf hl hm hp hr h1 h=>exact .vs sz rows g o c cs hf hl hm hp hr h1 h
 |vz sz a c hm hc=>exact .vz sz a c hm hc
 |vt sz n f v h=>exact RelV.under1 (.vt sz n f v h) hx
 |vp row j g b cs hf hp h1 h=>exact .vp row j g b cs hf hp h1 h
 |zs sz a=>exact .zs sz a
 |obj n L h=>exact RelV.under1 (.obj n L h) hx
 |tagp n t L h ht=>exact RelV.under1 (.tagp n t L h ht) hx
 |tnils=>exact RelV.under1 .tnils hx
 |tslice n len sz t L c h hs ht hl hp hm=>exact RelV.under1 (.tslice n len sz t L c h hs ht hl hp hm) hx
 |sym n=>exact RelV.under1 (.sym n) hx
theorem Zv.under[Syms]{B:Nat}{κ:Inj}{w:World}{L:Loc}{b:Blk}(h:Zv κ w L b)(hb:b.under B=true):Zv (κ.cutB B) w L b:=by
 cases b with
 |iter s pos=>exact h
 |cells rows ro=>
  obtain⟨cs,e,fz,h1,h2,h3,h4,h5,h6⟩:=h
  refine⟨cs,e,fz,h1,h2,h3,fun k row hk=>⟨(h4 k row hk).1,fun j x hj=>?_⟩,h5,h6⟩
  obtain⟨v,g1,g2,g3⟩:=(h4 k row hk).2 j x hj
  have hr:=List.all_eq_true.1 (List.all_eq_true.1 hb row (List.mem_of_getElem? hk)) x (List.mem_of_getElem? hj)
  exact⟨v,g1,g2,g3.under hr⟩
end Go.Av
end
end
section
set_option linter.unusedVariables false
set_option linter.unusedSimpArgs false
noncomputable section
namespace Go.Av
structure CalmSt where
 vals:List AVal
 nws:List (List (Nat×Blk))
 env:Env
 heap:Heap
def Jl(H0:Heap)(m:Nat):Nat→List (List (Nat×Blk))→Heap
 |_,[]=>H0
 |k,nw::l=>if m.testBit k then Jl (X0 H0 nw) m (k+1) l else Jl H0 m (k+1) l
theorem MT{nw:Nat→List (Nat×Blk)}{p:Nat→Bool}{m:Nat}(hp:∀k,p k=m.testBit k):∀(l:List (List (Nat×Blk))) (k:Nat) (H0 H:Heap),(∀j,j<l.length→l[j]?=some (nw (k+j)))→H=WU H0 nw p k→Jl H m k l=WU H0 nw p (k+l.length)
 |[],k,H0,H,_,h=>by simpa[Jl]using h
 |x::l,k,H0,H,hl,h=>by
  have hx:x=nw k:=by have:=hl 0 (by simp);simpa using this
  have hrest:∀j,j<l.length→l[j]?=some (nw (k+1+j)):=fun j hj=>by
   have:=hl (j+1) (by simpa using hj)
   simpa[Nat.add_assoc,Nat.add_comm 1 j]using this
  simp only[Jl]
  have hstep:WU H0 nw p (k+1)=if m.testBit k then X0 H x else H:=by
   simp only[WU,hp k,←h,hx]
  rw[List.length_cons,show k+(l.length+1)=k+1+l.length by omega]
  by_cases hb:m.testBit k=true
  ·rw[if_pos hb]
   rw[if_pos hb]at hstep
   exact MT hp l (k+1) H0 _ hrest hstep.symm
  ·rw[if_neg hb]
   rw[if_neg hb]at hstep
   exact MT hp l (k+1) H0 _ hrest hstep.symm
theorem MM{tt:TT}{ρ ρ':Operand→AVal}{H:Heap}{m:Nat}(op:Op)(h:∀x∈op.operands,ρ x=ρ' x):aop tt ρ H m op=aop tt ρ' H m op:=by
 have pairs:∀ps:Array (Nat×Operand),(∀x∈ps.map (·.2),ρ x=ρ' x)→(ps.toList.map fun p=>(p.1,ρ p.2))=(ps.toList.map fun p=>(p.1,ρ' p.2)):=fun ps hp=>
  List.map_congr_left fun p hm=>by
   rw[hp p.2 (Array.mem_map.2 ⟨p,by simpa using hm,rfl⟩)]
 have many:∀xs:Array Operand,(∀x∈xs,ρ x=ρ' x)→xs.toList.map ρ=xs.toList.map ρ':=fun xs hp=>List.map_congr_left fun x hx=>hp x (by simpa using hx)
 cases op<;>simp only[Op.operands]at h<;>simp only[aop]
 case build t ps=>rw[pairs ps fun x hx=>h x (by simpa using hx)]
 case buildSlice t n ps=>rw[pairs ps fun x hx=>h x (by simpa using hx)]
 case makeFunc fn first captured=>
  cases fn<;>simp only[aop]
  rw[many captured fun x hx=>h x (by simp[hx]),many first fun x hx=>h x (by simp[hx])]
 case slice t x lo hi mx=>cases lo<;>cases hi<;>cases mx<;>simp_all
 case call c=>
  obtain⟨callee,args,argTypes⟩:=c
  cases callee<;>simp only[aop]
  rw[many args fun x hx=>h x (by simp[Call.operands,hx])]
 case next it b=>cases b<;>simp_all [aop]
 all_goals(first|rfl|(simp_all;done))
theorem US[Syms]{ops:Array Oper}{o:Oper}{env:Env}{x:Operand}(hx:x∈o.op.operands):evE (env.only (o.looksAt ops)) x=evE env x:=by
 cases x with
 |tmp t=>
  show(env.only (o.looksAt ops)).get t=env.get t
  rw[Env.only_get,if_pos]
  have:t∈o.looksAt ops:=List.mem_append_left _ (List.mem_filterMap.2 ⟨.tmp t,by simpa using hx,rfl⟩)
  simpa using this
 |_=>rfl
theorem YN[Syms]{ops:Array Oper}{o:Oper}{env:Env}:Z3 ops (env.only (o.looksAt ops)) o=Z3 ops env o:=by
 unfold Z3
 cases hg:o.guard with
 |none=>rfl
 |some g=>
  obtain⟨j,want⟩:=g
  simp only
  cases hd:(ops[j]?).bind (·.dst)with
  |none=>rfl
  |some d=>
   simp only
   have:d∈o.looksAt ops:=List.mem_append_right _ (by rw[hg];simp[hd])
   rw[Env.only_get,if_pos (by simpa using this)]
def GY(H0:Heap)(m:Nat):List (Nat×List (Nat×Blk))→Heap
 |[]=>H0
 |(k,nw)::l=>if m.testBit k then GY (X0 H0 nw) m l else GY H0 m l
def W1:Nat→List (List (Nat×Blk))→List (Nat×List (Nat×Blk))
 |_,[]=>[]
 |k,[]::l=>W1 (k+1) l
 |k,nw::l=>(k,nw)::W1 (k+1) l
theorem MS{m:Nat}:∀{l:List (List (Nat×Blk))} {k:Nat} {H0:Heap},GY H0 m (W1 k l)=Jl H0 m k l
 |[],_,_=>rfl
 |[]::l,k,H0=>by
  simp only[W1,Jl,X0,List.foldl_nil,ite_self]
  exact MS
 |(x::nw)::l,k,H0=>by
  simp only[W1,Jl,GY]
  split<;>exact MS
theorem Wj(nw:List (Nat×Blk)):∀(l:List (List (Nat×Blk))) (k:Nat),W1 k (l++[nw])=W1 k l++(match nw with|[]=>[]|x::y=>[(k+l.length,x::y)])
 |[],k=>by cases nw<;>simp[W1]
 |[]::l,k=>by
  simp only[List.cons_append,W1,Wj nw l (k+1),List.length_cons]
  rw[show k+1+l.length=k+(l.length+1) by omega]
 |(x::y)::l,k=>by
  simp only[List.cons_append,W1,Wj nw l (k+1),List.length_cons]
  rw[show k+1+l.length=k+(l.length+1) by omega]
end Go.Av
end
end
section
set_option linter.unusedVariables false
set_option linter.unusedSimpArgs false
noncomputable section
namespace Go.Av
abbrev Pj:Nat→Bool:=fun _=>false
def Env.cut(p:Nat→Prop)(e:Env):Env:=by
 classical
 exact e.map fun q=>(q.1,if p q.1 then q.2 else .any)
def Km[Syms](P:Program)(N:Nat)(ops:Array Oper)(o:Oper)(env:Env)(H:Heap)(v:AVal):Prop:=
 ∀(ι:Inj) (m:Nat) (a:Act) (w:World) (K:Act→World→Prop) (Q:Exit→Act→World→Prop),(∀t,RelV ι (env.get t) (a.tmps.getD t undef))→RelH ι (XH H) w→XB ι m w→
  (∀u w',RelV ι v u→StepN ι (XH H) m w ι (XH H) m w'→K (a.put o.dst u) w')→
  if Region.wanted o (yielded ops a.tmps)then o.wp P a w K Q∨(o.asks P a w∧LetsOut Q)else K (a.put o.dst undef) w
section
variable {P:Program} {N:Nat} {ops:Array Oper} {M:Nat→Nat→Bool} {s:St} {v:Nat→AVal} {nw:Nat→List (Nat×Blk)} {ι0:Inj} {w0:World}
structure Drawn2[Syms](P:Program)(N:Nat)(ops:Array Oper)(M:Nat→Nat→Bool)(s:St)(v:Nat→AVal)(nw:Nat→List (Nat×Blk))(tl early:Nat→Bool)(T:Nat→Heap):Prop where
 plan:Plan ops ops.size M Pj
 tlDst:∀t o,ops[t]?=some o→tl t=true→o.dst=none
 tailOrd:∀t u,tl t=true→tl u=true→t<u→u<ops.size→M u t=true
 earlyM:∀k t,k<ops.size→tl k=false→early k=true→tl t=true→t<ops.size→M t k=true
 uses2:∀i k o p d,tl i=true∨early i=false→ops[i]?=some o→ops[k]?=some p→p.dst=some d→d∈o.looksAt ops→M i k=true
 dst:∀i o,ops[i]?=some o→tl i=false→X9 N o.dst=true
 news:∀k id b,(id,b)∈nw k→Wu s.nx k id
 newsLoose:∀k,tl k=true∨early k=false→nw k=[]
 calm:∀i o,ops[i]?=some o→tl i=false→ZL P N ops o ((X4 s.env (Z9 ops) v i).only (o.looksAt ops)) (WU s.heap nw (M i) i) (s.nx+i*RR) (v i) (nw i)
 T0:T 0=WU s.heap nw (fun _=>true) ops.size
 Tcalm:∀i,tl i=false→T (i+1)=T i
 tail:∀t o,ops[t]?=some o→tl t=true→ ∀env':Env,(∀x∈o.looksAt ops,env'.get x=(X4 s.env (Z9 ops) v ops.size).get x)→XU P N ops o ⟨env',T t,s.nx+ops.size*RR+t⟩ ⟨env',T (t+1),s.nx+ops.size*RR+(t+1)⟩
 loose:∀i o,ops[i]?=some o→tl i=false→early i=false→ ∀j,j≤ops.size→ ∀env':Env,(∀x∈o.looksAt ops,env'.get x=(X4 s.env (Z9 ops) v ops.size).get x)→Km P N ops o env' (T j) (v i)
theorem StepN.of_ro[Syms]{ι:Inj}{G:Heap}(H:Heap){m:Nat}{w w':World}(h:StepN ι (XH G) m w ι (XH G) m w'):StepN ι H m w ι H m w'∧ ∀g,g<w.heap.size→w'.heap[g]?=w.heap[g]?:=
 have same:∀g,g<w.heap.size→w'.heap[g]?=w.heap[g]?:=fun g hg=>h.st.same g hg Xv
 ⟨⟨⟨Inj.le_refl ι,h.st.os,h.st.tape,h.st.output,h.st.size,fun g hg _=>same g hg,fun g hg=>.inl hg,fun _ _ h=>.inl h⟩,Nat.le_refl _,fun n L hn=>.inl hn⟩,same⟩
end
end Go.Av
end
end
section
set_option linter.unusedVariables false
set_option linter.unusedSimpArgs false
noncomputable section
namespace Go.Av
theorem CJ[Syms]{G H:Heap}(h:∀n b,G.get n=some b→H.get n=some b):∀n b,(XH G).get n=some b→(XH H).get n=some b:=by
 intro n b hb
 obtain⟨rows,ro,h1,rfl⟩:=W3 hb
 rw[Mc,h n _ h1]
 rfl
theorem RelH.less[Syms]{ι:Inj}{G H:Heap}{w:World}(h:RelH ι (XH H) w)(hs:∀n b,G.get n=some b→H.get n=some b):RelH ι (XH G) w:=h.sub (CJ hs)
theorem ZL.more[Syms]{P:Program}{N:Nat}{ops:Array Oper}{o:Oper}{env:Env}{G H:Heap}{m:Nat}{v:AVal}{news:List (Nat×Blk)}(h:ZL P N ops o env G m v news)(hs:∀n b,G.get n=some b→H.get n=some b):
 ZL P N ops o env H m v news:=fun ι a w K Q hd hN he hH hb hK=>h ι a w K Q hd hN he (hH.less hs) hb hK
theorem V7(s:St):s.ev=evE s.env:=by
 funext x
 cases x<;>rfl
theorem Km.more[Syms]{P:Program}{N:Nat}{ops:Array Oper}{o:Oper}{env:Env}{G H:Heap}{v:AVal}(h:Km P N ops o env G v)(hs:∀n b,G.get n=some b→H.get n=some b):Km P N ops o env H v:=
 fun ι m a w K Q he hH hb hK=>h ι m a w K Q he (hH.less hs) hb (fun u w' hu hst=>hK u w' hu (hst.of_ro (XH H)).1)
end Go.Av
end
end
section
set_option linter.unusedVariables false
set_option linter.unusedSimpArgs false
noncomputable section
namespace Go.Av
def prune(keep:List Nat)(e:Env):Env:=keep.map fun k=>(k,e.get k)
theorem Me[Syms](e:Env):∀(keep:List Nat) (k:Nat),(prune keep e).get k=if keep.contains k then e.get k else .any
 |[],k=>by simp[prune,Env.get_nil,Env.get_cons]
 |x::l,k=>by
  have ih:=Me e l k
  unfold prune at ih ⊢
  simp only[List.map_cons,Env.get_nil,Env.get_cons]
  by_cases h:k=x
  ·subst h
   simp[Nat.beq_refl]
  ·rw[QL h]
   simp only[cond_false]
   rw[ih]
   simp[h]
theorem RelS.prune[Syms]{N:Nat}{ι:Inj}{s:St}{a:Act}{w:World}(h:RelS N ι s a w)(keep:List Nat):RelS N ι ⟨Av.prune keep s.env,s.heap,s.nx⟩ a w:=by
 refine⟨h.defers,h.size,fun k=>?_,h.heap,h.bound⟩
 rw[Me]
 split
 ·exact h.env k
 ·exact .any _
end Go.Av
end
end
section
set_option linter.unusedVariables false
set_option linter.unusedSimpArgs false
noncomputable section
namespace Go.Av
inductive Ex where
 |normal|exit (id:Nat)|goto (l:Nat)|ret
def Ex.out:Ex→Exit
 | .normal=>.normal
 | .exit id=>.exit id
 | .goto l=>.goto l
 | .ret=>.ret
def Ki(P:Program)(c x:Code)(Q:Exit→Act→World→Prop)(a:Act)(w:World):Prop:=
 ∀(b:Frame) (k:List Item) (cs:List Frame),∃e a' w',Q e a' w'∧Arrives P (lone (b.at a (.code x:: .inScope c::k)) cs w) b k cs e a' w'
theorem KW{P:Program}{c:Code}{Q:Exit→Act→World→Prop}{a:Act}{w:World}(h:Ki P c c Q a w):(Code.scope c).wp P Q a w:=
 fun b k cs=>let⟨e,a',w',hq,harr⟩:=h b k cs;⟨e,a',w',hq,.of_steps (.one step_scope) harr⟩
theorem Uc{P:Program}{c x:Code}{Q:Exit→Act→World→Prop}{a:Act}{w:World}
 (h:x.wp P (fun e a w=>(∃l rest,e= .goto l∧findLabel c l=some rest∧Ki P c rest Q a w)∨((∀l,e= .goto l→findLabel c l=none)∧Q e a w)) a w):Ki P c x Q a w:=by
 intro b k cs
 obtain⟨e,a₁,w₁,hq,harr⟩:=h b (.inScope c::k) cs
 rcases hq with⟨l,rest,rfl,hf,hs⟩|⟨hno,hq⟩
 ·have hg:gotoIn l (.inScope c::k)=some (.code rest:: .inScope c::k):=by simp[gotoIn,hf]
  obtain⟨e₂,a₂,w₂,hq₂,harr₂⟩:=hs b k cs
  exact⟨e₂,a₂,w₂,hq₂,.of_steps (harr _ hg) harr₂⟩
 ·cases e with
  |normal=>exact⟨.normal,a₁,w₁,hq,Steps.trans harr (.one step_inScope)⟩
  |exit id=>exact⟨.exit id,a₁,w₁,hq,fun k' hk=>harr k' (by simp[exitTo,hk])⟩
  |goto l=>exact⟨.goto l,a₁,w₁,hq,fun k' hk=>harr k' (by simp[gotoIn,hno l rfl,hk])⟩
  |ret=>exact⟨_,a₁,w₁,hq,harr⟩
  |panic ch=>exact⟨_,a₁,w₁,hq,harr⟩
  |outgrown=>exact⟨_,a₁,w₁,hq,harr⟩
def FG(P:Program)(c:Code)(Q:Exit→Act→World→Prop)(a:Act)(w:World):Prop:=
 ∀(b:Frame) (k:List Item) (cs:List Frame),∃e a' w',Q e a' w'∧Arrives P (lone (b.at a (.code c:: .inLoop c::k)) cs w) b k cs e a' w'
theorem DM{P:Program}{c:Code}{Q:Exit→Act→World→Prop}{a:Act}{w:World}(h:FG P c Q a w):(Code.loop c).wp P Q a w:=
 fun b k cs=>let⟨e,a',w',hq,harr⟩:=h b k cs;⟨e,a',w',hq,.of_steps (.one step_loop) harr⟩
theorem E3{P:Program}{c:Code}{Q:Exit→Act→World→Prop}{a:Act}{w:World}(h:c.wp P (Exit.then (FG P c Q) Q) a w):FG P c Q a w:=by
 intro b k cs
 obtain⟨e,a₁,w₁,hq,harr⟩:=h b (.inLoop c::k) cs
 cases e with
 |normal=>
  obtain⟨e₂,a₂,w₂,hq₂,harr₂⟩:=hq b k cs
  exact⟨e₂,a₂,w₂,hq₂,.of_steps (Steps.trans harr (.one step_inLoop)) harr₂⟩
 |exit id=>exact⟨_,a₁,w₁,hq,.pass (x:=.inLoop c) rfl (fun _ _=>.inl (by simp)) harr⟩
 |goto l=>exact⟨_,a₁,w₁,hq,.pass (x:=.inLoop c) rfl (fun _ _=>.inl (by simp)) harr⟩
 |ret=>exact⟨_,a₁,w₁,hq,.pass (x:=.inLoop c) rfl (fun _ _=>.inl (by simp)) harr⟩
 |panic ch=>exact⟨_,a₁,w₁,hq,.pass (x:=.inLoop c) rfl (fun _ _=>.inl (by simp)) harr⟩
 |outgrown=>exact⟨_,a₁,w₁,hq,.pass (x:=.inLoop c) rfl (fun _ _=>.inl (by simp)) harr⟩
end Go.Av
end
end
section
set_option linter.unusedVariables false
set_option linter.unusedSimpArgs false
noncomputable section
namespace Go.Av
structure FnA where
 code:Code
 keep:List Nat
 n:Nat
 res:List ResultVar
abbrev FT:=FuncId→Option FnA
def FT.ok (P : Program) (ft : FT) : Prop := ∀ f a, ft f = some a → ∃ fn, P.funcs[f]? = some fn ∧ fn.body = some a.code ∧ fn.ntmps = a.n ∧ fn.results.toList = a.res ∧ (fn.name == "runtime.NumGoroutine") = false
def L7(tt:TT)(s:St):ResultVar→Option AVal
 | .tmp t=>some (s.env.get t)
 | .cell a t=>Ka tt s.heap t (s.env.get a)
def FQ(tt:TT)(s:St):List ResultVar→Option (List AVal)
 |[]=>some []
 |r::l=>match L7 tt s r,FQ tt s l with
  |some v,some vs=>some (v::vs)
  |_,_=>none
def ZR(tt:TT)(s:St)(l:List ResultVar):Option AVal:=
 match FQ tt s l with
 |some [v]=>some v
 |some vs=>some (.tup vs)
 |none=>none
def Hb(tmps:Array Value):ResultVar→Sem Value
 | .tmp t=>pure (tmps.getD t undef)
 | .cell a t=>do loadVar t (←asAddr (tmps.getD a undef))
theorem B0[Syms]{P:Program}{tt:TT}{N:Nat}{ι:Inj}{s:St}{a:Act}{w:World}(htt:TT.ok P tt)(hS:RelS N ι s a w){r:ResultVar}{v:AVal}(h:L7 tt s r=some v):
 ∃x,RelV ι v x∧(Hb a.tmps r).run P w= .ok x w:=by
 cases r with
 |tmp t=>
  simp only[L7,Option.some.injEq]at h
  subst h
  exact⟨_,hS.env t,by simp[Hb,Sem.run_pure]⟩
 |cell b t=>
  simp only[L7]at h
  obtain⟨x,hx,hr⟩:=Jg htt hS.heap (hS.env b) h
  refine⟨x,hr,?_⟩
  have hp:∃A,a.tmps.getD b undef= .pointer (some A):=by
   have hv:=hS.env b
   unfold Ka at h
   split at h
   ·rename_i n k j hp
    rw[hp]at hv
    obtain⟨L,_,hL⟩:=hv.of_ptr
    exact⟨_,hL⟩
   ·rename_i row j hp
    rw[hp]at hv
    obtain⟨g,b,cs,_,_,_,_,hL⟩:=hv.of_vp
    exact⟨_,hL⟩
   ·cases h
  obtain⟨A,hL⟩:=hp
  simp only[Hb]
  rw[hL]at hx ⊢
  simpa[Instr.loadAt,Instr.sureAddr,asAddr,Sem.run_bind,Sem.run_pure]using hx
theorem J1[Syms]{P:Program}{tt:TT}{N:Nat}{ι:Inj}{s:St}{a:Act}{w:World}(htt:TT.ok P tt)(hS:RelS N ι s a w):∀{l:List ResultVar} {vs:List AVal},FQ tt s l=some vs→
 ∃rs:List Value,QE ι vs rs∧(l.mapM (Hb a.tmps)).run P w= .ok rs w
 |[],vs,h=>by
  cases h
  exact⟨[],.nil ι,by simp[Sem.run_pure]⟩
 |r::l,vs,h=>by
  simp only[FQ]at h
  split at h
  ·rename_i v us h1 h2
   cases h
   obtain⟨rs,e1,e2⟩:=J1 htt hS h2
   obtain⟨x,hx,hrun⟩:=B0 htt hS h1
   refine⟨x::rs,.cons hx e1,?_⟩
   rw[List.mapM_cons]
   simp only[Sem.run_bind,hrun,e2,Result.andThen_ok,Sem.run_pure]
  ·cases h
theorem JU[Syms]{P:Program}{tt:TT}{N:Nat}{ι:Inj}{s:St}{a:Act}{w:World}{fn:Func}{v:AVal}(htt:TT.ok P tt)(hS:RelS N ι s a w)(h:ZR tt s fn.results.toList=some v):
 ∃r,(results fn a.tmps).run P w= .ok r w∧RelV ι v r:=by
 unfold ZR at h
 have base:∀vs,FQ tt s fn.results.toList=some vs→ ∃rs:List Value,QE ι vs rs∧(results fn a.tmps).run P w= .ok (if h:rs.toArray.size=1 then rs.toArray[0]else .tuple rs.toArray) w:=by
  intro vs hvs
  obtain⟨rs,h1,h2⟩:=J1 htt hS hvs
  refine⟨rs,h1,?_⟩
  have:results fn a.tmps=(do let vs←fn.results.mapM (Hb a.tmps);pure (if h:vs.size=1 then vs[0]else .tuple vs)):=rfl
  rw[this,Array.mapM_eq_mapM_toList]
  simp only[map_eq_pure_bind,Sem.run_bind,h2,Result.andThen_ok,Sem.run_pure]
 split at h
 ·rename_i x hx
  cases h
  obtain⟨rs,h1,h2⟩:=base _ hx
  obtain⟨r,rs',rfl,hr,hr'⟩:=h1.uncons
  rw[hr'.unnil]at h2
  exact⟨r,by simpa using h2,hr⟩
 ·rename_i vs hne hx
  cases h
  obtain⟨rs,h1,h2⟩:=base _ hx
  refine⟨_,h2,?_⟩
  have hlen:¬rs.toArray.size=1:=by
   intro hc
   have h1:=h1.1
   have hc:rs.length=1:=by simpa using hc
   rw[hc]at h1
   obtain⟨v,rfl⟩:=List.length_eq_one_iff.1 h1
   exact hne v rfl
  rw[dif_neg hlen]
  exact .mk_tup h1
 ·cases h
def KO:Nat→List AVal→Env
 |_,[]=>[]
 |k,v::l=>(k,v)::KO (k+1) l
theorem GH[Syms]:∀{args:List AVal} {k j:Nat},(KO k args).get j=if k≤j then args.getD (j-k) .any else .any
 |[],k,j=>by simp[KO,Env.get_nil,Env.get_cons]
 |v::l,k,j=>by
  simp only[KO,Env.get_nil,Env.get_cons]
  by_cases h:j=k
  ·subst h;simp[Nat.beq_refl]
  ·rw[QL h]
   simp only[cond_false,GH (args:=l)]
   by_cases hk:k≤j
   ·rw[if_pos (by omega),if_pos hk,show j-k=(j-(k+1))+1 by omega]
    simp
   ·rw[if_neg (by omega),if_neg hk]
theorem FT.ok.fnOk{P:Program}{ft:FT}(h:FT.ok P ft){f:FuncId}{fa:FnA}(hf:ft f=some fa):Uv P f:=by
 obtain⟨fn,h1,h2,h3,h4,h5⟩:=h f fa hf
 exact⟨fn,h1,h5,by simp[h2]⟩
end Go.Av
end
end
section
set_option linter.unusedVariables false
set_option linter.unusedSimpArgs false
noncomputable section
namespace Go.Av
inductive Tr(α:Type) where
 |nil
 |node (l:Tr α) (k:Nat) (v:α) (r:Tr α)
def Tr.find{α:Type}(x:Tr α)(t:Nat):Option α:=@Tr.rec α (fun _=>Option α) none (fun _ k v _ a b=>@Bool.rec (fun _=>Option α) (@Bool.rec (fun _=>Option α) b a (Nat.blt t k)) (some v) (Nat.beq t k)) x
theorem Tr.find_node{α:Type}(l:Tr α)(k:Nat)(v:α)(r:Tr α)(t:Nat):(Tr.node l k v r).find t=bif Nat.beq t k then some v else bif Nat.blt t k then l.find t else r.find t:=by
 show @Bool.rec (fun _=>Option α) (@Bool.rec (fun _=>Option α) (r.find t) (l.find t) (Nat.blt t k)) (some v) (Nat.beq t k)=_
 cases Nat.beq t k<;>cases Nat.blt t k<;>rfl
def Tr.all{α:Type}(p:Nat→α→Bool):Tr α→Bool
 | .nil=>true
 | .node l k v r=>p k v&&l.all p&&r.all p
def Tr.All{α:Type}(p:Nat→α→Prop):Tr α→Prop
 | .nil=>True
 | .node l k v r=>p k v∧l.All p∧r.All p
theorem Tr.find_All[Syms]{α:Type}{p:Nat→α→Prop}:∀{t:Tr α} {n:Nat} {v:α},t.All p→t.find n=some v→p n v
 | .nil,n,v,_,h=>by cases h
 | .node l k u r,n,v,ha,h=>by
   simp only[Tr.find_node]at h
   cases hb:Nat.beq n k with
   |true=>
    rw[hb]at h
    simp only[cond_true,Option.some.injEq]at h
    subst h
    rw[Nat.eq_of_beq_eq_true hb]
    exact ha.1
   |false=>
    rw[hb]at h
    simp only[cond_false]at h
    cases hc:Nat.blt n k with
    |true=>rw[hc]at h;exact Tr.find_All ha.2.1 h
    |false=>rw[hc]at h;exact Tr.find_All ha.2.2 h
theorem Tr.find_all[Syms]{α:Type}{p:Nat→α→Bool}:∀{t:Tr α} {n:Nat} {v:α},t.all p=true→t.find n=some v→p n v=true
 | .nil,n,v,_,h=>by cases h
 | .node l k u r,n,v,ha,h=>by
   simp only[Tr.all,Bool.and_eq_true]at ha
   simp only[Tr.find_node]at h
   cases hb:Nat.beq n k with
   |true=>
    rw[hb]at h
    simp only[cond_true,Option.some.injEq]at h
    subst h
    rw[Nat.eq_of_beq_eq_true hb]
    exact ha.1.1
   |false=>
    rw[hb]at h
    simp only[cond_false]at h
    cases hc:Nat.blt n k with
    |true=>rw[hc]at h;exact Tr.find_all ha.1.2 h
    |false=>rw[hc]at h;exact Tr.find_all ha.2 h
def Qz(t:Tr Ty):TT:=fun n=>t.find n
theorem EK[Syms]{P:Program}{t:Tr Ty}(h:t.all (MU P)=true):TT.ok P (Qz t):=fun _ _ hf=>Tr.find_all h hf
def OL(p:Func×List Nat):FnA:=⟨p.1.body.getD .skip,p.2,p.1.ntmps,p.1.results.toList⟩
def QN(t:Tr (Func×List Nat)):FT:=fun n=>match t.find n with|some p=>some (OL p)|none=>none
def IL (P : Program) (n : Nat) (p : Func × List Nat) : Prop := P.funcs[n]? = some p.1 ∧ p.1.body.isSome = true ∧ (p.1.name == "runtime.NumGoroutine") = false
theorem I8[Syms]{P:Program}{t:Tr (Func×List Nat)}(h:t.All (IL P)):FT.ok P (QN t):=by
 intro f a hf
 unfold QN at hf
 split at hf
 ·rename_i p hp
  cases hf
  obtain⟨h1,h2,h3⟩:=Tr.find_All h hp
  obtain⟨c,hc⟩:=Option.isSome_iff_exists.1 h2
  exact⟨p.1,h1,by simp[OL,hc],rfl,rfl,h3⟩
 ·cases hf
def AVal.closed1:AVal→Bool
 | .bool _| .int _ _| .str _| .nilp| .nils| .nilf| .nili| .sym _=>true
 |_=>false
def AVal.closed:AVal→Bool
 | .agg cs| .tup cs=>cs.all AVal.closed1
 |v=>v.closed1
theorem RelV.closed1[Syms]{ι κ:Inj}{x:AVal}{v:Value}(hx:x.closed1=true)(h:RelV κ x v):RelV ι x v:=by
 cases h<;>simp[AVal.closed1]at hx<;>constructor
theorem QE.closed1[Syms]{ι κ:Inj}{xs:List AVal}{vs:List Value}(hx:xs.all AVal.closed1=true)(h:QE κ xs vs):QE ι xs vs:=
 ⟨h.1,fun i c v h1 h2=>(h.2 i c v h1 h2).closed1 (List.all_eq_true.1 hx c (List.mem_of_getElem? h1))⟩
theorem RelV.closed[Syms]{ι κ:Inj}{x:AVal}{v:Value}(hx:x.closed=true)(h:RelV κ x v):RelV ι x v:=by
 cases x with
 |agg cs=>
  obtain⟨vs,rfl,hl⟩:=h.of_agg
  exact .mk_agg (hl.closed1 hx)
 |tup cs=>
  obtain⟨vs,rfl,hl⟩:=h.of_tup
  exact .mk_tup (hl.closed1 hx)
 |_=>exact h.closed1 hx
end Go.Av
end
end
section
set_option linter.unusedVariables false
set_option linter.unusedSimpArgs false
noncomputable section
namespace Go.Av
open Go.ChangeShapes Go.WideShapes Go.ChangeAt Go.RowKit
section
theorem Step.below{ι κ:Inj}{H':Heap}{w w':World}(h:Step ι [] w κ H' w'):Below w.heap.size w w':=
 ⟨h.os,h.tape,h.output,h.size,fun g hg=>h.same g hg (fun⟨n,b,L,h1,_⟩=>by cases h1)⟩
end
end Go.Av
end
end
