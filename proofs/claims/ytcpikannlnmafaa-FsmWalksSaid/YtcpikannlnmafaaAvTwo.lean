/-
 Regions,code,functions,run over abstract states,are sound;from there to the statement's form. Over every program.
-/
import Derived.Test.YtcpikannlnmafaaAvOne
import Derived.OrdersHeld
import Derived.KernelRfl
import Derived.ProofKit
import Derived.OpenShut
set_option linter.unusedVariables false
set_option linter.unusedSimpArgs false
section
set_option linter.unusedVariables false
set_option linter.unusedSimpArgs false
noncomputable section
namespace Go.Av
theorem J4[Syms]{ι:Inj}{ρ:Operand→AVal}{σ:Operand→Value}(hev:∀x,RelV ι (ρ x) (σ x)):∀l:List Operand,Qs ι (l.map ρ) (l.map σ)
 |[]=>.nil ι
 |x::l=>.cons (hev x) (J4 hev l)
def KN(f:FuncId):FuncId:=bif Nat.ble BND f then f-BND else f
def VV(f:FuncId)(as caps:List AVal):List AVal:=bif Nat.ble BND f then caps++as else as++caps
theorem RelV.of_func[Syms]{ι:Inj}{f:FuncId}{cs:List AVal}{v:Value}(h:RelV ι (.func f cs) v):∃fs vs,v= .func (.func (KN f)) ⟨fs⟩ ⟨vs⟩∧ ∀as us,Qs ι as us→Qs ι (VV f as cs) (fs++us++vs):=by
 cases h with
 |func _ _ vs hf hl h=>exact⟨[],vs,by rw[KN,hf];rfl,fun as us hu=>by rw[VV,hf];exact hu.append ⟨hl,h⟩⟩
 |bfunc f _ vs hl h=>
  have hb:Nat.ble BND (f+BND)=true:=by rw[Nat.ble_eq];exact Nat.le_add_left _ _
  exact⟨vs,[],by rw[KN,hb];simp,fun as us hu=>by rw[VV,hb,List.append_nil];exact Qs.append ⟨hl,h⟩ hu⟩
theorem F0[Syms]{P:Program}{σ:Operand→Value}{o:Oper}{fo:Operand}{args:Array Operand}{argTypes:Array TypeId}{fid:FuncId}{fvs cvs:List Value}{w:World}
 (ho:o.op= .call {callee:=.value fo,args,argTypes}) (hf:σ fo= .func (.func fid) ⟨fvs⟩ ⟨cvs⟩) (hok:UI P fid):
 (execOp σ o).run P w= .ok (.enter fid ⟨fvs++args.toList.map σ++cvs⟩) w:=by
 unfold execOp
 have e:((⟨fvs⟩:Array Value)++args.map σ++(⟨cvs⟩:Array Value))=⟨fvs++args.toList.map σ++cvs⟩:=by apply Array.ext';simp
 simp only[ho,resolve,hf,Deferred.ofValue,Sem.run_bind,Sem.run_pure,Result.andThen_ok,invoke,e,hok.call]
theorem Mo[Syms]{P:Program}{N:Nat}{ops:Array Oper}{o:Oper}{s:St}{fo:Operand}{args:Array Operand}{argTypes:Array TypeId}{fid:FuncId}{caps:List AVal}{v:AVal}{H':Heap}{nx':Nat}
 (hw:Qo ops s.env o=some true) (hd:Z6 N o.dst=true) (ho:o.op= .call {callee:=.value fo,args,argTypes}) (hf:s.ev fo= .func fid caps) (hok:UI P (KN fid))
 (hc:Y6 P (KN fid) (VV fid (args.toList.map s.ev) caps) s.heap s.nx v H' nx'):Xd P N ops o s ⟨s.env.put o.dst v,H',nx'⟩:=by
 intro ι a w K Q hS hK
 rw[Zj hS.env hw]
 simp only[if_true]
 left
 have hfv:=hS.ev fo
 rw[hf]at hfv
 obtain⟨fvs,cvs,hfe,hcl⟩:=hfv.of_func
 unfold Oper.wp
 rw[F0 ho hfe hok]
 simp only[Oper.upon]
 refine(hc ι w _ (hcl _ _ (J4 hS.ev _)) hS.heap hS.bound).mono ?_
 rintro e w' ⟨r,κ,rfl,hv,hH,hst,hb⟩
 obtain⟨h1,h2⟩:=VI hS hst.st.le hd hv
 exact hK κ _ w' ⟨by rw[X6];exact hS.defers,h1,h2,hH,hb⟩ hst
def WQ[Syms](P:Program)(N:Nat)(ops:Array Oper):List Oper→St→St→Prop
 |[],s,s'=>s=s'
 |o::rest,s,s'=>∃s1,Xd P N ops o s s1∧WQ P N ops rest s1 s'
theorem Dk[Syms]{P:Program}{N:Nat}{ops:Array Oper}{Q:Exit→Act→World→Prop}:∀(l:List Oper) (k:Nat) (s s':St) (ι:Inj) (a:Act) (w:World),(∀j,l[j]?=ops[k+j]?)→WQ P N ops l s s'→RelS N ι s a w→
 (∀κ a' w',RelS N κ s' a' w'→StepN ι s.heap s.nx w κ s'.heap s'.nx w'→Q .normal a' w')→wpOps P ops Q (List.range' k l.length) a w
 |[],k,s,s',ι,a,w,_,hc,hS,hQ=>by
  have hc:s=s':=hc
  subst hc
  exact hQ ι a w hS (StepN.refl ι _ _ w)
 |o::l,k,s,s',ι,a,w,hl,hc,hS,hQ=>by
  obtain⟨s1,h1,h2⟩:=hc
  have ho:ops[k]?=some o:=by simpa using(hl 0).symm
  rw[List.length_cons,List.range'_succ]
  simp only[wpOps,ho]
  refine h1 ι a w _ Q hS (fun κ a' w' hS' hst=>?_)
  exact Dk l (k+1) s1 s' κ a' w' (fun j=>by have:=hl (j+1);simpa[Nat.add_assoc,Nat.add_comm 1 j]using this) h2 hS' (fun μ a'' w'' hS'' hst'=>hQ μ a'' w'' hS'' (hst.trans hst'))
theorem B8[Syms]{P:Program}{N:Nat}{id:Nat}{ops:Array Oper}{Q:Exit→Act→World→Prop}{s s':St}{ι:Inj}{a:Act}{w:World}(hc:WQ P N ops ops.toList s s')(hS:RelS N ι s a w)
 (hQ:∀κ a' w',RelS N κ s' a' w'→StepN ι s.heap s.nx w κ s'.heap s'.nx w'→Q .normal a' w'):(Code.region id ops false).wp P Q a w:=by
 refine wp_region ?_
 have:=Dk (Q:=Q) ops.toList 0 s s' ι a w (fun j=>by simp) hc hS hQ
 rwa [List.range_eq_range',←Array.length_toList]
def OR:Option Blk→Option Blk
 |some (.cells rows _)=>some (.cells rows true)
 |_=>none
def ZK:Heap→Heap
 |[]=>[]
 |(k,b)::h=>(k,OR b)::ZK h
theorem FA[Syms](H:Heap)(n:Nat):(ZK H).get n=OR (H.get n):=by
 induction H with
 |nil=>rfl
 |cons x h ih=>
  obtain⟨k,b⟩:=x
  simp only[ZK,Heap.get_nil,Heap.get_cons]
  cases Nat.beq n k
  ·exact ih
  ·rfl
theorem Zt[Syms]{H:Heap}{n:Nat}{b:Blk}(h:(ZK H).get n=some b):∃rows ro,H.get n=some (.cells rows ro)∧b= .cells rows true:=by
 rw[FA]at h
 cases hb:H.get n with
 |none=>rw[hb]at h;cases h
 |some c=>
  rw[hb]at h
  cases c with
  |cells rows ro=>simp only[OR,Option.some.injEq]at h;exact⟨rows,ro,rfl,h.symm⟩
  |iter s p=>cases h
theorem ZQ[Syms]{ι:Inj}{H:Heap}{g:Nat}:¬Own ι (ZK H) g:=by
 rintro⟨n,b,L,h1,h2,_⟩
 obtain⟨rows,ro,_,rfl⟩:=Zt h1
 cases h2
def RR:Nat:=4294967296
structure Calm[Syms](ι:Inj)(w:World)(κ:Inj)(w':World)(m:Nat)(news:List (Nat×Blk)):Prop where
 le:ι.le κ
 os:w'.os=w.os
 tape:w'.tape=w.tape
 output:w'.output=w.output
 size:w.heap.size≤w'.heap.size
 same:∀g,g<w.heap.size→w'.heap[g]?=w.heap[g]?
 made:∀id b,(id,b)∈news→ ∃L,κ id=some L∧w.heap.size≤L.g∧Zf κ w' L b
 apart:∀(id id':Nat) (b b':Blk) (L L':Loc),(id,b)∈news→(id',b')∈news→κ id=some L→κ id'=some L'→L.g=L'.g→id=id'
 only:∀n L,κ n=some L→L.g<w'.heap.size∧(ι n=some L∨(m≤n∧n<m+RR))
 fzs:∀g cs,κ.fz g=some cs→(ι.fz g=some cs∨w.heap.size≤g)∧(∃e z,w'.heap[g]?=some (.cells cs e z))∧ ∀id b L,(id,b)∈news→κ id=some L→L.g≠g
def Env.only(l:List Tmp):Env→Env
 |[]=>[]
 |(k,v)::e=>bif l.contains k then(k,v)::Env.only l e else Env.only l e
theorem Env.only_get[Syms](l:List Tmp):∀(e:Env) (t:Nat),(e.only l).get t=if l.contains t then e.get t else .any
 |[],t=>by simp[Env.only,Env.get_nil,Env.get_cons]
 |(k,v)::e,t=>by
  have ih:=Env.only_get l e t
  simp only[Env.only]
  by_cases hk:l.contains k=true
  ·rw[hk]
   simp only[cond_true,Env.get_nil,Env.get_cons]
   by_cases ht:t=k
   ·subst ht
    rw[Nat.beq_refl,if_pos hk]
    rfl
   ·rw[Qd ht]
    exact ih
  ·have hk':l.contains k=false:=by simpa using hk
   rw[hk']
   simp only[cond_false,Env.get_nil,Env.get_cons]
   by_cases ht:t=k
   ·subst ht
    rw[ih,hk']
    simp
   ·rw[Qd ht]
    exact ih
def Zn[Syms](P:Program)(N:Nat)(ops:Array Oper)(o:Oper)(env:Env)(Hv:Heap)(m:Nat)(v:AVal)(news:List (Nat×Blk)):Prop:=
 ∀(ι:Inj) (a:Act) (w:World) (K:Act→World→Prop) (Q:Exit→Act→World→Prop),a.defers=[]→N≤a.tmps.size→(∀t,RelV ι (env.get t) (a.tmps.getD t undef))→RelH ι (ZK Hv) w→X1 ι m w→
  (∀κ u w',RelV κ v u→Calm ι w κ w' m news→K (a.put o.dst u) w')→
  if Region.wanted o (yielded ops a.tmps)then o.wp P a w K Q∨(o.asks P a w∧LetsOut Q)else K (a.put o.dst undef) w
theorem Dm[Syms]{P:Program}{N:Nat}{ops:Array Oper}{o:Oper}{env:Env}{Hv:Heap}{m:Nat}(hw:Qo ops env o=some false):Zn P N ops o env Hv m undefA []:=by
 intro ι a w K Q hd hN he hH hb hK
 rw[Zj he hw]
 simp only[Bool.false_eq_true,if_false]
 exact hK ι undef w (RelV.undef ι) ⟨Inj.le_refl ι,rfl,rfl,rfl,Nat.le_refl _,fun _ _=>rfl,by simp,by simp,fun n L hn=>⟨(hb n L hn).2,.inl hn⟩,fun g cs hg=>⟨.inl hg,(hH.fz g cs hg).1,by simp⟩⟩
def evE(env:Env):Operand→AVal:=(St.mk env [] 0).ev
theorem KP[Syms]{ι:Inj}{env:Env}{a:Act}(h:∀t,RelV ι (env.get t) (a.tmps.getD t undef))(x:Operand):RelV ι (evE env x) (a.eval x):=by
 cases x with
 |tmp t=>exact h t
 |const v=>exact KT ι v
 |global g=>exact .any _
 |func f=>
  show RelV ι (bif Nat.ble BND f then .any else .func f []) _
  cases hf:Nat.ble BND f with
  |true=>exact .any _
  |false=>exact .func f [] [] hf rfl (by simp)
def Res.news(m:Nat):Res→List (Nat×Blk)
 | .new b _=>[(m,b)]
 |_=>[]
def Res.calm:Res→Bool
 | .upd _ _=>false
 | .new b _=>!b.ro
 |_=>true
theorem MZ[Syms]{P:Program}{tt:TT}(htt:TT.ok P tt){N:Nat}{ops:Array Oper}{o:Oper}{env:Env}{Hv:Heap}{m:Nat}{r:Res}(hw:Qo ops env o=some true)
 (h:aop tt (evE env) (ZK Hv) m o.op=some r) (hr:r.calm=true):Zn P N ops o env Hv m r.v (r.news m):=by
 intro ι a w K Q hd hN he hH hb hK
 rw[Zj he hw]
 simp only[if_true]
 left
 obtain⟨v,w',κ,hrun,hv,hH',hst,hk,hval⟩:=JV (P:=P) htt hH hb.lies (hb.fresh (Nat.le_refl _)) (KP he) h
 have hsame:∀g,g<w.heap.size→w'.heap[g]?=w.heap[g]?:=fun g hg=>hst.same g hg ZQ
 have fin:K (a.put o.dst v) w':=by
  refine hK κ v w' hv ⟨hst.le,hst.os,hst.tape,hst.output,hst.size,hsame,fun id b hin=>?_,fun id id' b b' L L' h1 h2 _ _ _=>?_,fun n L hn=>?_,fun g cs hg=>⟨?_,(hH'.fz g cs hg).1,fun id b L hin hL e=>(hH'.fz g cs hg).2 ?_⟩⟩
  ·cases r with
   |new b0 v0=>
    simp only[Res.news,List.mem_singleton,Prod.mk.injEq]at hin
    obtain⟨rfl,rfl⟩:=hin
    simp only[Res.heap]at hH' hst
    obtain⟨L,hL,hB⟩:=hH'.blk id b (Heap.get_set_same _ _ _)
    refine⟨L,hL,?_,hB⟩
    have hro:b.ro=false:=by simpa[Res.calm]using hr
    rcases hst.own L.g ⟨id,b,L,Heap.get_set_same _ _ _,hro,hL,rfl⟩with h|h
    ·exact absurd h ZQ
    ·exact h
   |_=>simp[Res.news]at hin
  ·cases r with
   |new b0 v0=>
    simp only[Res.news,List.mem_singleton,Prod.mk.injEq]at h1 h2
    rw[h1.1,h2.1]
   |_=>simp[Res.news]at h1
  ·rcases hk n L hn with h2|⟨rfl,h2⟩
   ·exact⟨Nat.lt_of_lt_of_le (hb n L h2).2 hst.size,.inl h2⟩
   ·exact⟨h2,.inr ⟨Nat.le_refl _,by unfold RR;omega⟩⟩
  ·rcases hst.fzs g cs hg with h|h|h
   ·exact .inl h
   ·exact .inr h
   ·exact absurd h ZQ
  ·cases r with
   |new b0 v0=>
    simp only[Res.news,List.mem_singleton,Prod.mk.injEq]at hin
    obtain⟨rfl,rfl⟩:=hin
    exact⟨id,b,L,Heap.get_set_same _ _ _,by simpa[Res.calm]using hr,hL,e⟩
   |_=>simp[Res.news]at hin
 unfold Oper.wp
 rcases hrun with hrun|⟨hrun,rfl⟩
 ·rw[hrun];exact fin
 ·rw[hrun];exact fin
theorem UC[Syms]{P:Program}{N:Nat}{ops:Array Oper}{o:Oper}{env:Env}{Hv:Heap}{m:Nat}{fo:Operand}{args:Array Operand}{argTypes:Array TypeId}{fid:FuncId}{caps:List AVal}{v:AVal}{H':Heap}{nx':Nat}{news:List (Nat×Blk)}
 (hw:Qo ops env o=some true) (ho:o.op= .call {callee:=.value fo,args,argTypes}) (hf:evE env fo= .func fid caps) (hok:UI P (KN fid))
 (hc:Y6 P (KN fid) (VV fid (args.toList.map (evE env)) caps) (ZK Hv) m v H' nx') (hn:nx'≤m+RR) (hnews:∀id b,(id,b)∈news→H'.get id=some b∧b.ro=false):Zn P N ops o env Hv m v news:=by
 intro ι a w K Q hd hN he hH hb hK
 rw[Zj he hw]
 simp only[if_true]
 left
 have hfv:=KP he fo
 rw[hf]at hfv
 obtain⟨fvs,cvs,hfe,hcl⟩:=hfv.of_func
 unfold Oper.wp
 rw[F0 ho hfe hok]
 simp only[Oper.upon]
 refine(hc ι w _ (hcl _ _ (J4 (KP he) _)) hH hb).mono ?_
 rintro e w' ⟨r,κ,rfl,hv,hH',hst,hb'⟩
 have hstn:=hst
 obtain⟨hst,_,hfr⟩:=hst
 refine hK κ r w' hv ⟨hst.le,hst.os,hst.tape,hst.output,hst.size,fun g hg=>hst.same g hg ZQ,fun id b hin=>?_,fun id id' b b' L L' h1 h2 h3 h4 h5=>?_,fun n L hn'=>⟨(hb' n L hn').2,?_⟩,fun g cs hg=>⟨?_,(hH'.fz g cs hg).1,fun id b L hin hL e=>(hH'.fz g cs hg).2 ⟨id,b,L,(hnews id b hin).1,(hnews id b hin).2,hL,e⟩⟩⟩
 ·obtain⟨h1,h2⟩:=hnews id b hin
  obtain⟨L,hL,hB⟩:=hH'.blk id b h1
  refine⟨L,hL,?_,hB⟩
  rcases hst.own L.g ⟨id,b,L,h1,h2,hL,rfl⟩with h|h
  ·exact absurd h ZQ
  ·exact h
 ·obtain⟨g1,g2⟩:=hnews id b h1
  obtain⟨g3,g4⟩:=hnews id' b' h2
  rcases hH'.inj id id' b b' L L' g1 g3 h3 h4 h5 with h|h
  ·exact h
  ·rw[g2]at h;cases h.1
 ·rcases hfr n L hn' with h|h
  ·exact .inl h
  ·exact .inr ⟨h,Nat.lt_of_lt_of_le (hb' n L hn').1 hn⟩
 ·rcases hst.fzs g cs hg with h|h|h
  ·exact .inl h
  ·exact .inr h
  ·exact absurd h ZQ
end Go.Av
end
end
section
set_option linter.unusedVariables false
set_option linter.unusedSimpArgs false
noncomputable section
namespace Go.Av
open Classical in
noncomputable def UH(ι:Inj)(p:Nat→Prop):Inj:=⟨fun n=>if p n then ι n else none,ι.fz⟩
theorem XT{ι:Inj}{p:Nat→Prop}{n:Nat}{L:Loc}:UH ι p n=some L↔p n∧ι n=some L:=by
 unfold UH
 by_cases h:p n<;>simp[h]
theorem HN[Syms]{ι κ:Inj}{p q:Nat→Prop}(h:∀n L,ι n=some L→p n→κ n=some L∧q n)(hz:∀g cs,ι.fz g=some cs→κ.fz g=some cs):(UH ι p).le (UH κ q):=by
 refine⟨fun n L hn=>?_,hz⟩
 rw[XT]at hn ⊢
 exact(h n L hn.2 hn.1).symm
theorem W6[Syms](ι:Inj)(p:Nat→Prop):(UH ι p).le ι:=⟨fun n L h=>(XT.1 h).2,fun _ _ h=>h⟩
def Zm(H:Heap)(l:List (Nat×Blk)):Heap:=l.foldl (fun H p=>H.set p.1 (some p.2)) H
theorem Gs[Syms]:∀(l:List (Nat×Blk)) (H:Heap) (n:Nat) (b:Blk),(Zm H l).get n=some b→H.get n=some b∨(n,b)∈l
 |[],H,n,b,h=>.inl h
 |(k,c)::l,H,n,b,h=>by
  rcases Gs l (H.set k (some c)) n b h with h1|h1
  ·rw[Heap.get_set]at h1
   by_cases e:n=k
   ·subst e;rw[if_pos rfl]at h1;cases h1;exact .inr (List.mem_cons_self ..)
   ·rw[if_neg e]at h1;exact .inl h1
  ·exact .inr (List.mem_cons_of_mem _ h1)
def Y7(H0:Heap)(nw:Nat→List (Nat×Blk))(p:Nat→Bool):Nat→Heap
 |0=>H0
 |i+1=>if p i then Zm (Y7 H0 nw p i) (nw i)else Y7 H0 nw p i
theorem ZB[Syms]{H0:Heap}{nw:Nat→List (Nat×Blk)}{p:Nat→Bool}:∀(i:Nat) (n:Nat) (b:Blk),(Y7 H0 nw p i).get n=some b→H0.get n=some b∨ ∃k,k<i∧p k=true∧(n,b)∈nw k
 |0,n,b,h=>.inl h
 |i+1,n,b,h=>by
  simp only[Y7]at h
  split at h
  ·rename_i hp
   rcases Gs _ _ _ _ h with h1|h1
   ·rcases ZB i n b h1 with h2|⟨k,h2,h3,h4⟩
    ·exact .inl h2
    ·exact .inr ⟨k,by omega,h3,h4⟩
   ·exact .inr ⟨i,by omega,hp,h1⟩
  ·rcases ZB i n b h with h2|⟨k,h2,h3,h4⟩
   ·exact .inl h2
   ·exact .inr ⟨k,by omega,h3,h4⟩
def QA(env0:Env)(dst:Nat→Option Tmp)(v:Nat→AVal):Nat→Env
 |0=>env0
 |i+1=>(QA env0 dst v i).put (dst i) (v i)
theorem Yj[Syms]{env0:Env}{dst:Nat→Option Tmp}{v:Nat→AVal}:∀{i t:Nat},(∀k,k<i→dst k≠some t)→(QA env0 dst v i).get t=env0.get t
 |0,t,_=>rfl
 |i+1,t,h=>by
  have ih:=Yj (env0:=env0) (v:=v) (i:=i) (t:=t) (fun k hk=>h k (by omega))
  simp only[QA]
  cases hd:dst i with
  |none=>exact ih
  |some d=>
   have hne:t≠d:=fun e=>h i (by omega) (by rw[hd,e])
   simp only[Env.put,Env.get_nil,Env.get_cons,Qd hne,cond_false]
   exact ih
theorem UA[Syms]{env0:Env}{dst:Nat→Option Tmp}{v:Nat→AVal}(hd:∀k l t,k<l→dst k=some t→dst l≠some t):∀{i k t:Nat},k<i→dst k=some t→(QA env0 dst v i).get t=v k
 |i+1,k,t,hk,h=>by
  simp only[QA]
  by_cases e:k=i
  ·subst e
   rw[h]
   simp only[Env.put,Env.get_nil,Env.get_cons,Nat.beq_refl,cond_true]
  ·have ih:=UA (env0:=env0) (v:=v) hd (i:=i) (k:=k) (by omega) h
   cases hd':dst i with
   |none=>exact ih
   |some d=>
    have hne:t≠d:=fun e'=>hd k i t (by omega) h (by rw[hd',e'])
    simp only[Env.put,Env.get_nil,Env.get_cons,Qd hne,cond_false]
    exact ih
def W1(nx0 k id:Nat):Prop:=nx0+k*RR≤id∧id<nx0+(k+1)*RR
theorem Mm{nx0 k l id:Nat}(h:W1 nx0 k id)(h':W1 nx0 l id):k=l:=by
 unfold W1 RR at *
 omega
structure Plan(ops:Array Oper)(n:Nat)(M:Nat→Nat→Bool)(Mv:Nat→Bool):Prop where
 le:n≤ops.size
 sel:∀(j:Nat) (o:Oper) cs b,ops[j]?=some o→o.op≠ .select cs b
 edge:∀i o,ops[i]?=some o→ ∀e∈o.after,Region.binds .any e=true→e.on<i∧M i e.on=true
 tr:∀i k l,M i k=true→M k l=true→M i l=true
 lt:∀i k,M i k=true→k<i
 by_:∀i k,M i k=true→Mv k=true∨ ∃o,ops[i]?=some o∧ ∃e∈o.after,Region.binds .any e=true∧(e.on=k∨M e.on k=true)
 uses:∀i k o p d,ops[i]?=some o→ops[k]?=some p→i<n→k≠i→p.dst=some d→d∈o.looksAt ops→M i k=true∨M k i=true
 dsts:∀i k o p d,ops[i]?=some o→ops[k]?=some p→i<k→k<n→o.dst=some d→p.dst≠some d
 tail:∀t k,n≤t→t<ops.size→k<t→M t k=true
def Qh(ops:Array Oper)(k:Nat):Option Tmp:=(ops[k]?).bind (·.dst)
section
variable {P:Program} {N:Nat} {ops:Array Oper} {n:Nat} {M:Nat→Nat→Bool} {s:St} {v:Nat→AVal} {nw:Nat→List (Nat×Blk)} {ι0:Inj} {w0:World}
def M5(nx0:Nat)(M:Nat→Nat→Bool)(i id:Nat):Prop:=id<nx0∨ ∃k,M i k=true∧W1 nx0 k id
def Fv(nx0:Nat)(M:Nat→Nat→Bool)(i id:Nat):Prop:=M5 nx0 M i id∨W1 nx0 i id
structure DInv[Syms](N:Nat)(ops:Array Oper)(n:Nat)(M:Nat→Nat→Bool)(s:St)(v:Nat→AVal)(nw:Nat→List (Nat×Blk))(ι0:Inj)(w0:World)(D:Nat→Prop)(ι:Inj)(a:Act)(w:World):Prop where
 defers:a.defers=[]
 size:N≤a.tmps.size
 le:ι0.le ι
 ids:∀m L,ι m=some L→L.g<w.heap.size∧(ι0 m=some L∨ ∃k,k<n∧D k∧W1 s.nx k m)
 os:w.os=w0.os
 tape:w.tape=w0.tape
 output:w.output=w0.output
 hsize:w0.heap.size≤w.heap.size
 same:∀g,g<w0.heap.size→w.heap[g]?=w0.heap[g]?
 miss:∀t,(∀k,k<n→D k→Qh ops k≠some t)→RelV ι0 (s.env.get t) (a.tmps.getD t undef)
 hit:∀k t,k<n→D k→Qh ops k=some t→RelV (UH ι (Fv s.nx M k)) (v k) (a.tmps.getD t undef)
 made:∀k id b,k<n→D k→(id,b)∈nw k→ ∃L,ι id=some L∧w0.heap.size≤L.g∧Zf (UH ι (Fv s.nx M k)) w L b
 apart:∀(k k' id id':Nat) (b b':Blk) (L L':Loc),k<n→k'<n→D k→D k'→(id,b)∈nw k→(id',b')∈nw k'→ι id=some L→ι id'=some L'→L.g=L'.g→id=id'
 fz:∀g cs,ι.fz g=some cs→(ι0.fz g=some cs∨w0.heap.size≤g)∧(∃e z,w.heap[g]?=some (.cells cs e z))∧ ∀k id b L,k<n→D k→(id,b)∈nw k→ι id=some L→L.g≠g
theorem K1(a:Act){dst:Option Tmp}{t:Nat}{u:Value}(h:dst≠some t):(a.put dst u).tmps.getD t undef=a.tmps.getD t undef:=by
 cases dst with
 |none=>rfl
 |some d=>
  have:d≠t:=fun e=>h (by rw[e])
  simp[Act.put,Array.getElem?_setIfInBounds_ne this]
theorem Mf(a:Act){t:Nat}{u:Value}(h:t<a.tmps.size):(a.put (some t) u).tmps.getD t undef=u:=by
 simp[Act.put,h]
theorem JM[Syms]{Mv:Nat→Bool}(pl:Plan ops n M Mv)(hS:RelH ι0 s.heap w0∧X1 ι0 s.nx w0){D:Nat→Prop}{ι:Inj}{a:Act}{w:World}(hI:DInv N ops n M s v nw ι0 w0 D ι a w){i:Nat}{o:Oper}(ho:ops[i]?=some o)(hi:i<n)(hiD:¬D i)
 (hpre:∀k,M i k=true→D k) (hpost:∀k,M k i=true→ ¬D k) (hdst:Z6 N o.dst=true)
 (hnw:∀k,k<n→ ∀id b,(id,b)∈nw k→W1 s.nx k id)
 (hc:Zn P N ops o ((QA s.env (Qh ops) v i).only (o.looksAt ops)) (Y7 s.heap nw (M i) i) (s.nx+i*RR) (v i) (nw i)) {K:Act→World→Prop} {Q:Exit→Act→World→Prop}
 (hK:∀κ a' w',DInv N ops n M s v nw ι0 w0 (fun k=>D k∨k=i) κ a' w'→K a' w'):
 if Region.wanted o (yielded ops a.tmps)then o.wp P a w K Q∨(o.asks P a w∧LetsOut Q)else K (a.put o.dst undef) w:=by
 have hd:Qh ops i=o.dst:=by simp[Qh,ho]
 have hdd:∀k l t,k<l→l<n→Qh ops k=some t→Qh ops l≠some t:=by
  intro k l t hkl hln hk
  have hlsz:l<ops.size:=Nat.lt_of_lt_of_le hln pl.le
  have hk':ops[k]?=some (ops[k]'(by omega)):=Array.getElem?_eq_getElem _
  have hl':ops[l]?=some (ops[l]'hlsz):=Array.getElem?_eq_getElem _
  have e1:Qh ops k=(ops[k]'(by omega)).dst:=by simp[Qh,hk']
  have e2:Qh ops l=(ops[l]'hlsz).dst:=by simp[Qh,hl']
  rw[e1]at hk
  rw[e2]
  exact pl.dsts k l _ _ t hk' hl' hkl hln hk
 have low:∀m L,ι0 m=some L→m<s.nx:=fun m L h=>(hS.2 m L h).1
 have hle0:ι0.le (UH ι (M5 s.nx M i)):=⟨fun m L h=>XT.2 ⟨.inl (low m L h),hI.le.1 m L h⟩,hI.le.2⟩
 have mono1:∀k,M i k=true→(UH ι (Fv s.nx M k)).le (UH ι (M5 s.nx M i)):=by
  intro k hk
  refine HN (fun m L hm hs=>⟨hm,?_⟩) (fun _ _ h=>h)
  rcases hs with(h1|⟨l,h2,h3⟩)|h1
  ·exact .inl h1
  ·exact .inr ⟨l,pl.tr i k l hk h2,h3⟩
  ·exact .inr ⟨k,hk,h1⟩
 refine hc (UH ι (M5 s.nx M i)) a w K Q hI.defers hI.size (fun t=>?_) ?_ ?_ (fun κ u w' hu hcalm=>?_)
 · -- the slots that it looks at
   rw[Env.only_get]
   split
   ·rename_i hlook
    have hlook:t∈o.looksAt ops:=by simpa using hlook
    by_cases hex:∃k,k<n∧D k∧Qh ops k=some t
    ·obtain⟨k,hkn,hkD,hkd⟩:=hex
     have hki:k≠i:=fun e=>hiD (e▸hkD)
     have hksz:k<ops.size:=Nat.lt_of_lt_of_le hkn pl.le
     have hk':ops[k]?=some (ops[k]'hksz):=Array.getElem?_eq_getElem _
     have hkd':(ops[k]'hksz).dst=some t:=by simpa[Qh,hk']using hkd
     rcases pl.uses i k o _ t ho hk' hi hki hkd' hlook with h|h
     ·have hlt:=pl.lt i k h
      have hval:(QA s.env (Qh ops) v i).get t=v k:=by
       have:=UA (env0:=s.env) (dst:=fun q=>if q<n then Qh ops q else none) (v:=v) (i:=i) (k:=k) (t:=t) (fun k l t hkl hk=>by
        by_cases hl:l<n
        ·have hk2:k<n:=by omega
         simp only[hk2,if_true]at hk
         simp only[hl,if_true]
         exact hdd k l t hkl hl hk
        ·simp[hl]) hlt (by simp[hkn,hkd])
       rw[←this]
       have heq:∀j,j≤n→QA s.env (Qh ops) v j=QA s.env (fun q=>if q<n then Qh ops q else none) v j:=by
        intro j
        induction j with
        |zero=>intro _;rfl
        |succ j ih=>intro hj;simp only[QA];rw[ih (by omega)];rw[if_pos (by omega)]
       rw[heq i (by omega)]
      rw[hval]
      exact(hI.hit k t hkn hkD hkd).mono (mono1 k h)
     ·exact absurd hkD (hpost k h)
    ·have hnone:∀k,k<n→D k→Qh ops k≠some t:=fun k h1 h2 h3=>hex ⟨k,h1,h2,h3⟩
     have hval:(QA s.env (Qh ops) v i).get t=s.env.get t:=by
      refine Yj fun k hk hkd=>?_
      have hksz:k<ops.size:=by have:=pl.le;omega
      have hk':ops[k]?=some (ops[k]'hksz):=Array.getElem?_eq_getElem _
      have hkd':(ops[k]'hksz).dst=some t:=by simpa[Qh,hk']using hkd
      rcases pl.uses i k o _ t ho hk' hi (by omega) hkd' hlook with h|h
      ·exact hnone k (by omega) (hpre k h) hkd
      ·have:=pl.lt k i h;omega
     rw[hval]
     exact(hI.miss t hnone).mono hle0
   ·exact .any _
 · -- the heap that it sees
   refine⟨fun m b hb=>?_,fun m m' b b' L L' h1 h2 _ _ _=>.inr ?_,fun g cs hg=>⟨(hI.fz g cs hg).2.1,ZQ⟩⟩
   ·obtain⟨rows,ro,hb1,rfl⟩:=Zt hb
    have weak:∀{L},Zf (UH ι (M5 s.nx M i)) w L (.cells rows ro)→Zf (UH ι (M5 s.nx M i)) w L (.cells rows true):=by
     intro L hB
     obtain⟨cs,e,fz,h1,h2,h3,h4,h5⟩:=hB.rows
     exact Zf.mk h1 h2 h3 h4 (fun h=>by cases h) (hB.ty h1)
    rcases ZB i m _ hb1 with h1|⟨k,h1,h2,h3⟩
    ·obtain⟨L,hL,hB⟩:=hS.1.blk m _ h1
     exact⟨L,hle0.1 m L hL,weak (hB.keep hle0 (hI.same _ (hS.2 m L hL).2))⟩
    ·have hkn:k<n:=by omega
     obtain⟨L,hL,_,hB⟩:=hI.made k m _ hkn (hpre k h2) h3
     have hsee:M5 s.nx M i m:=.inr ⟨k,h2,hnw k hkn m _ h3⟩
     exact⟨L,XT.2 ⟨hsee,hL⟩,weak (hB.keep (mono1 k h2) rfl)⟩
   ·obtain⟨_,_,_,rfl⟩:=Zt h1
    obtain⟨_,_,_,rfl⟩:=Zt h2
    exact⟨rfl,rfl⟩
 · -- its numbers
   intro m L hm
   obtain⟨hs,hm'⟩:=XT.1 hm
   refine⟨?_,(hI.ids m L hm').1⟩
   rcases hs with h|⟨k,h1,h2⟩
   ·omega
   ·have:=pl.lt i k h1
    unfold W1 at h2
    have:(k+1)*RR≤i*RR:=Nat.mul_le_mul_right _ (by omega)
    omega
 · -- behind it
   have nown:∀m L,ι m=some L→ ¬W1 s.nx i m:=by
    intro m L hm hown
    rcases(hI.ids m L hm).2 with h|⟨k,_,hkD,hk⟩
    ·have:=low m L h
     unfold W1 at hown
     omega
    ·exact hiD (Mm hk hown▸hkD)
   obtain⟨ι',hι1,hι2,hι3⟩:∃ι':Inj,(∀m,W1 s.nx i m→ι' m=κ m)∧(∀m,¬W1 s.nx i m→ι' m=ι m)∧ι'.fz=κ.fz:=by
    classical
    exact⟨⟨fun m=>if W1 s.nx i m then κ m else ι m,κ.fz⟩,fun m h=>if_pos h,fun m h=>if_neg h,rfl⟩
   have hle':ι.le ι':=⟨fun m L hm=>by rw[hι2 m (nown m L hm)];exact hm,fun g cs hg=>by rw[hι3];exact hcalm.le.2 g cs hg⟩
   have hκ:κ.le (UH ι' (Fv s.nx M i)):=by
    refine⟨fun m L hm=>?_,fun g cs hg=>by show ι'.fz g=_;rw[hι3];exact hg⟩
    rcases(hcalm.only m L hm).2 with h|⟨h1,h2⟩
    ·obtain⟨h3,h4⟩:=XT.1 h
     exact XT.2 ⟨.inl h3,hle'.1 m L h4⟩
    ·have hown:W1 s.nx i m:=⟨h1,by rw[Nat.add_mul];omega⟩
     exact XT.2 ⟨.inr hown,by rw[hι1 m hown];exact hm⟩
   have monoD:∀k,(UH ι (Fv s.nx M k)).le (UH ι' (Fv s.nx M k)):=fun k=>HN (fun m L hm hs=>⟨hle'.1 m L hm,hs⟩) hle'.2
   have keep:∀k t,k<n→D k→Qh ops k=some t→o.dst≠some t:=by
    intro k t hkn hkD hkd hod
    have hki:k≠i:=fun e=>hiD (e▸hkD)
    rcases Nat.lt_or_gt_of_ne hki with h|h
    ·exact hdd k i t h hi hkd (by rw[hd];exact hod)
    ·exact hdd i k t h hkn (by rw[hd];exact hod) hkd
   refine hK ι' _ w' ⟨by rw[X6];exact hI.defers,?_,Inj.le_trans hI.le hle',fun m L hm=>?_,hcalm.os.trans hI.os,hcalm.tape.trans hI.tape,hcalm.output.trans hI.output,Nat.le_trans hI.hsize hcalm.size,
    fun g hg=>(hcalm.same g (Nat.lt_of_lt_of_le hg hI.hsize)).trans (hI.same g hg),fun t hno=>?_,fun k t hkn hk hkd=>?_,fun k id b hkn hk hin=>?_,fun k k' id id' b b' L L' hkn hkn' hk hk' hin hin' hL hL' hg=>?_,fun g cs hg=>?_⟩
   ·have:=hI.size
    cases o.dst<;>simpa[Act.put]using this
   ·by_cases hown:W1 s.nx i m
    ·rw[hι1 m hown]at hm
     exact⟨(hcalm.only m L hm).1,.inr ⟨i,hi,.inr rfl,hown⟩⟩
    ·rw[hι2 m hown]at hm
     obtain⟨h1,h2⟩:=hI.ids m L hm
     refine⟨Nat.lt_of_lt_of_le h1 hcalm.size,?_⟩
     rcases h2 with h2|⟨k,h3,h4,h5⟩
     ·exact .inl h2
     ·exact .inr ⟨k,h3,.inl h4,h5⟩
   ·have h1:o.dst≠some t:=by rw[←hd];exact hno i hi (.inr rfl)
    rw[K1 a h1]
    exact hI.miss t (fun k hkn hkD=>hno k hkn (.inl hkD))
   ·rcases hk with hk|rfl
    ·rw[K1 a (keep k t hkn hk hkd)]
     exact(hI.hit k t hkn hk hkd).mono (monoD k)
    ·rw[hd]at hkd
     rw[hkd]at hdst ⊢
     have hlt:t<N:=by simpa[Z6,Nat.blt_eq]using hdst
     rw[Mf a (Nat.lt_of_lt_of_le hlt hI.size)]
     exact hu.mono hκ
   ·rcases hk with hk|rfl
    ·obtain⟨L,hL,h1,h2⟩:=hI.made k id b hkn hk hin
     exact⟨L,hle'.1 id L hL,h1,h2.keep (monoD k) (hcalm.same _ (hI.ids id L hL).1)⟩
    ·obtain⟨L,hL,h1,h2⟩:=hcalm.made id b hin
     exact⟨L,by rw[hι1 id (hnw k hi id b hin)];exact hL,Nat.le_trans hI.hsize h1,h2.keep hκ rfl⟩
   ·have old:∀k id b L,k<n→D k→(id,b)∈nw k→ι' id=some L→ι id=some L:=by
     intro k id b L hkn hkD hin hL
     rw[hι2 id (fun hown=>hiD (Mm (hnw k hkn id b hin) hown▸hkD))]at hL
     exact hL
    have new:∀id b L,(id,b)∈nw i→ι' id=some L→κ id=some L:=by
     intro id b L hin hL
     rw[hι1 id (hnw i hi id b hin)]at hL
     exact hL
    rcases hk with hk|rfl
    ·have e1:=old k id b L hkn hk hin hL
     rcases hk' with hk'|rfl
     ·exact hI.apart k k' id id' b b' L L' hkn hkn' hk hk' hin hin' e1 (old k' id' b' L' hkn' hk' hin' hL') hg
     ·have e2:=new id' b' L' hin' hL'
      obtain⟨X,hX,h1,_⟩:=hcalm.made id' b' hin'
      rw[e2]at hX
      cases hX
      have:=(hI.ids id L e1).1
      omega
    ·have e1:=new id b L hin hL
     rcases hk' with hk'|rfl
     ·have e2:=old k' id' b' L' hkn' hk' hin' hL'
      obtain⟨X,hX,h1,_⟩:=hcalm.made id b hin
      rw[e1]at hX
      cases hX
      have:=(hI.ids id' L' e2).1
      omega
     ·exact hcalm.apart id id' b b' L L' hin hin' e1 (new id' b' L' hin' hL') hg
   ·rw[hι3]at hg
    obtain⟨g1,g2,g3⟩:=hcalm.fzs g cs hg
    refine⟨?_,g2,fun k id b L hkn hk hin hL=>?_⟩
    ·rcases g1 with g1|g1
     ·exact(hI.fz g cs g1).1
     ·exact .inr (Nat.le_trans hI.hsize g1)
    ·rcases hk with hk|rfl
     ·rw[hι2 id (fun hown=>hiD (Mm (hnw k hkn id b hin) hown▸hk))]at hL
      rcases g1 with g1|g1
      ·exact(hI.fz g cs g1).2.2 k id b L hkn hk hin hL
      ·have:=(hI.ids id L hL).1
       omega
     ·rw[hι1 id (hnw k hkn id b hin)]at hL
      exact g3 id b L hin hL
end
end Go.Av
end
end
section
set_option linter.unusedVariables false
set_option linter.unusedSimpArgs false
noncomputable section
namespace Go.Av
section
variable {P:Program} {N:Nat} {ops:Array Oper} {n:Nat} {M:Nat→Nat→Bool} {s:St} {v:Nat→AVal} {nw:Nat→List (Nat×Blk)} {ι0:Inj} {w0:World}
def Yz(ops:Array Oper)(n:Nat)(s:St)(v:Nat→AVal)(nw:Nat→List (Nat×Blk)):St:=⟨QA s.env (Qh ops) v n,Y7 s.heap nw (fun _=>true) n,s.nx+n*RR⟩
theorem HM{Mv:Nat→Bool}(pl:Plan ops n M Mv):∀k l t,k<l→l<n→Qh ops k=some t→Qh ops l≠some t:=by
 intro k l t hkl hln hk
 have hlsz:l<ops.size:=Nat.lt_of_lt_of_le hln pl.le
 have hk':ops[k]?=some (ops[k]'(by omega)):=Array.getElem?_eq_getElem _
 have hl':ops[l]?=some (ops[l]'hlsz):=Array.getElem?_eq_getElem _
 have e1:Qh ops k=(ops[k]'(by omega)).dst:=by simp[Qh,hk']
 have e2:Qh ops l=(ops[l]'hlsz).dst:=by simp[Qh,hl']
 rw[e1]at hk
 rw[e2]
 exact pl.dsts k l _ _ t hk' hl' hkl hln hk
theorem Db[Syms]{Mv:Nat→Bool}(pl:Plan ops n M Mv)(hS:RelH ι0 s.heap w0∧X1 ι0 s.nx w0){D:Nat→Prop}{ι:Inj}{a:Act}{w:World}(hI:DInv N ops n M s v nw ι0 w0 D ι a w)(hall:∀k,k<n→D k):
 RelS N ι (Yz ops n s v nw) a w∧StepN ι0 s.heap s.nx w0 ι (Yz ops n s v nw).heap (Yz ops n s v nw).nx w:=by
 have hb:∀m L,ι m=some L→m<s.nx+n*RR∧L.g<w.heap.size:=by
  intro m L hm
  obtain⟨h1,h2⟩:=hI.ids m L hm
  refine⟨?_,h1⟩
  rcases h2 with h2|⟨k,hk,_,hown⟩
  ·have:=(hS.2 m L h2).1;omega
  ·unfold W1 at hown
   have:(k+1)*RR≤n*RR:=Nat.mul_le_mul_right _ (by omega)
   omega
 refine⟨⟨hI.defers,hI.size,fun t=>?_,⟨fun m b hm=>?_,fun m m' b b' L L' h1 h2 h3 h4 h5=>?_,fun g cs hg=>⟨(hI.fz g cs hg).2.1,fun ho=>?_⟩⟩,hb⟩,⟨⟨hI.le,hI.os,hI.tape,hI.output,hI.hsize,fun g hg _=>hI.same g hg,fun g hg=>?_,fun g cs hg=>(hI.fz g cs hg).1.elim .inl (fun h=>.inr (.inl h))⟩,by simp[Yz],fun m L hm=>?_⟩⟩
 ·by_cases hex:∃k,k<n∧Qh ops k=some t
  ·obtain⟨k,hk,hd⟩:=hex
   have hval:(QA s.env (Qh ops) v n).get t=v k:=by
    have:=UA (env0:=s.env) (dst:=fun q=>if q<n then Qh ops q else none) (v:=v) (i:=n) (k:=k) (t:=t) (fun k l t hkl hk=>by
     by_cases hl:l<n
     ·have hk2:k<n:=by omega
      simp only[hk2,if_true]at hk
      simp only[hl,if_true]
      exact HM pl k l t hkl hl hk
     ·simp[hl]) hk (by simp[hk,hd])
    rw[←this]
    have heq:∀j,j≤n→QA s.env (Qh ops) v j=QA s.env (fun q=>if q<n then Qh ops q else none) v j:=by
     intro j
     induction j with
     |zero=>intro _;rfl
     |succ j ih=>intro hj;simp only[QA];rw[ih (by omega)];rw[if_pos (by omega)]
    rw[heq n (Nat.le_refl _)]
   show RelV ι ((QA s.env (Qh ops) v n).get t) _
   rw[hval]
   exact(hI.hit k t hk (hall k hk) hd).mono (W6 _ _)
  ·have hno:∀k,k<n→Qh ops k≠some t:=fun k h1 h2=>hex ⟨k,h1,h2⟩
   show RelV ι ((QA s.env (Qh ops) v n).get t) _
   rw[Yj hno]
   exact(hI.miss t (fun k hk _=>hno k hk)).mono hI.le
 ·rcases ZB n m b hm with h1|⟨k,h1,_,h3⟩
  ·obtain⟨L,hL,hB⟩:=hS.1.blk m b h1
   exact⟨L,hI.le.1 m L hL,hB.keep hI.le (hI.same _ (hS.2 m L hL).2)⟩
  ·obtain⟨L,hL,_,hB⟩:=hI.made k m b h1 (hall k h1) h3
   exact⟨L,hL,hB.keep (W6 _ _) rfl⟩
 ·rcases ZB n m b h1 with g1|⟨k,g1,_,g3⟩
  ·obtain⟨X,hX,_⟩:=hS.1.blk m b g1
   obtain rfl:X=L:=by have:=hI.le.1 m X hX;rw[h3]at this;exact(Option.some.inj this).symm
   have hXg:=(hS.2 m X hX).2
   rcases ZB n m' b' h2 with g1'|⟨k',g1',_,g3'⟩
   ·obtain⟨X',hX',_⟩:=hS.1.blk m' b' g1'
    obtain rfl:X'=L':=by have:=hI.le.1 m' X' hX';rw[h4]at this;exact(Option.some.inj this).symm
    exact hS.1.inj m m' b b' X X' g1 g1' hX hX' h5
   ·obtain⟨Y,hY,hYg,_⟩:=hI.made k' m' b' g1' (hall k' g1') g3'
    rw[h4]at hY
    cases hY
    omega
  ·obtain⟨Y,hY,hYg,_⟩:=hI.made k m b g1 (hall k g1) g3
   rw[h3]at hY
   cases hY
   rcases ZB n m' b' h2 with g1'|⟨k',g1',_,g3'⟩
   ·obtain⟨X',hX',_⟩:=hS.1.blk m' b' g1'
    obtain rfl:X'=L':=by have:=hI.le.1 m' X' hX';rw[h4]at this;exact(Option.some.inj this).symm
    have hXg:=(hS.2 m' X' hX').2
    omega
   ·exact .inl (hI.apart k k' m m' b b' L L' g1 g1' (hall k g1) (hall k' g1') g3 g3' h3 h4 h5)
 ·obtain⟨m,b,L,h1,h2,h3,h4⟩:=ho
  rcases ZB n m b h1 with g1|⟨k,g1,_,g3⟩
  ·obtain⟨X,hX,_⟩:=hS.1.blk m b g1
   obtain rfl:X=L:=by have:=hI.le.1 m X hX;rw[h3]at this;exact(Option.some.inj this).symm
   rcases(hI.fz g cs hg).1 with hz|hz
   ·exact(hS.1.fz g cs hz).2 ⟨m,b,X,g1,h2,hX,h4⟩
   ·have:=(hS.2 m X hX).2
    omega
  ·exact(hI.fz g cs hg).2.2 k m b L g1 (hall k g1) g3 h3 h4
 ·obtain⟨m,b,L,h1,h2,h3,h4⟩:=hg
  rcases ZB n m b h1 with g1|⟨k,g1,_,g3⟩
  ·obtain⟨X,hX,_⟩:=hS.1.blk m b g1
   obtain rfl:X=L:=by have:=hI.le.1 m X hX;rw[h3]at this;exact(Option.some.inj this).symm
   exact .inl ⟨m,b,X,g1,h2,hX,h4⟩
  ·obtain⟨Y,hY,hYg,_⟩:=hI.made k m b g1 (hall k g1) g3
   rw[h3]at hY
   cases hY
   exact .inr (by omega)
 ·rcases(hI.ids m L hm).2 with h|⟨k,_,_,hown⟩
  ·exact .inl h
  ·right
   unfold W1 at hown
   omega
def Lst(listed:Array Bool)(k:Nat):Prop:=listed.getD k false=true
structure Cl(ops:Array Oper)(listed:Array Bool):Prop where
 size:listed.size=ops.size
 closed:∀k o,ops[k]?=some o→Lst listed k→ ∀e∈o.after,Region.binds .any e=true→Lst listed e.on
theorem B6{Mv:Nat→Bool}(pl:Plan ops n M Mv){listed:Array Bool}(hc:Cl ops listed)(hmv:∀k,Mv k=true→Lst listed k):∀i k,Lst listed i→M i k=true→Lst listed k:=by
 intro i
 induction i using Nat.strongRecOn with
 |_ i ih=>
  intro k hi hm
  rcases pl.by_ i k hm with hv|⟨o,ho,e,he,hb,hor⟩
  ·exact hmv k hv
  have hl:=hc.closed i o ho hi e he hb
  rcases hor with rfl|h
  ·exact hl
  ·exact ih e.on (pl.edge i o ho e he hb).1 k hl h
theorem Zk{listed:Array Bool}{i k:Nat}(hi:i<listed.size):Lst (listed.setIfInBounds i true) k↔Lst listed k∨k=i:=by
 unfold Lst
 by_cases h:i=k
 ·subst h
  simp[hi]
 ·rw[getD_set_ne false h]
  have:¬k=i:=fun e=>h e.symm
  simp[this]
def left(listed:Array Bool):Nat:=listed.toList.count false
theorem KG{listed:Array Bool}{i:Nat}(hi:listed.getD i true=false):left (listed.setIfInBounds i true)+1=left listed∧i<listed.size:=by
 have hlt:i<listed.size:=by
  rcases Nat.lt_or_ge i listed.size with h|h
  ·exact h
  ·simp[Array.getElem?_eq_none h]at hi
 have hv:listed.toList[i]'(by simpa using hlt)=false:=by simpa[hlt]using hi
 refine⟨?_,hlt⟩
 unfold left
 rw[Array.toList_setIfInBounds,List.count_set (by simpa using hlt)]
 rw[hv]
 have hpos:0<listed.toList.count false:=List.count_pos_iff.2 (by rw[←hv];exact List.getElem_mem _)
 rw[show(false == false)=true from rfl,show(true == false)=false from rfl,if_pos rfl,if_neg (by simp)]
 omega
theorem FP{listed:Array Bool}(h:left listed=0)(k:Nat)(hk:k<listed.size):Lst listed k:=by
 have:¬false∈listed.toList:=List.count_eq_zero.1 h
 unfold Lst
 have hv:listed.getD k false=listed[k]:=by simp[hk]
 rw[hv]
 cases hb:listed[k]with
 |true=>rfl
 |false=>exact absurd (by rw[←hb];exact Array.mem_toList_iff.2 (Array.getElem_mem hk)) this
theorem Hx{listed:Array Bool}{k:Nat}(hk:k<listed.size)(h:¬Lst listed k):listed.getD k true=false:=by
 unfold Lst at h
 simp[hk]at h ⊢
 exact h
theorem F8[Syms]{Mv:Nat→Bool}(pl:Plan ops n M Mv){listed:Array Bool}(hc:Cl ops listed)(hr:Region.ready .any ops listed=[]):∀k,k<ops.size→Lst listed k:=by
 intro k
 induction k using Nat.strongRecOn with
 |_ k ih=>
  intro hk
  rcases Classical.em (Lst listed k)with h|h
  ·exact h
  ·have ho:ops[k]?=some (ops[k]'hk):=Array.getElem?_eq_getElem _
   have:k∈Region.ready .any ops listed:=mem_ready.2 ⟨Hx (by rw[hc.size];exact hk) h,_,ho,fun e he hb=>by
    have:=(pl.edge k _ ho e he hb).1
    exact ih e.on this (by omega)⟩
   rw[hr]at this
   cases this
structure Drawn[Syms](P:Program)(N:Nat)(ops:Array Oper)(n:Nat)(M:Nat→Nat→Bool)(s:St)(v:Nat→AVal)(nw:Nat→List (Nat×Blk))(s':St)(Mv:Nat→Bool):Prop where
 plan:Plan ops n M Mv
 dst:∀i o,ops[i]?=some o→i<n→Z6 N o.dst=true
 news:∀k,k<n→ ∀id b,(id,b)∈nw k→W1 s.nx k id
 calm:∀i o,ops[i]?=some o→i<n→Zn P N ops o ((QA s.env (Qh ops) v i).only (o.looksAt ops)) (Y7 s.heap nw (M i) i) (s.nx+i*RR) (v i) (nw i)
 tail:WQ P N ops (ops.toList.drop n) (Yz ops n s v nw) s'
theorem N7[Syms]{s':St}{Mv:Nat→Bool}{Q:Exit→Act→World→Prop}(hd:Drawn P N ops n M s v nw s' Mv)(hS:RelH ι0 s.heap w0∧X1 ι0 s.nx w0)
 (hQ:∀κ a' w',RelS N κ s' a' w'→StepN ι0 s.heap s.nx w0 κ s'.heap s'.nx w'→Q .normal a' w'):∀(fuel:Nat) (listed:Array Bool) (a:Act) (w:World) (ι:Inj),Cl ops listed→(∀k,Mv k=true→Lst listed k)→left listed≤fuel→
 (((∀k,Lst listed k→k<n)∧DInv N ops n M s v nw ι0 w0 (Lst listed) ι a w)∨
   ∃j sj,n≤j∧(∀k,k<ops.size→(Lst listed k↔k<j))∧WQ P N ops (ops.toList.drop j) sj s'∧RelS N ι sj a w∧StepN ι0 s.heap s.nx w0 ι sj.heap sj.nx w)→
 wpAny P .any ops Q fuel listed a w:=by
 have pl:=hd.plan
 -- all listed:the end
 have fin:∀(listed:Array Bool) (a:Act) (w:World) (ι:Inj),(∀k,k<ops.size→Lst listed k)→
  (((∀k,Lst listed k→k<n)∧DInv N ops n M s v nw ι0 w0 (Lst listed) ι a w)∨
  ∃j sj,n≤j∧(∀k,k<ops.size→(Lst listed k↔k<j))∧WQ P N ops (ops.toList.drop j) sj s'∧RelS N ι sj a w∧StepN ι0 s.heap s.nx w0 ι sj.heap sj.nx w)→Q .normal a w:=by
  intro listed a w ι hall hst
  rcases hst with⟨h1,h2⟩|⟨j,sj,h1,h2,h3,h4,h5⟩
  ·have hn:ops.size≤n:=by
    rcases Nat.lt_or_ge n ops.size with h|h
    ·exact absurd (h1 n (hall n h)) (Nat.lt_irrefl _)
    ·exact h
   obtain⟨g1,g2⟩:=Db pl hS h2 (fun k hk=>hall k (Nat.lt_of_lt_of_le hk pl.le))
   have ht:=hd.tail
   rw[List.drop_of_length_le (by simpa using hn)]at ht
   have ht:Yz ops n s v nw=s':=ht
   rw[ht]at g1 g2
   exact hQ ι a w g1 g2
  ·have hj:ops.size≤j:=by
    rcases Nat.lt_or_ge j ops.size with h|h
    ·exact absurd ((h2 j h).1 (hall j h)) (Nat.lt_irrefl _)
    ·exact h
   rw[List.drop_of_length_le (by simpa using hj)]at h3
   have h3:sj=s':=h3
   subst h3
   exact hQ ι a w h4 h5
 intro fuel
 induction fuel with
 |zero=>
  intro listed a w ι hc hmv hf hst
  have hall:∀k,k<ops.size→Lst listed k:=fun k hk=>FP (by omega) k (by rw[hc.size];exact hk)
  refine⟨?_,fin listed a w ι hall hst⟩
  cases hr:Region.ready .any ops listed with
  |nil=>rfl
  |cons x xs=>
   have hx:x∈Region.ready .any ops listed:=by rw[hr];exact List.mem_cons_self ..
   obtain⟨h1,o,ho,_⟩:=mem_ready.1 hx
   have hxs:x<ops.size:=(Array.getElem?_eq_some_iff.1 ho).1
   have:=hall x hxs
   unfold Lst at this
   have hxl:x<listed.size:=by rw[hc.size];exact hxs
   simp[hxl]at this h1
   rw[this]at h1
   cases h1
 |succ fuel ih=>
  intro listed a w ι hc hmv hf hst
  refine⟨fun hr=>fin listed a w ι (F8 pl hc hr) hst,fun i hir=>?_⟩
  obtain⟨hun,o,ho,hedges⟩:=mem_ready.1 hir
  have hisz:i<ops.size:=(Array.getElem?_eq_some_iff.1 ho).1
  obtain⟨hleft,hilt⟩:=KG hun
  have hnl:¬Lst listed i:=by
   unfold Lst
   simp[hilt]at hun ⊢
   exact hun
  have hpre:∀k,M i k=true→Lst listed k:=by
   intro k hm
   rcases pl.by_ i k hm with hv|⟨o',ho',e,he,hb,hor⟩
   ·exact hmv k hv
   rw[ho]at ho'
   cases ho'
   have hl:=hedges e he hb
   rcases hor with rfl|h
   ·exact hl
   ·exact B6 pl hc hmv e.on k hl h
  have hpost:∀k,M k i=true→ ¬Lst listed k:=fun k hm hl=>hnl (B6 pl hc hmv k i hl hm)
  have hc':Cl ops (listed.setIfInBounds i true):=by
   refine⟨by simp[hc.size],fun k p hp hl e he hb=>?_⟩
   rw[Zk hilt]at hl ⊢
   rcases hl with hl|rfl
   ·exact .inl (hc.closed k p hp hl e he hb)
   ·rw[ho]at hp
    cases hp
    exact .inl (hedges e he hb)
  have hmv':∀k,Mv k=true→Lst (listed.setIfInBounds i true) k:=fun k hk=>(Zk hilt).2 (.inl (hmv k hk))
  have tailStep:∀(j:Nat) (sj:St),n≤j→(∀k,k<ops.size→(Lst listed k↔k<j))→WQ P N ops (ops.toList.drop j) sj s'→RelS N ι sj a w→StepN ι0 s.heap s.nx w0 ι sj.heap sj.nx w→n≤i→
   wpOp P ops Q i (wpAny P .any ops Q fuel (listed.setIfInBounds i true)) a w:=by
   intro j sj hj hlist hch hRS hSt hni
   have hij:i=j:=by
    have h1:¬i<j:=fun h=>hnl ((hlist i hisz).2 h)
    have h2:¬j<i:=by
     intro h
     have:=hpre j (pl.tail i j hni hisz h)
     exact absurd ((hlist j (by omega)).1 this) (Nat.lt_irrefl _)
    omega
   subst hij
   have hdrop:ops.toList.drop i=o::ops.toList.drop (i+1):=by
    have hv:ops.toList[i]'(by simpa using hisz)=o:=by
     have:=Array.getElem?_eq_some_iff.1 ho
     simpa using this.2
    rw[List.drop_eq_getElem_cons (by simpa using hisz),hv]
   rw[hdrop]at hch
   obtain⟨s1,hop,hch'⟩:=hch
   unfold wpOp
   rw[ho]
   refine hop ι a w _ Q hRS (fun κ a' w' hRS' hSt'=>?_)
   refine ih _ a' w' κ hc' hmv' (by omega) (.inr ⟨i+1,s1,by omega,fun k hk=>?_,hch',hRS',hSt.trans hSt'⟩)
   rw[Zk hilt,hlist k hk]
   omega
  rcases hst with⟨h1,h2⟩|⟨j,sj,h1,h2,h3,h4,h5⟩
  ·by_cases hin:i<n
   ·unfold wpOp
    rw[ho]
    refine JM pl hS h2 ho hin hnl hpre hpost (hd.dst i o ho hin) hd.news (hd.calm i o ho hin) (fun κ a' w' hI=>?_)
    refine ih _ a' w' κ hc' hmv' (by omega) (.inl ⟨fun k hk=>?_,?_⟩)
    ·rw[Zk hilt]at hk
     rcases hk with hk|rfl
     ·exact h1 k hk
     ·exact hin
    ·have:(fun k=>Lst listed k∨k=i)=Lst (listed.setIfInBounds i true):=funext fun k=>propext (Zk hilt).symm
     rw[←this]
     exact hI
   ·have hall:∀k,k<n→Lst listed k:=fun k hk=>hpre k (pl.tail i k (by omega) hisz (by omega))
    obtain⟨g1,g2⟩:=Db pl hS h2 hall
    exact tailStep n _ (Nat.le_refl _) (fun k hk=>⟨h1 k,hall k⟩) hd.tail g1 g2 (by omega)
  ·have hin:n≤i:=by
    rcases Nat.lt_or_ge i n with h|h
    ·exact absurd ((h2 i hisz).2 (by omega)) hnl
    ·exact h
   exact tailStep j sj h1 h2 h3 h4 h5 hin
theorem FQ:∀(l:List Nat) (listed:Array Bool),l.Nodup→(∀i∈l,listed.getD i true=false)→l.length≤left listed
 |[],_,_,_=>Nat.zero_le _
 |i::l,listed,hnd,h=>by
  obtain⟨hleft,hilt⟩:=KG (h i (List.mem_cons_self ..))
  have:=FQ l (listed.setIfInBounds i true) (List.nodup_cons.1 hnd).2 (fun j hj=>by
   rw[getD_set_ne true (fun e=>by subst e;exact(List.nodup_cons.1 hnd).1 hj)]
   exact h j (List.mem_cons_of_mem _ hj))
  rw[List.length_cons]
  omega
def Bt(ops:Array Oper)(i:Nat):Prop:=
 ∃o x,ops[i]?=some o∧(o.op= .move x∨o.op= .assign x)∧o.guard=none∧(∀e∈o.after,Region.binds .any e=false)∧
  ∀j oj,ops[j]?=some oj→j≠i→(∀e∈oj.after,Region.binds .any e=true→e.on≠i)→o.apart ops oj=true
theorem Ln[Syms]{Mv:Nat→Bool}(pl:Plan ops n M Mv)(hS:RelH ι0 s.heap w0∧X1 ι0 s.nx w0){D:Nat→Prop}{ι:Inj}{a:Act}{w:World}(hI:DInv N ops n M s v nw ι0 w0 D ι a w){i:Nat}{o:Oper}(ho:ops[i]?=some o)(hi:i<n)(hiD:¬D i)
 (hpre:∀k,M i k=true→D k) (hpost:∀k,M k i=true→ ¬D k) (hdst:Z6 N o.dst=true)
 (hnw:∀k,k<n→ ∀id b,(id,b)∈nw k→W1 s.nx k id)
 (hc:Zn P N ops o ((QA s.env (Qh ops) v i).only (o.looksAt ops)) (Y7 s.heap nw (M i) i) (s.nx+i*RR) (v i) (nw i))
 (hw:Region.wanted o (yielded ops a.tmps)=true) {u:Value} (hu:(execOp a.eval o).run P w= .ok (.value u) w):
 ∃κ,DInv N ops n M s v nw ι0 w0 (fun k=>D k∨k=i) κ (a.put o.dst u) w:=by
 have:=JM pl hS hI ho hi hiD hpre hpost hdst hnw hc (K:=fun a' w'=>∃κ,DInv N ops n M s v nw ι0 w0 (fun k=>D k∨k=i) κ a' w') (Q:=fun _ _ _=>False) (fun κ a' w' h=>⟨κ,h⟩)
 rw[hw]at this
 simp only[if_true]at this
 rcases this with h|⟨_,a',w',h⟩
 ·unfold Oper.wp at h
  rw[hu]at h
  exact h
 ·exact h.elim
theorem Da[Syms]{s':St}{Mv:Nat→Bool}{Q:Exit→Act→World→Prop}(hd:Drawn P N ops n M s v nw s' Mv)(hS:RelH ι0 s.heap w0∧X1 ι0 s.nx w0)(hQ:∀c a w,¬Q (.panic c) a w):
 ∀(l:List Nat),l.Nodup→(∀i∈l,Bt ops i∧i<n∧(∀k,M i k=false))→ ∀(fuel:Nat) (listed:Array Bool) (a:Act) (w:World) (ι:Inj),Cl ops listed→(∀i∈l,¬Lst listed i)→(∀i∈l,∀k,Lst listed k→M k i=false)→
  (∀i∈l,∀j∈l,M i j=false)→
  DInv N ops n M s v nw ι0 w0 (Lst listed) ι a w→
  (∀(listed':Array Bool) (a':Act) (κ:Inj),Cl ops listed'→left listed'+l.length=left listed→(∀k,Lst listed' k↔Lst listed k∨k∈l)→DInv N ops n M s v nw ι0 w0 (Lst listed') κ a' w→wpAny P .any ops Q fuel listed' a' w)→
  wpAny P .any ops Q (fuel+l.length) listed a w
 |[],_,_,fuel,listed,a,w,ι,hc,_,_,_,hI,hK=>hK listed a ι hc rfl (fun k=>by simp) hI
 |i::l,hnd,hl,fuel,listed,a,w,ι,hc,hnl,hlm,hmm,hI,hK=>by
  obtain⟨⟨o,x,ho,hop,hg,haf,hap⟩,hin,hM⟩:=hl i (List.mem_cons_self ..)
  have hisz:i<ops.size:=(Array.getElem?_eq_some_iff.1 ho).1
  have hunl:=Hx (listed:=listed) (k:=i) (by rw[hc.size];exact hisz) (hnl i (List.mem_cons_self ..))
  obtain⟨hleft,hilt⟩:=KG hunl
  have hw:Region.wanted o (yielded ops a.tmps)=true:=by simp[Region.wanted,hg]
  have hu:∀w,(execOp a.eval o).run P w= .ok (.value (a.eval x)) w:=by
   intro w
   unfold execOp
   rcases hop with hop|hop<;>simp[hop,Sem.run_bind,Sem.run_pure,Result.andThen_ok]
  have hready:i∈Region.ready .any ops listed:=mem_ready.2 ⟨hunl,o,ho,fun e he hb=>by rw[haf e he]at hb;cases hb⟩
  have hsel:=hd.plan.sel
  obtain⟨κ,hI'⟩:=Ln hd.plan hS hI ho hin (hnl i (List.mem_cons_self ..)) (fun k hk=>by rw[hM k]at hk;cases hk) (fun k hk hkl=>by rw[hlm i (List.mem_cons_self ..) k hkl]at hk;cases hk) (hd.dst i o ho hin) hd.news (hd.calm i o ho hin) hw (hu w)
  have hfun:(fun k=>Lst listed k∨k=i)=Lst (listed.setIfInBounds i true):=funext fun k=>propext (Zk hilt).symm
  rw[hfun]at hI'
  have hc':Cl ops (listed.setIfInBounds i true):=by
   refine⟨by simp[hc.size],fun k p hp hl e he hb=>?_⟩
   rw[Zk hilt]at hl ⊢
   rcases hl with hl|rfl
   ·exact .inl (hc.closed k p hp hl e he hb)
   ·rw[ho]at hp
    cases hp
    rw[haf e he]at hb
    cases hb
  rw[List.length_cons,←Nat.add_assoc]
  refine wpAny_first ho hsel (fun c a w h=>(hQ _ _ _ h).elim) (fuel+l.length) listed a w (fun j oj hj hne _ hed=>hap j oj hj hne hed) hready (.inl ⟨hw,hu⟩) ?_
  refine Da hd hS hQ l (List.nodup_cons.1 hnd).2 (fun j hj=>hl j (List.mem_cons_of_mem _ hj)) fuel _ _ w κ hc' (fun j hj h=>?_) (fun j hj k hk=>?_) (fun j hj k hk=>hmm j (List.mem_cons_of_mem _ hj) k (List.mem_cons_of_mem _ hk)) hI' (fun listed' a' μ hcl hle hli hI''=>hK listed' a' μ hcl (by rw[List.length_cons];omega) (fun k=>by rw[hli k,Zk hilt];simp[or_assoc]) hI'')
  ·rw[Zk hilt]at h
   rcases h with h|rfl
   ·exact hnl j (List.mem_cons_of_mem _ hj) h
   ·exact(List.nodup_cons.1 hnd).1 hj
  ·rw[Zk hilt]at hk
   rcases hk with hk|rfl
   ·exact hlm j (List.mem_cons_of_mem _ hj) k hk
   ·exact hmm k (List.mem_cons_self ..) j (List.mem_cons_of_mem _ hj)
theorem KR[Syms]{s':St}{Mv:Nat→Bool}{Q:Exit→Act→World→Prop}{id:Nat}{a:Act}{w:World}{ι:Inj}(hm:P.follows .mixedOrders=true)(hd:Drawn P N ops n M s v nw s' Mv){l:List Nat}(hlv:∀k,Mv k=true→k∈l)(hnd:l.Nodup)(hl:∀i∈l,Bt ops i∧i<n∧(∀k,M i k=false))(hS:RelS N ι s a w)
 (hQ:∀κ a' w',RelS N κ s' a' w'→StepN ι s.heap s.nx w κ s'.heap s'.nx w'→Q .normal a' w'):(Code.region id ops true).wp P Q a w:=by
 refine Code.wp_mono (Q:=fun e a w=>e= .normal∧Q e a w) (fun _ _ _ h=>h.2) ?_
 refine wp_region_any hm ?_
 have hH:RelH ι s.heap {w with drawn:=w.drawn+1}:=⟨fun n b hb=>let⟨L,h1,h2⟩:=hS.heap.blk n b hb;⟨L,h1,h2.keep (Inj.le_refl ι) rfl⟩,hS.heap.inj,hS.heap.fz⟩
 have hst:StepN ι s.heap s.nx w ι s.heap s.nx {w with drawn:=w.drawn+1}:=⟨Step.drew ι s.heap w _,Nat.le_refl _,fun _ _ h=>.inl h⟩
 have no:∀k,¬Lst (Array.replicate ops.size false) k:=by
  intro k h
  unfold Lst at h
  rcases Nat.lt_or_ge k ops.size with h'|h'
  ·simp[h']at h
  ·simp[h']at h
 have hlen:l.length≤ops.size:=by
  have hlt:∀i∈l,i<ops.size:=fun i hi=>let⟨⟨o,_,ho,_⟩,_⟩:=hl i hi;(Array.getElem?_eq_some_iff.1 ho).1
  have:=FQ l (Array.replicate ops.size false) hnd (fun i hi=>by simp[hlt i hi])
  simpa[left]using this
 have key:=Da (Q:=fun e a w=>e= .normal∧Q e a w) (w0:={w with drawn:=w.drawn+1}) hd ⟨hH,hS.bound⟩ (fun c a w h=>by cases h.1) l hnd hl (ops.size-l.length) (Array.replicate ops.size false) a {w with drawn:=w.drawn+1} ι ⟨by simp,fun k o ho h=>absurd h (no k)⟩ (fun i _=>no i) (fun i _ k hk=>absurd hk (no k))
  (fun i hi j _=>(hl i hi).2.2 j)
  ⟨hS.defers,hS.size,Inj.le_refl ι,fun m L hm=>⟨(hS.bound m L hm).2,.inl hm⟩,rfl,rfl,rfl,Nat.le_refl _,fun _ _=>rfl,fun t _=>hS.env t,fun k t _ h=>absurd h (no k),fun k id b _ h=>absurd h (no k),fun k k' id id' b b' L L' _ _ h=>absurd h (no k),fun g cs hg=>⟨.inl hg,(hS.heap.fz g cs hg).1,fun k id b L _ h=>absurd h (no k)⟩⟩
  (fun listed' a' κ hcl hle hli hI=>?_)
 ·rw[show ops.size-l.length+l.length=ops.size by omega]at key
  exact key
 ·refine N7 (w0:={w with drawn:=w.drawn+1}) hd ⟨hH,hS.bound⟩ (fun κ a' w' h1 h2=>⟨rfl,hQ κ a' w' h1 (hst.trans h2)⟩) _ _ a' _ κ hcl (fun k hk=>(hli k).2 (.inr (hlv k hk))) ?_ (.inl ⟨fun k h=>?_,hI⟩)
  ·have:left (Array.replicate ops.size false)=ops.size:=by simp[left]
   omega
  ·rcases(hli k).1 h with h|h
   ·exact absurd h (no k)
   ·exact(hl k h).2.1
end
end Go.Av
end
end
section
set_option linter.unusedVariables false
set_option linter.unusedSimpArgs false
noncomputable section
namespace Go.Av
mutual
def AVal.ren(ρ:Nat→Nat):AVal→AVal
 | .ptr n k j=>.ptr (ρ n) k j
 | .slice n off len sz cap=>.slice (ρ n) off len sz cap
 | .obj n=>.obj (ρ n)
 | .tagp n t=>.tagp (ρ n) t
 | .tnils=>.tnils
 | .tslice n len sz t=>.tslice (ρ n) len sz t
 | .agg cs=>.agg (AVal.renL ρ cs)
 | .tup cs=>.tup (AVal.renL ρ cs)
 | .func f cs=>.func f (AVal.renL ρ cs)
 | .iface t v=>.iface t (v.ren ρ)
 | .any=>.any
 | .bool b=>.bool b
 | .int k n=>.int k n
 | .str s=>.str s
 | .nilp=>.nilp
 | .nils=>.nils
 | .nilf=>.nilf
 | .nili=>.nili
 | .sym n=>.sym n
 | .vs sz rows=>.vs sz rows
 | .vp row j=>.vp row j
 | .zs sz=>.zs sz
 | .vt sz n f=>.vt sz n f
def AVal.renL(ρ:Nat→Nat):List AVal→List AVal
 |[]=>[]
 |x::l=>x.ren ρ::AVal.renL ρ l
end
theorem Xn(ρ:Nat→Nat):∀l:List AVal,AVal.renL ρ l=l.map (AVal.ren ρ)
 |[]=>by simp only[AVal.renL,List.map_nil]
 |x::l=>by simp only[AVal.renL,List.map_cons,Xn ρ l]
def Blk.ren(ρ:Nat→Nat):Blk→Blk
 | .cells rows ro=>.cells (rows.map (AVal.renL ρ)) ro
 | .iter s p=>.iter s p
theorem Blk.ren_ro(ρ:Nat→Nat)(b:Blk):(b.ren ρ).ro=b.ro:=by cases b<;>rfl
structure Inj.via(ρ:Nat→Nat)(ι κ:Inj):Prop where
 loc:∀n L,ι n=some L→κ (ρ n)=some L
 fz:∀g cs,ι.fz g=some cs→κ.fz g=some cs
theorem Inj.via.bare{ρ:Nat→Nat}{ι κ:Inj}(h:Inj.via ρ ι κ):ι.bare.le κ.bare:=⟨fun _ _ h=>(nomatch h),h.fz⟩
theorem RelV.ren[Syms]{ρ:Nat→Nat}{ι κ:Inj}(hv:Inj.via ρ ι κ){x:AVal}{v:Value}(h:RelV ι x v):RelV κ (x.ren ρ) v:=by
 induction h generalizing κ with
 |any v=>simp only[AVal.ren];exact .any v
 |bool b=>simp only[AVal.ren];exact .bool b
 |int k n=>simp only[AVal.ren];exact .int k n
 |str s=>simp only[AVal.ren];exact .str s
 |nilp=>simp only[AVal.ren];exact .nilp
 |ptr n k j L h=>simp only[AVal.ren];exact .ptr _ k j L (hv.loc _ _ h)
 |nils=>simp only[AVal.ren];exact .nils
 |slice n off len sz cap L a c h hs ha hl hp hm hc=>simp only[AVal.ren];exact .slice _ off len sz cap L a c (hv.loc _ _ h) hs ha hl hp hm hc
 |agg cs vs hl h ih=>
  simp only[AVal.ren,Xn]
  refine .agg _ vs (by simpa using hl) fun i c v h1 h2=>?_
  rw[List.getElem?_map,Option.map_eq_some_iff]at h1
  obtain⟨x,hx,rfl⟩:=h1
  exact ih i x v hx h2 hv
 |tup cs vs hl h ih=>
  simp only[AVal.ren,Xn]
  refine .tup _ vs (by simpa using hl) fun i c v h1 h2=>?_
  rw[List.getElem?_map,Option.map_eq_some_iff]at h1
  obtain⟨x,hx,rfl⟩:=h1
  exact ih i x v hx h2 hv
 |func f cs vs hf hl h ih=>
  simp only[AVal.ren,Xn]
  refine .func f _ vs hf (by simpa using hl) fun i c v h1 h2=>?_
  rw[List.getElem?_map,Option.map_eq_some_iff]at h1
  obtain⟨x,hx,rfl⟩:=h1
  exact ih i x v hx h2 hv
 |bfunc f cs vs hl h ih=>
  simp only[AVal.ren,Xn]
  refine .bfunc f _ vs (by simpa using hl) fun i c v h1 h2=>?_
  rw[List.getElem?_map,Option.map_eq_some_iff]at h1
  obtain⟨x,hx,rfl⟩:=h1
  exact ih i x v hx h2 hv
 |nilf=>simp only[AVal.ren];exact .nilf
 |nili=>simp only[AVal.ren];exact .nili
 |iface t x v h ih=>simp only[AVal.ren];exact .iface t _ v (ih hv)
 |obj n L h=>simp only[AVal.ren];exact .obj _ L (hv.loc _ _ h)
 |tagp n t L h ht=>simp only[AVal.ren];exact .tagp _ t L (hv.loc _ _ h) ht
 |tnils=>simp only[AVal.ren];exact .tnils
 |tslice n len sz t L c h hs ht hl hp hm=>simp only[AVal.ren];exact .tslice _ len sz t L c (hv.loc _ _ h) hs ht hl hp hm
 |sym n=>simp only[AVal.ren];exact .sym n
 |vs sz rows g o c cs hf hl hm hp hr h1 h ih=>simp only[AVal.ren];exact .vs sz rows g o c cs (hv.fz _ _ hf) hl hm hp hr h1 fun k j row x v a b d=>(h k j row x v a b d).mono hv.bare
 |vp row j g b cs hf hp h1 h ih=>simp only[AVal.ren];exact .vp row j g b cs (hv.fz _ _ hf) hp h1 fun i x v a b=>(h i x v a b).mono hv.bare
 |zs sz a=>simp only[AVal.ren];exact .zs sz a
 |vz sz a c hm hc=>simp only[AVal.ren];exact .vz sz a c hm hc
 |vt sz n f v h ih=>simp only[AVal.ren]at ih ⊢;exact .vt sz n f v (ih hv)
def Inj.pull(ι:Inj)(ρ:Nat→Nat):Inj:=⟨fun n=>ι (ρ n),ι.fz⟩
theorem RelV.unren[Syms]{ρ:Nat→Nat}{ι:Inj}{y:AVal}{v:Value}(h:RelV ι y v):∀x:AVal,y=x.ren ρ→RelV (ι.pull ρ) x v:=by
 induction h with
 |any v=>intro x hx;cases x<;>simp only[AVal.ren]at hx<;>cases hx;exact .any v
 |bool b=>intro x hx;cases x<;>simp only[AVal.ren]at hx<;>cases hx;exact .bool b
 |int k n=>intro x hx;cases x<;>simp only[AVal.ren]at hx<;>cases hx;exact .int k n
 |str s=>intro x hx;cases x<;>simp only[AVal.ren]at hx<;>cases hx;exact .str s
 |nilp=>intro x hx;cases x<;>simp only[AVal.ren]at hx<;>cases hx;exact .nilp
 |ptr n k j L h=>intro x hx;cases x<;>simp only[AVal.ren]at hx<;>cases hx;exact .ptr _ k j L h
 |nils=>intro x hx;cases x<;>simp only[AVal.ren]at hx<;>cases hx;exact .nils
 |slice n off len sz cap L a c h hs ha hl hp hm hc=>intro x hx;cases x<;>simp only[AVal.ren]at hx<;>cases hx;exact .slice _ off len sz cap L a c h hs ha hl hp hm hc
 |agg cs vs hl h ih=>
  intro x hx;cases x<;>simp only[AVal.ren]at hx<;>cases hx
  simp only[Xn]at hl ih
  exact .agg _ vs (by simpa using hl) fun i c v h1 h2=>ih i (c.ren ρ) v (by rw[List.getElem?_map,h1];rfl) h2 c rfl
 |tup cs vs hl h ih=>
  intro x hx;cases x<;>simp only[AVal.ren]at hx<;>cases hx
  simp only[Xn]at hl ih
  exact .tup _ vs (by simpa using hl) fun i c v h1 h2=>ih i (c.ren ρ) v (by rw[List.getElem?_map,h1];rfl) h2 c rfl
 |func f cs vs hf hl h ih=>
  intro x hx;cases x<;>simp only[AVal.ren]at hx<;>cases hx
  simp only[Xn]at hl ih
  exact .func f _ vs hf (by simpa using hl) fun i c v h1 h2=>ih i (c.ren ρ) v (by rw[List.getElem?_map,h1];rfl) h2 c rfl
 |bfunc f cs vs hl h ih=>
  intro x hx;cases x<;>simp only[AVal.ren]at hx<;>cases hx
  simp only[Xn]at hl ih
  exact .bfunc f _ vs (by simpa using hl) fun i c v h1 h2=>ih i (c.ren ρ) v (by rw[List.getElem?_map,h1];rfl) h2 c rfl
 |nilf=>intro x hx;cases x<;>simp only[AVal.ren]at hx<;>cases hx;exact .nilf
 |nili=>intro x hx;cases x<;>simp only[AVal.ren]at hx<;>cases hx;exact .nili
 |iface t y v h ih=>intro x hx;cases x<;>simp only[AVal.ren]at hx<;>cases hx;exact .iface t _ v (ih _ rfl)
 |obj n L h=>intro x hx;cases x<;>simp only[AVal.ren]at hx<;>cases hx;exact .obj _ L h
 |tagp n t L h ht=>intro x hx;cases x<;>simp only[AVal.ren]at hx<;>cases hx;exact .tagp _ t L h ht
 |tnils=>intro x hx;cases x<;>simp only[AVal.ren]at hx<;>cases hx;exact .tnils
 |tslice n len sz t L c h hs ht hl hp hm=>intro x hx;cases x<;>simp only[AVal.ren]at hx<;>cases hx;exact .tslice _ len sz t L c h hs ht hl hp hm
 |sym n=>intro x hx;cases x<;>simp only[AVal.ren]at hx<;>cases hx;exact .sym n
 |vs sz rows g o c cs hf hl hm hp hr h1 h ih=>intro x hx;cases x<;>simp only[AVal.ren]at hx<;>cases hx;exact .vs sz rows g o c cs hf hl hm hp hr h1 h
 |vp row j g b cs hf hp h1 h ih=>intro x hx;cases x<;>simp only[AVal.ren]at hx<;>cases hx;exact .vp row j g b cs hf hp h1 h
 |zs sz a=>intro x hx;cases x<;>simp only[AVal.ren]at hx<;>cases hx;exact .zs sz a
 |vz sz a c hm hc=>intro x hx;cases x<;>simp only[AVal.ren]at hx<;>cases hx;exact .vz sz a c hm hc
 |vt sz n f v h ih=>intro x hx;cases x<;>simp only[AVal.ren]at hx<;>cases hx;exact .vt sz n f v (ih (.vs _ _) (by simp only[AVal.ren]))
theorem Zf.ren[Syms]{ρ:Nat→Nat}{ι κ:Inj}(hv:Inj.via ρ ι κ){w:World}{L:Loc}{b:Blk}(h:Zf ι w L b):Zf κ w L (b.ren ρ):=by
 cases b with
 |iter s p=>exact h
 |cells rows ro=>
  obtain⟨cs,e,fz,h1,h2,h3,h4,h5⟩:=h.rows
  refine Zf.mk h1 h2 (by simpa using h3) (fun k row hr=>?_) h5 (h.ty h1)
  rw[List.getElem?_map,Option.map_eq_some_iff]at hr
  obtain⟨r,hr,rfl⟩:=hr
  obtain⟨g1,g2⟩:=h4 k r hr
  rw[Xn]
  refine⟨by simpa using g1,fun j x hx=>?_⟩
  rw[List.getElem?_map,Option.map_eq_some_iff]at hx
  obtain⟨y,hy,rfl⟩:=hx
  obtain⟨v,v1,v2,v3⟩:=g2 j y hy
  exact⟨v,v1,v2,v3.ren hv⟩
theorem Zf.unren[Syms]{ρ:Nat→Nat}{ι:Inj}{w:World}{L:Loc}{b:Blk}(h:Zf ι w L (b.ren ρ)):Zf (ι.pull ρ) w L b:=by
 cases b with
 |iter s p=>exact h
 |cells rows ro=>
  obtain⟨cs,e,fz,h1,h2,h3,h4,h5⟩:=h.rows
  refine Zf.mk h1 h2 (by simpa using h3) (fun k row hr=>?_) h5 (h.ty h1)
  obtain⟨g1,g2⟩:=h4 k (AVal.renL ρ row) (by rw[List.getElem?_map,hr];rfl)
  rw[Xn]at g1 g2
  refine⟨by simpa using g1,fun j x hx=>?_⟩
  obtain⟨v,v1,v2,v3⟩:=g2 j (x.ren ρ) (by rw[List.getElem?_map,hx];rfl)
  exact⟨v,v1,v2,v3.unren x rfl⟩
mutual
def eqA:AVal→AVal→Bool
 | .any,.any=>true
 | .bool a,.bool b=>a == b
 | .int k n,.int k' n'=>k == k'&&n == n'
 | .str s,.str t=>s == t
 | .nilp,.nilp=>true
 | .nils,.nils=>true
 | .nilf,.nilf=>true
 | .nili,.nili=>true
 | .ptr n k j,.ptr n' k' j'=>Nat.beq n n'&&Nat.beq k k'&&Nat.beq j j'
 | .slice n o l z c,.slice n' o' l' z' c'=>Nat.beq n n'&&Nat.beq o o'&&Nat.beq l l'&&Nat.beq z z'&&c == c'
 | .obj n,.obj n'=>Nat.beq n n'
 | .sym n,.sym n'=>Nat.beq n n'
 | .zs z,.zs z'=>Nat.beq z z'
 | .agg cs,.agg ds=>EE cs ds
 | .tup cs,.tup ds=>EE cs ds
 | .func f cs,.func g ds=>Nat.beq f g&&EE cs ds
 | .iface t v,.iface u w=>Nat.beq t u&&eqA v w
 |_,_=>false
def EE:List AVal→List AVal→Bool
 |[],[]=>true
 |a::l,b::m=>eqA a b&&EE l m
 |_,_=>false
end
mutual
theorem MR:∀(a b:AVal),eqA a b=true→a=b:=by
 intro a b h
 cases a<;>cases b<;>simp only[eqA,Bool.and_eq_true,beq_iff_eq,Bool.false_eq_true,reduceCtorEq]at h<;>first
  |rfl
  |(subst h;rfl)
  |(obtain⟨rfl,rfl⟩:=h;rfl)
  |(obtain⟨⟨h1,h2⟩,h3⟩:=h;rw[Nat.eq_of_beq_eq_true h1,Nat.eq_of_beq_eq_true h2,Nat.eq_of_beq_eq_true h3])
  |(obtain⟨⟨⟨⟨h1,h2⟩,h3⟩,h4⟩,h5⟩:=h;rw[Nat.eq_of_beq_eq_true h1,Nat.eq_of_beq_eq_true h2,Nat.eq_of_beq_eq_true h3,Nat.eq_of_beq_eq_true h4,h5])
  |(rw[Nat.eq_of_beq_eq_true h])
  |(rw[GG _ _ h])
  |(obtain⟨h1,h2⟩:=h;rw[Nat.eq_of_beq_eq_true h1,GG _ _ h2])
  |(obtain⟨h1,h2⟩:=h;rw[Nat.eq_of_beq_eq_true h1,MR _ _ h2])
theorem GG:∀(a b:List AVal),EE a b=true→a=b:=by
 intro a b h
 cases a<;>cases b<;>simp only[EE,Bool.and_eq_true,Bool.false_eq_true]at h
 ·rfl
 ·rw[MR _ _ h.1,GG _ _ h.2]
end
def JJ:List (List AVal)→List (List AVal)→Bool
 |[],[]=>true
 |a::l,b::m=>EE a b&&JJ l m
 |_,_=>false
theorem D5:∀(a b:List (List AVal)),JJ a b=true→a=b
 |[],[],_=>rfl
 |a::l,b::m,h=>by
  simp only[JJ,Bool.and_eq_true]at h
  rw[GG _ _ h.1,D5 _ _ h.2]
 |[],_::_,h=>by simp[JJ]at h
 |_::_,[],h=>by simp[JJ]at h
def Gi:Blk→Blk→Bool
 | .cells r o,.cells r' o'=>JJ r r'&&o == o'
 | .iter s p,.iter s' p'=>s == s'&&Nat.beq p p'
 |_,_=>false
theorem MQ:∀(a b:Blk),Gi a b=true→a=b
 | .cells r o,.cells r' o',h=>by
   simp only[Gi,Bool.and_eq_true,beq_iff_eq]at h
   rw[D5 _ _ h.1,h.2]
 | .iter s p,.iter s' p',h=>by
   simp only[Gi,Bool.and_eq_true,beq_iff_eq]at h
   rw[h.1,Nat.eq_of_beq_eq_true h.2]
 | .cells _ _,.iter _ _,h=>by simp[Gi]at h
 | .iter _ _,.cells _ _,h=>by simp[Gi]at h
mutual
def AVal.nums:AVal→List Nat
 | .ptr n _ _=>[n]
 | .slice n _ _ _ _=>[n]
 | .obj n=>[n]
 | .agg cs=>AVal.numsL cs
 | .tup cs=>AVal.numsL cs
 | .func _ cs=>AVal.numsL cs
 | .iface _ v=>v.nums
 |_=>[]
def AVal.numsL:List AVal→List Nat
 |[]=>[]
 |x::l=>x.nums++AVal.numsL l
end
def Blk.nums:Blk→List Nat
 | .cells rows _=>(rows.map AVal.numsL).flatten
 | .iter _ _=>[]
def Jr(H:Heap)(m:Nat):Nat→List Nat→List Nat→List Nat
 |0,_,done=>done
 |_,[],done=>done
 |k+1,n::t,done=>if Nat.blt n m||done.any (Nat.beq n)then Jr H m k t done else
  match H.get n with
  |some b=>Jr H m k (b.nums++t) (done++[n])
  |none=>Jr H m k t done
def Xm(m:Nat)(l:List Nat)(big n:Nat):Nat:=bif Nat.blt n m then n else bif Nat.blt (n-m) l.length then l.getD (n-m) 0 else big+n
def PT(n:Nat):List Nat→Nat
 |[]=>0
 |x::l=>bif Nat.beq n x then 0 else PT n l+1
def OU(m:Nat)(l:List Nat)(n:Nat):Nat:=bif Nat.blt n m then n else m+PT n l
def Er(H:Heap)(m:Nat)(l:List Nat):Nat→List Nat→Heap
 |_,[]=>[]
 |i,n::t=>(m+i,(H.get n).map (Blk.ren (OU m l)))::Er H m l (i+1) t
def Pi(H' H3:Heap)(v v3:AVal)(m:Nat)(l:List Nat)(big:Nat):Bool:=
 l.all (Nat.ble m)&&decide l.Nodup&&eqA (v3.ren (Xm m l big)) v&&H3.all fun p=>match p.2 with
  |some b=>Nat.blt p.1 (m+l.length)&&(match H'.get (Xm m l big p.1)with|some b0=>Gi (b.ren (Xm m l big)) b0|none=>false)
  |none=>true
theorem Heap.get_mem:∀{H:Heap} {n:Nat} {b:Blk},H.get n=some b→(n,some b)∈H
 |[],n,b,h=>by rw[Heap.get_nil]at h;cases h
 |(k,c)::H,n,b,h=>by
  rw[Heap.get_cons]at h
  cases hb:Nat.beq n k with
  |true=>rw[hb]at h;obtain rfl:=Nat.eq_of_beq_eq_true hb;exact List.mem_cons.2 (.inl (by rw[show c=some b from h]))
  |false=>rw[hb]at h;exact List.mem_cons_of_mem _ (Heap.get_mem h)
theorem XC{m:Nat}{l:List Nat}{big n:Nat}(h:n<m):Xm m l big n=n:=by
 have:Nat.blt n m=true:=by rw[Nat.blt_eq];exact h
 rw[Xm,this];rfl
theorem V9{m:Nat}{l:List Nat}{big n:Nat}(h1:m≤n)(h2:n<m+l.length):Xm m l big n=l.getD (n-m) 0:=by
 have a:Nat.blt n m=false:=by rw[Bool.eq_false_iff,ne_eq,Nat.blt_eq];omega
 have b:Nat.blt (n-m) l.length=true:=by rw[Nat.blt_eq];omega
 rw[Xm,a,b];rfl
theorem Hp{m:Nat}{l:List Nat}{big n:Nat}(h2:m+l.length≤n):Xm m l big n=big+n:=by
 have a:Nat.blt n m=false:=by rw[Bool.eq_false_iff,ne_eq,Nat.blt_eq];omega
 have b:Nat.blt (n-m) l.length=false:=by rw[Bool.eq_false_iff,ne_eq,Nat.blt_eq];omega
 rw[Xm,a,b];rfl
theorem IR[Syms]{P:Program}{f:FuncId}{args:List AVal}{H:Heap}{nx:Nat}{v:AVal}{H':Heap}{nx':Nat}(h:Y6 P f args H nx v H' nx')(l:List Nat)(v3:AVal)(H3:Heap)
 (hok:Pi H' H3 v v3 nx l nx'=true):Y6 P f args H nx v3 H3 (nx+l.length):=by
 unfold Pi at hok
 simp only[Bool.and_eq_true,decide_eq_true_eq]at hok
 obtain⟨⟨⟨g1,g2⟩,g3⟩,g4⟩:=hok
 have hv:=MR _ _ g3
 have hge:∀{n},nx≤n→n<nx+l.length→nx≤Xm nx l nx' n∧(n-nx)<l.length:=fun{n} h1 h2=>by
  have hlt:n-nx<l.length:=by omega
  refine⟨?_,hlt⟩
  rw[V9 h1 h2]
  have:l.getD (n-nx) 0=l[n-nx]:=by simp[hlt]
  rw[this]
  exact Nat.le_of_ble_eq_true (List.all_eq_true.1 g1 _ (List.getElem_mem hlt))
 have hinj:∀{n k},n<nx+l.length→k<nx+l.length→Xm nx l nx' n=Xm nx l nx' k→n=k:=fun{n k} hn hk e=>by
  rcases Nat.lt_or_ge n nx with a|a<;>rcases Nat.lt_or_ge k nx with b|b
  ·rw[XC a,XC b]at e;exact e
  ·have:=(hge b hk).1;rw[XC a]at e;omega
  ·have:=(hge a hn).1;rw[XC b]at e;omega
  ·obtain⟨_,ha⟩:=hge a hn
   obtain⟨_,hb⟩:=hge b hk
   rw[V9 a hn,V9 b hk]at e
   have e1:l.getD (n-nx) 0=l[n-nx]:=by simp[ha]
   have e2:l.getD (k-nx) 0=l[k-nx]:=by simp[hb]
   rw[e1,e2]at e
   rcases Nat.lt_trichotomy (n-nx) (k-nx)with h|h|h
   ·exact absurd e (List.pairwise_iff_getElem.1 g2 _ _ ha hb h)
   ·omega
   ·exact absurd e.symm (List.pairwise_iff_getElem.1 g2 _ _ hb ha h)
 have hH3:∀n b,H3.get n=some b→n<nx+l.length∧H'.get (Xm nx l nx' n)=some (b.ren (Xm nx l nx')):=fun n b hn=>by
  have:=List.all_eq_true.1 g4 _ (Heap.get_mem hn)
  simp only[Bool.and_eq_true,Nat.blt_eq]at this
  refine⟨this.1,?_⟩
  have h2:=this.2
  split at h2
  ·rename_i b0 hb0
   rw[hb0,MQ _ _ h2]
  ·cases h2
 intro ι w vs hvs hH hb
 refine(h ι w vs hvs hH hb).mono ?_
 rintro e w' ⟨r,κ,rfl,hr,hH',⟨hst,hup,hfr⟩,hb'⟩
 have hown:∀g,Own (κ.pull (Xm nx l nx')) H3 g→Own κ H' g:=by
  rintro g ⟨n,b,L,h1,h2,h3,h4⟩
  exact⟨Xm nx l nx' n,b.ren (Xm nx l nx'),L,(hH3 n b h1).2,by rw[Blk.ren_ro];exact h2,h3,h4⟩
 refine⟨r,κ.pull (Xm nx l nx'),rfl,hr.unren v3 hv.symm,⟨fun n b hn=>?_,fun n k b c L M h1 h2 h3 h4 h5=>?_,fun g cs hg=>⟨(hH'.fz g cs hg).1,fun ho=>(hH'.fz g cs hg).2 (hown g ho)⟩⟩,
  ⟨⟨⟨fun n L hn=>?_,hst.le.2⟩,hst.os,hst.tape,hst.output,hst.size,hst.same,fun g hg=>hst.own g (hown g hg),hst.fzs⟩,Nat.le_add_right _ _,fun n L hn=>?_⟩,fun n L hn=>?_⟩
 ·obtain⟨L,h1,h2⟩:=hH'.blk _ _ (hH3 n b hn).2
  exact⟨L,h1,h2.unren⟩
 ·rcases hH'.inj _ _ _ _ L M (hH3 n b h1).2 (hH3 k c h2).2 h3 h4 h5 with h|h
  ·exact .inl (hinj (hH3 n b h1).1 (hH3 k c h2).1 h)
  ·rw[Blk.ren_ro,Blk.ren_ro]at h;exact .inr h
 ·show κ (Xm nx l nx' n)=some L
  rw[XC (hb n L hn).1]
  exact hst.le.1 n L hn
 ·rcases Nat.lt_or_ge n nx with a|a
  ·have hn:κ (Xm nx l nx' n)=some L:=hn
   rw[XC a]at hn
   rcases hfr n L hn with h|h
   ·exact .inl h
   ·omega
  ·exact .inr a
 ·have hn:κ (Xm nx l nx' n)=some L:=hn
  refine⟨?_,(hb' _ L hn).2⟩
  rcases Nat.lt_or_ge n (nx+l.length)with a|a
  ·exact a
  ·rw[Hp a]at hn
   have:=(hb' _ L hn).1
   omega
end Go.Av
end
end
section
set_option linter.unusedVariables false
set_option linter.unusedSimpArgs false
noncomputable section
namespace Go.Av
def P7(acc:List Nat)(o:Oper):Nat:=
 o.after.toList.foldl (fun s e=>if Region.binds .any e then s ||| 2^e.on ||| acc.getD e.on 0 else s) 0
def HC:List Nat→List Oper→List Nat
 |acc,[]=>acc
 |acc,o::l=>HC (acc++[P7 acc o]) l
def C4(ops:Array Oper):List Nat:=HC [] ops.toList
def Xc(p:Nat→Bool):Nat→Bool
 |0=>true
 |n+1=>p n&&Xc p n
theorem QX{p:Nat→Bool}:∀{n:Nat},Xc p n=true→ ∀k,k<n→p k=true
 |n+1,h,k,hk=>by
  simp only[Xc,Bool.and_eq_true]at h
  rcases Nat.lt_succ_iff_lt_or_eq.1 hk with h'|rfl
  ·exact QX h.2 k h'
  ·exact h.1
def Ce:Op→Bool
 | .select _ _=>true
 |_=>false
def HA(ops:Array Oper)(i:Nat):Bool:=
 match ops[i]? with
 |some o=>(match o.op with| .move _| .assign _=>true|_=>false)&&o.guard.isNone&&o.after.toList.all (fun e=>!Region.binds .any e)&&
  Xc (fun j=>Nat.beq j i||(match ops[j]? with
   |some oj=>oj.after.toList.any (fun e=>Region.binds .any e&&Nat.beq e.on i)||o.apart ops oj
   |none=>true)) ops.size
 |none=>false
def VD(ops:Array Oper):Nat→List Nat
 |0=>[]
 |i+1=>if HA ops i then i::VD ops i else VD ops i
theorem VC(ops:Array Oper):∀(n:Nat),(VD ops n).Nodup∧ ∀i∈VD ops n,i<n∧HA ops i=true
 |0=>⟨List.nodup_nil,by simp[VD]⟩
 |n+1=>by
  obtain⟨h1,h2⟩:=VC ops n
  unfold VD
  split
  ·rename_i h
   refine⟨List.nodup_cons.2 ⟨fun hin=>Nat.lt_irrefl _ (h2 n hin).1,h1⟩,fun i hi=>?_⟩
   rcases List.mem_cons.1 hi with rfl|hi
   ·exact⟨Nat.lt_succ_self _,h⟩
   ·exact⟨Nat.lt_succ_of_lt (h2 i hi).1,(h2 i hi).2⟩
  ·exact⟨h1,fun i hi=>⟨Nat.lt_succ_of_lt (h2 i hi).1,(h2 i hi).2⟩⟩
theorem UO{ops:Array Oper}{i:Nat}(h:HA ops i=true):Bt ops i:=by
 unfold HA at h
 split at h
 ·rename_i o ho
  simp only[Bool.and_eq_true]at h
  obtain⟨⟨⟨h1,h2⟩,h3⟩,h4⟩:=h
  have hx:∃x,o.op= .move x∨o.op= .assign x:=by
   split at h1
   ·rename_i x hx;exact⟨x,.inl hx⟩
   ·rename_i x hx;exact⟨x,.inr hx⟩
   ·cases h1
  obtain⟨x,hx⟩:=hx
  refine⟨o,x,ho,hx,by simpa using h2,fun e he=>by simpa using List.all_eq_true.1 h3 e (by simpa using he),fun j oj hj hne hed=>?_⟩
  have:=QX h4 j (Array.getElem?_eq_some_iff.1 hj).1
  rw[hj]at this
  simp only[Qd hne,Bool.false_or,Bool.or_eq_true]at this
  rcases this with h|h
  ·obtain⟨e,he,hb⟩:=List.any_eq_true.1 h
   simp only[Bool.and_eq_true]at hb
   exact absurd (Nat.eq_of_beq_eq_true hb.2) (hed e (by simpa using he) hb.1)
  ·exact h
 ·cases h
def O4(l:List Nat):Nat:=l.foldl (fun s i=>s ||| 2^i) 0
def C3(mv:Nat)(l:List Nat):Nat→List Nat→List Nat
 |_,[]=>[]
 |i,m::r=>(if l.contains i then m else m ||| (mv &&& (2^i-1)))::C3 mv l (i+1) r
def U5(ops:Array Oper)(ms:List Nat)(l:List Nat)(n:Nat):Bool:=
 l.all (fun i=>Nat.blt i n&&Nat.beq (ms.getD i 0) 0)&&
 Nat.ble n ops.size&&
 Xc (fun i=>match ops[i]? with
  |some o=>
   !Ce o.op&&
   o.after.toList.all (fun e=>!Region.binds .any e||(Nat.blt e.on i&&(ms.getD i 0).testBit e.on))&&
   Xc (fun k=>!(ms.getD i 0).testBit k||
    (Nat.beq (Nat.lor (ms.getD k 0) (ms.getD i 0)) (ms.getD i 0)&&(l.contains k||o.after.toList.any (fun e=>Region.binds .any e&&(Nat.beq e.on k||(ms.getD e.on 0).testBit k))))) i&&
   Nat.blt (ms.getD i 0) (2^i)&&
   (Nat.ble n i||
     Xc (fun k=>Nat.beq k i||(match ops[k]? with
      |some p=>(match p.dst with
       |some d=>!(o.looksAt ops).contains d||(ms.getD i 0).testBit k||(ms.getD k 0).testBit i
       |none=>true)
      |none=>true)) ops.size)&&
   (Nat.ble n i||(match o.dst with
     |some d=>Xc (fun k=>match ops[k]? with
      |some p=>(match p.dst with|some d'=>!Nat.beq d d'|none=>true)
      |none=>true) i
     |none=>true))&&
   (Nat.blt i n||Xc (fun k=>(ms.getD i 0).testBit k) i)
  |none=>true) ops.size&&
 Nat.beq ms.length ops.size
theorem CT{m i k:Nat}(h:m<2^i)(hb:m.testBit k=true):k<i:=by
 rcases Nat.lt_or_ge k i with h'|h'
 ·exact h'
 ·have:m<2^k:=Nat.lt_of_lt_of_le h (Nat.pow_le_pow_right (by omega) h')
  rw[Nat.testBit_lt_two_pow this]at hb
  cases hb
theorem U4[Syms]{ops:Array Oper}{ms l:List Nat}{n:Nat}(h:U5 ops ms l n=true):Plan ops n (fun i k=>(ms.getD i 0).testBit k) (fun k=>l.contains k)∧ ∀i∈l,i<n∧ms.getD i 0=0:=by
 simp only[U5,Bool.and_eq_true]at h
 obtain⟨⟨⟨hl,h0⟩,h1⟩,h2⟩:=h
 refine⟨?_,fun i hi=>by
  have:=List.all_eq_true.1 hl i hi
  simp only[Bool.and_eq_true,Nat.blt_eq]at this
  exact⟨this.1,Nat.eq_of_beq_eq_true this.2⟩⟩
 have hlen:ms.length=ops.size:=Nat.eq_of_beq_eq_true h2
 have at_:∀i o,ops[i]?=some o→_:=fun i o ho=>by
  have hi:i<ops.size:=(Array.getElem?_eq_some_iff.1 ho).1
  have:=QX h1 i hi
  rw[ho]at this
  simp only[Bool.and_eq_true]at this
  exact this
 have sz:∀i k,(ms.getD i 0).testBit k=true→i<ops.size:=by
  intro i k hb
  rcases Nat.lt_or_ge i ops.size with h'|h'
  ·exact h'
  ·rw[List.getD_eq_getElem?_getD,List.getElem?_eq_none (by omega)]at hb
   simp at hb
 have lt:∀i k,(ms.getD i 0).testBit k=true→k<i:=by
  intro i k hb
  obtain⟨⟨⟨⟨⟨⟨_,_⟩,_⟩,h3⟩,_⟩,_⟩,_⟩:=at_ i _ (Array.getElem?_eq_getElem (sz i k hb))
  exact CT (by simpa[Nat.blt_eq]using h3) hb
 refine⟨by simpa using h0,fun j o cs b ho hs=>?_,fun i o ho e he hb=>?_,fun i k l hik hkl=>?_,lt,fun i k hik=>?_,fun i k o p d ho hp hin hki hd hl=>?_,fun i k o p d ho hp hik hkn hd hd'=>?_,fun t k hnt htsz hkt=>?_⟩
 ·obtain⟨⟨⟨⟨⟨⟨h3,_⟩,_⟩,_⟩,_⟩,_⟩,_⟩:=at_ j o ho
  rw[hs]at h3
  simp[Ce]at h3
 ·obtain⟨⟨⟨⟨⟨⟨_,h3⟩,_⟩,_⟩,_⟩,_⟩,_⟩:=at_ i o ho
  have:=List.all_eq_true.1 h3 e (by simpa using he)
  rw[hb]at this
  simpa[Nat.blt_eq]using this
 ·have hki:=lt i k hik
  obtain⟨⟨⟨⟨⟨⟨_,_⟩,h3⟩,_⟩,_⟩,_⟩,_⟩:=at_ i _ (Array.getElem?_eq_getElem (sz i k hik))
  have:=QX h3 k hki
  rw[hik]at this
  simp only[Bool.not_true,Bool.false_or,Bool.and_eq_true]at this
  have heq:=Nat.eq_of_beq_eq_true this.1
  rw[←heq,show Nat.lor (ms.getD k 0) (ms.getD i 0)=ms.getD k 0 ||| ms.getD i 0 from rfl,Nat.testBit_or,hkl]
  rfl
 ·have hki:=lt i k hik
  obtain⟨⟨⟨⟨⟨⟨_,_⟩,h3⟩,_⟩,_⟩,_⟩,_⟩:=at_ i _ (Array.getElem?_eq_getElem (sz i k hik))
  have:=QX h3 k hki
  rw[hik]at this
  simp only[Bool.not_true,Bool.false_or,Bool.and_eq_true]at this
  rcases Bool.or_eq_true _ _▸this.2 with hlk|hlk
  ·exact .inl hlk
  right
  obtain⟨e,he,hb⟩:=List.any_eq_true.1 hlk
  simp only[Bool.and_eq_true,Bool.or_eq_true]at hb
  refine⟨_,Array.getElem?_eq_getElem (sz i k hik),e,by simpa using he,hb.1,?_⟩
  rcases hb.2 with h|h
  ·exact .inl (Nat.eq_of_beq_eq_true h)
  ·exact .inr h
 ·obtain⟨⟨⟨⟨⟨⟨_,_⟩,_⟩,_⟩,h3⟩,_⟩,_⟩:=at_ i o ho
  rw[Bool.or_eq_true]at h3
  have h3':=h3.resolve_left (fun h=>absurd (Nat.le_of_ble_eq_true h) (by omega))
  have:=QX h3' k (Array.getElem?_eq_some_iff.1 hp).1
  simp only[hp,hd,Qd hki,Bool.false_or,Bool.or_eq_true,Bool.not_eq_true']at this
  rcases this with(h|h)|h
  ·have:(o.looksAt ops).contains d=true:=by simpa using hl
   rw[this]at h;cases h
  ·exact .inl h
  ·exact .inr h
 ·obtain⟨⟨⟨⟨⟨⟨_,_⟩,_⟩,_⟩,_⟩,h3⟩,_⟩:=at_ k p hp
  rw[Bool.or_eq_true]at h3
  rcases h3 with h|h
  ·exact absurd (Nat.le_of_ble_eq_true h) (by omega)
  ·rw[hd']at h
   simp only at h
   have:=QX h i hik
   simp only[ho,hd,Nat.beq_refl,Bool.not_true]at this
   cases this
 ·obtain⟨⟨⟨⟨⟨⟨_,_⟩,_⟩,_⟩,_⟩,_⟩,h3⟩:=at_ t _ (Array.getElem?_eq_getElem htsz)
  rw[Bool.or_eq_true]at h3
  rcases h3 with h|h
  ·have:t<n:=by simpa[Nat.blt_eq]using h
   omega
  ·exact QX h k hkt
def Jg(ms:List Nat):Nat→Nat
 |0=>0
 |t+1=>if Nat.beq (ms.getD t 0) (2^t-1)then Jg ms t else t+1
def mvs(ops:Array Oper):List Nat:=VD ops ops.size
def K5(ops:Array Oper):List Nat:=C3 (O4 (mvs ops)) (mvs ops) 0 (C4 ops)
def GW(ops:Array Oper):Nat:=if Nat.beq (Jg (K5 ops) ops.size) 0&&(mvs ops).contains 0 then 1 else Jg (K5 ops) ops.size
abbrev CallF:=FuncId→List AVal→Heap→Nat→Option (AVal×Heap×Nat)
def CallF.ok[Syms](P:Program)(call:CallF):Prop:=∀f args H nx v H' nx',call f args H nx=some (v,H',nx')→UI P f∧Y6 P f args H nx v H' nx'
def V4:Op→Option (Operand×Array Operand)
 | .call {callee:=.value fo,args,..}=>some (fo,args)
 |_=>none
theorem XU{o:Op}{fo:Operand}{args:Array Operand}(h:V4 o=some (fo,args)):∃argTypes,o= .call {callee:=.value fo,args,argTypes}:=by
 unfold V4 at h
 split at h
 ·simp only[Option.some.injEq,Prod.mk.injEq]at h
  obtain⟨rfl,rfl⟩:=h
  exact⟨_,rfl⟩
 ·cases h
def Mp(call:CallF)(tt:TT)(N:Nat)(ops:Array Oper)(o:Oper)(s:St):Option St:=
 if Z6 N o.dst then
  match Qo ops s.env o with
  |some false=>some ⟨s.env.put o.dst undefA,s.heap,s.nx⟩
  |some true=>
   match V4 o.op with
   |some (fo,args)=>
    match s.ev fo with
    | .func fid caps=>
      match call (KN fid) (VV fid (args.toList.map s.ev) caps) s.heap s.nx with
      |some (v,H',nx')=>some ⟨s.env.put o.dst v,H',nx'⟩
      |none=>none
    |_=>none
   |none=>
    match aop tt s.ev s.heap s.nx o.op with
    |some r=>some ⟨s.env.put o.dst r.v,r.heap s.heap s.nx,r.next s.nx⟩
    |none=>none
  |none=>none
 else none
theorem Gb[Syms]{P:Program}{call:CallF}{tt:TT}{N:Nat}{ops:Array Oper}{o:Oper}{s s':St}(htt:TT.ok P tt)(hcall:call.ok P)(h:Mp call tt N ops o s=some s'):Xd P N ops o s s':=by
 unfold Mp at h
 split at h
 ·rename_i hd
  split at h
  ·rename_i hw
   cases h
   exact VB hw hd
  ·rename_i hw
   split at h
   ·rename_i fo args hc
    obtain⟨argTypes,ho⟩:=XU hc
    split at h
    ·rename_i fid caps hf
     split at h
     ·rename_i v H' nx' hrun
      cases h
      obtain⟨h1,h2⟩:=hcall _ _ _ _ _ _ _ hrun
      exact Mo hw hd ho hf h1 h2
     ·cases h
    ·cases h
   ·split at h
    ·rename_i r hr
     cases h
     exact Ve htt hw hd hr
    ·cases h
  ·cases h
 ·cases h
def Vx(call:CallF)(tt:TT)(N:Nat)(ops:Array Oper)(l:List Oper):St→Option St:=@List.rec Oper (fun _=>St→Option St) (fun s=>some s) (fun o _ ih s=>@Option.rec St (fun _=>Option St) none ih (Mp call tt N ops o s)) l
theorem M3(call:CallF)(tt:TT)(N:Nat)(ops:Array Oper)(s:St):Vx call tt N ops [] s=some s:=rfl
theorem G8(call:CallF)(tt:TT)(N:Nat)(ops:Array Oper)(o:Oper)(l:List Oper)(s:St):Vx call tt N ops (o::l) s=match Mp call tt N ops o s with
 |some s1=>Vx call tt N ops l s1
 |none=>none:=by
 show @Option.rec St (fun _=>Option St) none (Vx call tt N ops l) (Mp call tt N ops o s)=_
 cases Mp call tt N ops o s<;>rfl
theorem Vw[Syms]{P:Program}{call:CallF}{tt:TT}{N:Nat}{ops:Array Oper}(htt:TT.ok P tt)(hcall:call.ok P):∀{l:List Oper} {s s':St},Vx call tt N ops l s=some s'→WQ P N ops l s s'
 |[],s,s',h=>by simp only[M3,G8,Option.some.injEq]at h;exact h
 |o::l,s,s',h=>by
  simp only[M3,G8]at h
  split at h
  ·rename_i s1 h1
   exact⟨s1,Gb htt hcall h1,Vw htt hcall h⟩
  ·cases h
def Wp(m:Nat)(H:Heap):List (Nat×Option Blk)→List (Nat×Blk)
 |[]=>[]
 |(k,_)::l=>match Nat.ble m k&&Nat.blt k (m+RR),H.get k with
  |true,some b=>if b.ro then Wp m H l else(k,b)::Wp m H l
  |_,_=>Wp m H l
theorem QQ{m:Nat}{H:Heap}:∀{l:List (Nat×Option Blk)} {id:Nat} {b:Blk},(id,b)∈Wp m H l→H.get id=some b∧b.ro=false∧m≤id∧id<m+RR
 |(k,_)::l,id,b,h=>by
  simp only[Wp]at h
  split at h
  ·rename_i c h1 h2
   split at h
   ·exact QQ h
   ·rename_i hro
    rcases List.mem_cons.1 h with he|he
    ·cases he
     simp only[Bool.and_eq_true]at h1
     exact⟨h2,by simpa using hro,Nat.le_of_ble_eq_true h1.1,by simpa[Nat.blt_eq]using h1.2⟩
    ·exact QQ he
  ·exact QQ h
def AVal.under1(B:Nat):AVal→Bool
 | .ptr n _ _=>Nat.blt n B
 | .slice n _ _ _ _=>Nat.blt n B
 | .obj n=>Nat.blt n B
 | .tagp n _=>Nat.blt n B
 | .tslice n _ _ _=>Nat.blt n B
 | .agg _| .tup _| .func _ _| .iface _ _=>false
 |_=>true
def AVal.under(B:Nat):AVal→Bool
 | .agg cs=>cs.all (AVal.under1 B)
 | .tup cs=>cs.all (AVal.under1 B)
 | .func _ cs=>cs.all (AVal.under1 B)
 |v=>v.under1 B
def Blk.under(B:Nat):Blk→Bool
 | .cells rows _=>rows.all fun r=>r.all (AVal.under B)
 | .iter _ _=>true
def N9(B:Nat)(H:Heap)(k:Nat):Option Blk:=
 match H.get k with
 |some b=>if Nat.blt k B&&b.under B then some b else none
 |none=>none
def On(B:Nat)(H:Heap):Heap:=H.map fun p=>(p.1,N9 B H p.1)
theorem Ge(f:Nat→Option Blk):∀(l:Heap) (n:Nat) (b:Blk),Heap.get (l.map fun p=>(p.1,f p.1)) n=some b→f n=some b
 |[],n,b,h=>by simp[Heap.get_nil]at h
 |(k,c)::l,n,b,h=>by
  simp only[List.map_cons,Heap.get_cons]at h
  cases hb:Nat.beq n k with
  |true=>rw[hb]at h;rw[Nat.eq_of_beq_eq_true hb];exact h
  |false=>rw[hb]at h;exact Ge f l n b h
theorem Ud{B:Nat}{H:Heap}{n:Nat}{b:Blk}(h:(On B H).get n=some b):H.get n=some b∧n<B∧b.under B=true:=by
 have h:=Ge (N9 B H) H n b h
 unfold N9 at h
 split at h
 ·rename_i c hc
  split at h
  ·rename_i hx
   cases h
   simp only[Bool.and_eq_true,Nat.blt_eq]at hx
   exact⟨hc,hx.1,hx.2⟩
  ·cases h
 ·cases h
def Inj.cutB(B:Nat)(κ:Inj):Inj:=⟨fun n=>if n<B then κ n else none,κ.fz⟩
theorem Inj.cutB_lt{B:Nat}{κ:Inj}{n:Nat}(h:n<B):κ.cutB B n=κ n:=by simp[Inj.cutB,h]
theorem Inj.cutB_some{B:Nat}{κ:Inj}{n:Nat}{L:Loc}(h:κ.cutB B n=some L):n<B∧κ n=some L:=by
 simp only[Inj.cutB]at h
 split at h
 ·exact⟨by assumption,h⟩
 ·cases h
theorem RelV.under1[Syms]{B:Nat}{κ:Inj}{x:AVal}{v:Value}(h:RelV κ x v)(hx:x.under1 B=true):RelV (κ.cutB B) x v:=by
 cases h with
 |any v=>exact .any v
 |bool b=>exact .bool b
 |int k n=>exact .int k n
 |str s=>exact .str s
 |nilp=>exact .nilp
 |ptr n k j L h=>exact .ptr n k j L (by rw[Inj.cutB_lt (by simpa[AVal.under1,Nat.blt_eq]using hx)];exact h)
 |nils=>exact .nils
 |slice n off len sz cap L a c h hs ha hl hp hm hc=>exact .slice n off len sz cap L a c (by rw[Inj.cutB_lt (by simpa[AVal.under1,Nat.blt_eq]using hx)];exact h) hs ha hl hp hm hc
 |vs sz rows g o c cs hf hl hm hp hr h1 h=>exact .vs sz rows g o c cs hf hl hm hp hr h1 h
 |vz sz a c hm hc=>exact .vz sz a c hm hc
 |vt sz n f v h=>
  refine .vt sz n f v ?_
  generalize XW n f=rows at h ⊢
  cases h with
  |vs _ _ g o c cs hf hl hm hp hr h1 h=>exact .vs _ _ _ _ _ cs hf hl hm hp hr h1 h
  |vz _ a c hm hc=>exact .vz _ a c hm hc
 |vp row j g b cs hf hp h1 h=>exact .vp row j g b cs hf hp h1 h
 |zs sz a=>exact .zs sz a
 |agg cs vs hl h=>cases hx
 |tup cs vs hl h=>cases hx
 |func f cs vs hf hl h=>cases hx
 |bfunc f cs vs hl h=>cases hx
 |nilf=>exact .nilf
 |nili=>exact .nili
 |iface t x v h=>cases hx
 |obj n L h=>exact .obj n L (by rw[Inj.cutB_lt (by simpa[AVal.under1,Nat.blt_eq]using hx)];exact h)
 |tagp n t L h ht=>exact .tagp n t L (by rw[Inj.cutB_lt (by simpa[AVal.under1,Nat.blt_eq]using hx)];exact h) ht
 |tnils=>exact .tnils
 |tslice n len sz t L c h hs ht hl hp hm=>exact .tslice n len sz t L c (by rw[Inj.cutB_lt (by simpa[AVal.under1,Nat.blt_eq]using hx)];exact h) hs ht hl hp hm
 |sym n=>exact .sym n
theorem RelV.under[Syms]{B:Nat}{κ:Inj}{x:AVal}{v:Value}(h:RelV κ x v)(hx:x.under B=true):RelV (κ.cutB B) x v:=by
 cases h with
 |agg cs vs hl h=>exact .agg cs vs hl fun i c v h1 h2=>(h i c v h1 h2).under1 (List.all_eq_true.1 hx c (List.mem_of_getElem? h1))
 |tup cs vs hl h=>exact .tup cs vs hl fun i c v h1 h2=>(h i c v h1 h2).under1 (List.all_eq_true.1 hx c (List.mem_of_getElem? h1))
 |func f cs vs hf hl h=>exact .func f cs vs hf hl fun i c v h1 h2=>(h i c v h1 h2).under1 (List.all_eq_true.1 hx c (List.mem_of_getElem? h1))
 |bfunc f cs vs hl h=>exact .bfunc f cs vs hl fun i c v h1 h2=>(h i c v h1 h2).under1 (List.all_eq_true.1 hx c (List.mem_of_getElem? h1))
 |any v=>exact RelV.under1 (.any v) hx
 |bool b=>exact RelV.under1 (.bool b) hx
 |int k n=>exact RelV.under1 (.int k n) hx
 |str s=>exact RelV.under1 (.str s) hx
 |nilp=>exact RelV.under1 .nilp hx
 |ptr n k j L h=>exact RelV.under1 (.ptr n k j L h) hx
 |nils=>exact RelV.under1 .nils hx
 |slice n off len sz cap L a c h hs ha hl hp hm hc=>exact RelV.under1 (.slice n off len sz cap L a c h hs ha hl hp hm hc) hx
 |nilf=>exact RelV.under1 .nilf hx
 |nili=>exact RelV.under1 .nili hx
 |iface t x v h=>cases hx
 |vs sz rows g o c cs hf hl hm hp hr h1 h=>exact .vs sz rows g o c cs hf hl hm hp hr h1 h
 |vz sz a c hm hc=>exact .vz sz a c hm hc
 |vt sz n f v h=>exact RelV.under1 (.vt sz n f v h) hx
 |vp row j g b cs hf hp h1 h=>exact .vp row j g b cs hf hp h1 h
 |zs sz a=>exact .zs sz a
 |obj n L h=>exact RelV.under1 (.obj n L h) hx
 |tagp n t L h ht=>exact RelV.under1 (.tagp n t L h ht) hx
 |tnils=>exact RelV.under1 .tnils hx
 |tslice n len sz t L c h hs ht hl hp hm=>exact RelV.under1 (.tslice n len sz t L c h hs ht hl hp hm) hx
 |sym n=>exact RelV.under1 (.sym n) hx
theorem Zf.under[Syms]{B:Nat}{κ:Inj}{w:World}{L:Loc}{b:Blk}(h:Zf κ w L b)(hb:b.under B=true):Zf (κ.cutB B) w L b:=by
 cases b with
 |iter s pos=>exact h
 |cells rows ro=>
  obtain⟨cs,e,fz,h1,h2,h3,h4,h5,h6⟩:=h
  refine⟨cs,e,fz,h1,h2,h3,fun k row hk=>⟨(h4 k row hk).1,fun j x hj=>?_⟩,h5,h6⟩
  obtain⟨v,g1,g2,g3⟩:=(h4 k row hk).2 j x hj
  have hr:=List.all_eq_true.1 (List.all_eq_true.1 hb row (List.mem_of_getElem? hk)) x (List.mem_of_getElem? hj)
  exact⟨v,g1,g2,g3.under hr⟩
theorem H4[Syms]{P:Program}{f:FuncId}{args:List AVal}{H:Heap}{nx:Nat}{v:AVal}{H':Heap}{nx':Nat}(h:Y6 P f args H nx v H' nx'){B:Nat}(hB:nx≤B)(hv:v.under B=true):Y6 P f args H nx v (On B H') B:=by
 intro ι w vs ha hH hb
 refine(h ι w vs ha hH hb).mono ?_
 rintro e w' ⟨r,κ,rfl,hr,hH',⟨hst,hup,hfr⟩,hb'⟩
 refine⟨r,κ.cutB B,rfl,hr.under hv,⟨fun n b hn=>?_,fun n m b c L M h1 h2 h3 h4 h5=>?_,fun g cs hg=>⟨(hH'.fz g cs hg).1,fun ho=>(hH'.fz g cs hg).2 ?_⟩⟩,⟨⟨⟨fun n L hn=>?_,hst.le.2⟩,hst.os,hst.tape,hst.output,hst.size,hst.same,fun g hg=>?_,hst.fzs⟩,hB,fun n L hn=>?_⟩,fun n L hn=>?_⟩
 ·obtain⟨g1,g2,g3⟩:=Ud hn
  obtain⟨L,hL,hBk⟩:=hH'.blk n b g1
  exact⟨L,by rw[Inj.cutB_lt g2];exact hL,hBk.under g3⟩
 ·exact hH'.inj n m b c L M (Ud h1).1 (Ud h2).1 (Inj.cutB_some h3).2 (Inj.cutB_some h4).2 h5
 ·obtain⟨n,b,L,h1,h2,h3,h4⟩:=ho
  exact⟨n,b,L,(Ud h1).1,h2,(Inj.cutB_some h3).2,h4⟩
 ·rw[Inj.cutB_lt (Nat.lt_of_lt_of_le (hb n L hn).1 hB)]
  exact hst.le.1 n L hn
 ·obtain⟨n,b,L,h1,h2,h3,h4⟩:=hg
  exact hst.own g ⟨n,b,L,(Ud h1).1,h2,(Inj.cutB_some h3).2,h4⟩
 ·exact hfr n L (Inj.cutB_some hn).2
 ·exact⟨(Inj.cutB_some hn).1,(hb' n L (Inj.cutB_some hn).2).2⟩
def Yl(call:CallF)(tt:TT)(ops:Array Oper)(o:Oper)(env:Env)(Hv:Heap)(m:Nat):Option (AVal×List (Nat×Blk)):=
 match Qo ops env o with
 |some false=>some (undefA,[])
 |some true=>
  match V4 o.op with
  |some (fo,args)=>
   match evE env fo with
   | .func fid caps=>
     match call (KN fid) (VV fid (args.toList.map (evE env)) caps) (ZK Hv) m with
     |some (v,H',nx')=>if Nat.ble nx' (m+RR)then some (v,Wp m H' H')else if v.under (m+RR)then some (v,Wp m (On (m+RR) H') (On (m+RR) H'))else
      (let l:=Jr H' m 4096 v.nums []
       let v3:=v.ren (OU m l)
       let H3:=Er H' m l 0 l
       if Nat.ble (m+l.length) (m+RR)&&Pi H' H3 v v3 m l nx' then some (v3,Wp m H3 H3)else none)
     |none=>none
   |_=>none
  |none=>
   match aop tt (evE env) (ZK Hv) m o.op with
   |some r=>if r.calm then some (r.v,r.news m)else none
   |none=>none
 |none=>none
theorem VN[Syms]{P:Program}{call:CallF}{tt:TT}{N:Nat}{ops:Array Oper}{o:Oper}{env:Env}{Hv:Heap}{m:Nat}{v:AVal}{news:List (Nat×Blk)}(htt:TT.ok P tt)(hcall:call.ok P)
 (h:Yl call tt ops o env Hv m=some (v,news)):Zn P N ops o env Hv m v news∧ ∀id b,(id,b)∈news→m≤id∧id<m+RR:=by
 unfold Yl at h
 split at h
 ·rename_i hw
  cases h
  exact⟨Dm hw,by simp⟩
 ·rename_i hw
  split at h
  ·rename_i fo args hc
   obtain⟨argTypes,ho⟩:=XU hc
   split at h
   ·rename_i fid caps hf
    split at h
    ·rename_i v0 H' nx' hrun
     split at h
     ·rename_i hle
      cases h
      obtain⟨h1,h2⟩:=hcall _ _ _ _ _ _ _ hrun
      exact⟨UC hw ho hf h1 h2 (Nat.le_of_ble_eq_true hle) (fun id b hin=>⟨(QQ hin).1,(QQ hin).2.1⟩),fun id b hin=>(QQ hin).2.2⟩
     ·split at h
      ·rename_i hbel
       cases h
       obtain⟨h1,h2⟩:=hcall _ _ _ _ _ _ _ hrun
       exact⟨UC hw ho hf h1 (H4 h2 (Nat.le_add_right _ _) hbel) (Nat.le_refl _) (fun id b hin=>⟨(QQ hin).1,(QQ hin).2.1⟩),fun id b hin=>(QQ hin).2.2⟩
      ·simp only at h
       split at h
       ·rename_i hgc
        simp only[Bool.and_eq_true]at hgc
        cases h
        obtain⟨h1,h2⟩:=hcall _ _ _ _ _ _ _ hrun
        exact⟨UC hw ho hf h1 (IR h2 _ _ _ hgc.2) (Nat.le_of_ble_eq_true hgc.1) (fun id b hin=>⟨(QQ hin).1,(QQ hin).2.1⟩),fun id b hin=>(QQ hin).2.2⟩
       ·cases h
    ·cases h
   ·cases h
  ·split at h
   ·rename_i r hr
    split at h
    ·rename_i hcalm
     cases h
     refine⟨MZ htt hw hr hcalm,fun id b hin=>?_⟩
     cases r with
     |new b0 v0=>
      simp only[Res.news,List.mem_singleton,Prod.mk.injEq]at hin
      rw[hin.1]
      exact⟨Nat.le_refl _,by unfold RR;omega⟩
     |_=>simp[Res.news]at hin
    ·cases h
   ·cases h
 ·cases h
end Go.Av
end
end
section
set_option linter.unusedVariables false
set_option linter.unusedSimpArgs false
noncomputable section
namespace Go.Av
structure CalmSt where
 vals:List AVal
 nws:List (List (Nat×Blk))
 env:Env
 heap:Heap
def Km(H0:Heap)(m:Nat):Nat→List (List (Nat×Blk))→Heap
 |_,[]=>H0
 |k,nw::l=>if m.testBit k then Km (Zm H0 nw) m (k+1) l else Km H0 m (k+1) l
def VM(call:CallF)(tt:TT)(N:Nat)(ops:Array Oper)(ms:List Nat)(s:St):Nat→List Oper→CalmSt→Option CalmSt
 |_,[],c=>some c
 |i,o::l,c=>
  if Z6 N o.dst then
   match Yl call tt ops o (c.env.only (o.looksAt ops)) (Km s.heap (ms.getD i 0) 0 c.nws) (s.nx+i*RR)with
   |some (v,news)=>VM call tt N ops ms s (i+1) l ⟨c.vals++[v],c.nws++[news],c.env.put o.dst v,Zm c.heap news⟩
   |none=>none
  else none
theorem GA{nw:Nat→List (Nat×Blk)}{p:Nat→Bool}{m:Nat}(hp:∀k,p k=m.testBit k):∀(l:List (List (Nat×Blk))) (k:Nat) (H0 H:Heap),(∀j,j<l.length→l[j]?=some (nw (k+j)))→H=Y7 H0 nw p k→Km H m k l=Y7 H0 nw p (k+l.length)
 |[],k,H0,H,_,h=>by simpa[Km]using h
 |x::l,k,H0,H,hl,h=>by
  have hx:x=nw k:=by have:=hl 0 (by simp);simpa using this
  have hrest:∀j,j<l.length→l[j]?=some (nw (k+1+j)):=fun j hj=>by
   have:=hl (j+1) (by simpa using hj)
   simpa[Nat.add_assoc,Nat.add_comm 1 j]using this
  simp only[Km]
  have hstep:Y7 H0 nw p (k+1)=if m.testBit k then Zm H x else H:=by
   simp only[Y7,hp k,←h,hx]
  rw[List.length_cons,show k+(l.length+1)=k+1+l.length by omega]
  by_cases hb:m.testBit k=true
  ·rw[if_pos hb]
   rw[if_pos hb]at hstep
   exact GA hp l (k+1) H0 _ hrest hstep.symm
  ·rw[if_neg hb]
   rw[if_neg hb]at hstep
   exact GA hp l (k+1) H0 _ hrest hstep.symm
theorem UR[Syms]{P:Program}{call:CallF}{tt:TT}{N:Nat}{ops:Array Oper}{ms:List Nat}{s:St}(htt:TT.ok P tt)(hcall:call.ok P):
 ∀(l:List Oper) (i:Nat) (c c':CalmSt),(∀j,j<l.length→l[j]?=ops[i+j]?)→c.vals.length=i→c.nws.length=i→VM call tt N ops ms s i l c=some c'→
  c'.vals.length=i+l.length∧c'.nws.length=i+l.length∧(∃vs,c'.vals=c.vals++vs)∧(∃ws,c'.nws=c.nws++ws)∧
  ∀(v:Nat→AVal) (nw:Nat→List (Nat×Blk)),(∀k,k<i+l.length→c'.vals[k]?=some (v k)∧c'.nws[k]?=some (nw k))→c.env=QA s.env (Qh ops) v i→c.heap=Y7 s.heap nw (fun _=>true) i→
   c'.env=QA s.env (Qh ops) v (i+l.length)∧c'.heap=Y7 s.heap nw (fun _=>true) (i+l.length)∧
   ∀k o,i≤k→k<i+l.length→ops[k]?=some o→Z6 N o.dst=true∧Zn P N ops o ((QA s.env (Qh ops) v k).only (o.looksAt ops)) (Y7 s.heap nw (fun q=>(ms.getD k 0).testBit q) k) (s.nx+k*RR) (v k) (nw k)∧
    ∀id b,(id,b)∈nw k→W1 s.nx k id
 |[],i,c,c',_,hv,hn,h=>by
  simp only[VM,Option.some.injEq]at h
  subst h
  exact⟨by simpa using hv,by simpa using hn,⟨[],by simp⟩,⟨[],by simp⟩,fun v nw _ he hh=>⟨by simpa using he,by simpa using hh,fun k o h1 h2=>by simp at h2;omega⟩⟩
 |o::l,i,c,c',hl,hv,hn,h=>by
  simp only[VM]at h
  split at h
  rotate_left
  ·cases h
  rename_i hdst
  split at h
  rotate_left
  ·cases h
  rename_i x news hop
  obtain⟨ih1,ih2,⟨vs,ih3⟩,⟨ws,ih4⟩,ih5⟩:=UR htt hcall l (i+1) _ c' (fun j hj=>by have:=hl (j+1) (by simpa using hj);simpa[Nat.add_assoc,Nat.add_comm 1 j]using this) (by simp[hv]) (by simp[hn]) h
  have ho:ops[i]?=some o:=by have:=hl 0 (by simp);simpa using this.symm
  refine⟨by simp;omega,by simp;omega,⟨x::vs,by simp[ih3]⟩,⟨news::ws,by simp[ih4]⟩,fun v nw hvn he hh=>?_⟩
  have hvi:v i=x:=by
   have:=(hvn i (by simp)).1
   rw[ih3]at this
   simp[hv]at this
   exact this.symm
  have hni:nw i=news:=by
   have:=(hvn i (by simp)).2
   rw[ih4]at this
   simp[hn]at this
   exact this.symm
  obtain⟨g1,g2,g3⟩:=ih5 v nw (fun k hk=>hvn k (by simp at hk ⊢;omega)) (by
   simp only[QA]
   rw[he,hvi,show Qh ops i=o.dst by simp[Qh,ho]]) (by
   simp only[Y7,if_true]
   rw[hh,hni])
  rw[List.length_cons,show i+(l.length+1)=i+1+l.length by omega]
  refine⟨g1,g2,fun k p h1 h2 hp=>?_⟩
  rcases Nat.lt_or_ge i k with hik|hik
  ·exact g3 k p (by omega) h2 hp
  ·obtain rfl:k=i:=by omega
   rw[ho]at hp
   cases hp
   obtain⟨f1,f2⟩:=VN (P:=P) (N:=N) htt hcall hop
   have hvis:Km s.heap (ms.getD k 0) 0 c.nws=Y7 s.heap nw (fun q=>(ms.getD k 0).testBit q) k:=by
    have:=GA (nw:=nw) (p:=fun q=>(ms.getD k 0).testBit q) (m:=ms.getD k 0) (fun _=>rfl) c.nws 0 s.heap s.heap (fun j hj=>by
     have:=(hvn j (by simp;omega)).2
     rw[ih4,List.append_assoc,List.getElem?_append_left hj]at this
     simpa using this) rfl
    rw[this,Nat.zero_add,hn]
   rw[hvis,he]at f1
   refine⟨hdst,by rw[hvi,hni];exact f1,fun id b hin=>?_⟩
   rw[hni]at hin
   have:=f2 id b hin
   refine⟨this.1,?_⟩
   rw[Nat.add_mul]
   omega
def Ut(call:CallF)(tt:TT)(N:Nat)(ops:Array Oper)(draw:Bool)(s:St):Option St:=
 if draw then
  let ms:=K5 ops
  let n:=GW ops
  if U5 ops ms (mvs ops) n then
   match VM call tt N ops ms s 0 (ops.toList.take n) ⟨[],[],s.env,s.heap⟩with
   |some c=>Vx call tt N ops (ops.toList.drop n) ⟨c.env,c.heap,s.nx+n*RR⟩
   |none=>none
  else none
 else Vx call tt N ops ops.toList s
theorem Gv[Syms]{P:Program}{call:CallF}{tt:TT}{N:Nat}(htt:TT.ok P tt)(hcall:call.ok P)(hm:P.follows .mixedOrders=true){id:Nat}{ops:Array Oper}{draw:Bool}{s s':St}(h:Ut call tt N ops draw s=some s')
 {Q:Exit→Act→World→Prop} {ι:Inj} {a:Act} {w:World} (hS:RelS N ι s a w) (hQ:∀κ a' w',RelS N κ s' a' w'→StepN ι s.heap s.nx w κ s'.heap s'.nx w'→Q .normal a' w'):(Code.region id ops draw).wp P Q a w:=by
 unfold Ut at h
 split at h
 ·rename_i hd
  subst hd
  simp only at h
  split at h
  ·rename_i hplan
   split at h
   ·rename_i c hc
    obtain⟨pl,hmv⟩:=U4 hplan
    have hle:=pl.le
    obtain⟨hnd,hmo⟩:=VC ops ops.size
    generalize hmvs:mvs ops=l at *
    unfold mvs at hmvs
    rw[hmvs]at hnd hmo
    generalize GW ops=n at *
    generalize K5 ops=ms at *
    have hlen:(ops.toList.take n).length=n:=by simp;omega
    obtain⟨h1,h2,_,_,h3⟩:=UR (P:=P) htt hcall (ops.toList.take n) 0 _ c (fun j hj=>by
     rw[hlen]at hj
     rw[List.getElem?_take_of_lt hj]
     simp) rfl rfl hc
    rw[hlen,Nat.zero_add]at h1 h2
    obtain⟨g1,g2,g3⟩:=h3 (fun k=>c.vals.getD k .any) (fun k=>c.nws.getD k []) (fun k hk=>by
     rw[hlen,Nat.zero_add]at hk
     have e1:k<c.vals.length:=by omega
     have e2:k<c.nws.length:=by omega
     simp[e1,e2]) rfl rfl
    rw[hlen,Nat.zero_add]at g1 g2 g3
    refine KR (n:=n) (M:=fun i k=>(ms.getD i 0).testBit k) (v:=fun k=>c.vals.getD k .any) (nw:=fun k=>c.nws.getD k []) hm ⟨pl,fun i o ho hi=>(g3 i o (Nat.zero_le _) hi ho).1,fun k hk id b hin=>?_,fun i o ho hi=>(g3 i o (Nat.zero_le _) hi ho).2.1,?_⟩ (l:=l) (fun k hk=>List.contains_iff_mem.1 hk) hnd (fun i hi=>⟨UO (hmo i hi).2,(hmv i hi).1,fun k=>by rw[(hmv i hi).2];exact Nat.zero_testBit k⟩) hS hQ
    ·exact(g3 k _ (Nat.zero_le _) hk (Array.getElem?_eq_getElem (by omega))).2.2 id b hin
    ·have:Yz ops n s (fun k=>c.vals.getD k .any) (fun k=>c.nws.getD k [])=⟨c.env,c.heap,s.nx+n*RR⟩:=by
      unfold Yz
      rw[g1,g2]
     rw[this]
     exact Vw htt hcall h
   ·cases h
  ·cases h
 ·rename_i hd
  have hd:draw=false:=by simpa using hd
  subst hd
  exact B8 (Vw htt hcall h) hS hQ
theorem Vp{tt:TT}{ρ ρ':Operand→AVal}{H:Heap}{m:Nat}(op:Op)(h:∀x∈op.operands,ρ x=ρ' x):aop tt ρ H m op=aop tt ρ' H m op:=by
 have pairs:∀ps:Array (Nat×Operand),(∀x∈ps.map (·.2),ρ x=ρ' x)→(ps.toList.map fun p=>(p.1,ρ p.2))=(ps.toList.map fun p=>(p.1,ρ' p.2)):=fun ps hp=>
  List.map_congr_left fun p hm=>by
   rw[hp p.2 (Array.mem_map.2 ⟨p,by simpa using hm,rfl⟩)]
 have many:∀xs:Array Operand,(∀x∈xs,ρ x=ρ' x)→xs.toList.map ρ=xs.toList.map ρ':=fun xs hp=>List.map_congr_left fun x hx=>hp x (by simpa using hx)
 cases op<;>simp only[Op.operands]at h<;>simp only[aop]
 case build t ps=>rw[pairs ps fun x hx=>h x (by simpa using hx)]
 case buildSlice t n ps=>rw[pairs ps fun x hx=>h x (by simpa using hx)]
 case makeFunc fn first captured=>
  cases fn<;>simp only[aop]
  rw[many captured fun x hx=>h x (by simp[hx]),many first fun x hx=>h x (by simp[hx])]
 case slice t x lo hi mx=>cases lo<;>cases hi<;>cases mx<;>simp_all
 case call c=>
  obtain⟨callee,args,argTypes⟩:=c
  cases callee<;>simp only[aop]
  rw[many args fun x hx=>h x (by simp[Call.operands,hx])]
 case next it b=>cases b<;>simp_all [aop]
 all_goals(first|rfl|(simp_all;done))
theorem Wv[Syms]{ops:Array Oper}{o:Oper}{env:Env}{x:Operand}(hx:x∈o.op.operands):evE (env.only (o.looksAt ops)) x=evE env x:=by
 cases x with
 |tmp t=>
  show(env.only (o.looksAt ops)).get t=env.get t
  rw[Env.only_get,if_pos]
  have:t∈o.looksAt ops:=List.mem_append_left _ (List.mem_filterMap.2 ⟨.tmp t,by simpa using hx,rfl⟩)
  simpa using this
 |_=>rfl
theorem XX[Syms]{ops:Array Oper}{o:Oper}{env:Env}:Qo ops (env.only (o.looksAt ops)) o=Qo ops env o:=by
 unfold Qo
 cases hg:o.guard with
 |none=>rfl
 |some g=>
  obtain⟨j,want⟩:=g
  simp only
  cases hd:(ops[j]?).bind (·.dst)with
  |none=>rfl
  |some d=>
   simp only
   have:d∈o.looksAt ops:=List.mem_append_right _ (by rw[hg];simp[hd])
   rw[Env.only_get,if_pos (by simpa using this)]
theorem Uk[Syms]{call:CallF}{tt:TT}{ops:Array Oper}{o:Oper}{env:Env}{Hv:Heap}{m:Nat}:Yl call tt ops o (env.only (o.looksAt ops)) Hv m=Yl call tt ops o env Hv m:=by
 unfold Yl
 rw[XX,Vp o.op (fun x hx=>Wv hx)]
 cases hc:V4 o.op with
 |none=>rfl
 |some p=>
  obtain⟨fo,args⟩:=p
  obtain⟨at_,ho⟩:=XU hc
  have h1:evE (env.only (o.looksAt ops)) fo=evE env fo:=Wv (by rw[ho];simp[Op.operands,Call.operands])
  have h2:args.toList.map (evE (env.only (o.looksAt ops)))=args.toList.map (evE env):=List.map_congr_left fun x hx=>Wv (by rw[ho];simp[Op.operands,Call.operands];exact .inr (by simpa using hx))
  dsimp only
  rw[h1,h2]
def Gu(H0:Heap)(m:Nat):List (Nat×List (Nat×Blk))→Heap
 |[]=>H0
 |(k,nw)::l=>if m.testBit k then Gu (Zm H0 nw) m l else Gu H0 m l
def XG:Nat→List (List (Nat×Blk))→List (Nat×List (Nat×Blk))
 |_,[]=>[]
 |k,[]::l=>XG (k+1) l
 |k,nw::l=>(k,nw)::XG (k+1) l
theorem Gz{m:Nat}:∀{l:List (List (Nat×Blk))} {k:Nat} {H0:Heap},Gu H0 m (XG k l)=Km H0 m k l
 |[],_,_=>rfl
 |[]::l,k,H0=>by
  simp only[XG,Km,Zm,List.foldl_nil,ite_self]
  exact Gz
 |(x::nw)::l,k,H0=>by
  simp only[XG,Km,Gu]
  split<;>exact Gz
theorem XK(nw:List (Nat×Blk)):∀(l:List (List (Nat×Blk))) (k:Nat),XG k (l++[nw])=XG k l++(match nw with|[]=>[]|x::y=>[(k+l.length,x::y)])
 |[],k=>by cases nw<;>simp[XG]
 |[]::l,k=>by
  simp only[List.cons_append,XG,XK nw l (k+1),List.length_cons]
  rw[show k+1+l.length=k+(l.length+1) by omega]
 |(x::y)::l,k=>by
  simp only[List.cons_append,XG,XK nw l (k+1),List.length_cons]
  rw[show k+1+l.length=k+(l.length+1) by omega]
def KX(call:CallF)(tt:TT)(N:Nat)(ops:Array Oper)(ms:List Nat)(s:St)(l:List Oper):Nat→Env→Heap→List (Nat×List (Nat×Blk))→Option (Env×Heap):=
 @List.rec Oper (fun _=>Nat→Env→Heap→List (Nat×List (Nat×Blk))→Option (Env×Heap)) (fun _ e h _=>some (e,h))
  (fun o _ ih i e h sp=>@Bool.rec (fun _=>Option (Env×Heap)) none (
    match Yl call tt ops o e (Gu s.heap (ms.getD i 0) sp) (s.nx+i*RR)with
    |some (v,[])=>ih (i+1) (e.put o.dst v) h sp
    |some (v,x::y)=>ih (i+1) (e.put o.dst v) (Zm h (x::y)) (sp++[(i,x::y)])
    |none=>none) (Z6 N o.dst)) l
theorem Uj[Syms]{call:CallF}{tt:TT}{N:Nat}{ops:Array Oper}{ms:List Nat}{s:St}:∀(l:List Oper) (i:Nat) (c:CalmSt) (e':Env) (h':Heap),c.nws.length=i→KX call tt N ops ms s l i c.env c.heap (XG 0 c.nws)=some (e',h')→
 ∃c',VM call tt N ops ms s i l c=some c'∧c'.env=e'∧c'.heap=h'
 |[],i,c,e',h',_,h=>by
  have h:some (c.env,c.heap)=some (e',h'):=h
  cases h
  exact⟨c,rfl,rfl,rfl⟩
 |o::l,i,c,e',h',hlen,h=>by
  have h:@Bool.rec (fun _=>Option (Env×Heap)) none (
   match Yl call tt ops o c.env (Gu s.heap (ms.getD i 0) (XG 0 c.nws)) (s.nx+i*RR)with
   |some (v,[])=>KX call tt N ops ms s l (i+1) (c.env.put o.dst v) c.heap (XG 0 c.nws)
   |some (v,x::y)=>KX call tt N ops ms s l (i+1) (c.env.put o.dst v) (Zm c.heap (x::y)) (XG 0 c.nws++[(i,x::y)])
   |none=>none) (Z6 N o.dst)=some (e',h'):=h
  simp only[VM]
  cases hd:Z6 N o.dst with
  |false=>rw[hd]at h;cases h
  |true=>
   rw[hd]at h
   simp only[if_true]
   rw[Uk,←Gz]
   split at h
   ·rename_i v hop
    rw[hop]
    simp only
    exact Uj l (i+1) ⟨c.vals++[v],c.nws++[[]],c.env.put o.dst v,Zm c.heap []⟩ e' h' (by simp[hlen]) (by
     simp only[XK,List.append_nil]
     exact h)
   ·rename_i v x y hop
    rw[hop]
    simp only
    exact Uj l (i+1) ⟨c.vals++[v],c.nws++[x::y],c.env.put o.dst v,Zm c.heap (x::y)⟩ e' h' (by simp[hlen]) (by
     simp only[XK,Nat.zero_add,hlen]
     exact h)
   ·cases h
def UX(call:CallF)(tt:TT)(N:Nat)(ops:Array Oper)(draw:Bool)(s:St):Option St:=
 @Bool.rec (fun _=>Option St) (Vx call tt N ops ops.toList s)
  (@Bool.rec (fun _=>Option St) none (
    match KX call tt N ops (K5 ops) s (ops.toList.take (GW ops)) 0 s.env s.heap []with
    |some (e,h)=>Vx call tt N ops (ops.toList.drop (GW ops)) ⟨e,h,s.nx+GW ops*RR⟩
    |none=>none) (U5 ops (K5 ops) (mvs ops) (GW ops))) draw
theorem Fn[Syms]{call:CallF}{tt:TT}{N:Nat}{ops:Array Oper}{draw:Bool}{s s':St}(h:UX call tt N ops draw s=some s'):Ut call tt N ops draw s=some s':=by
 unfold UX at h
 unfold Ut
 cases draw with
 |false=>exact h
 |true=>
  simp only[if_true]
  cases hp:U5 ops (K5 ops) (mvs ops) (GW ops)with
  |false=>rw[hp]at h;cases h
  |true=>
   rw[hp]at h
   simp only[if_true]
   simp only at h
   split at h
   ·rename_i e h' hc
    obtain⟨c',h1,h2,h3⟩:=Uj (s:=s) _ 0 ⟨[],[],s.env,s.heap⟩ e h' rfl hc
    rw[h1]
    simp only[h2,h3]
    exact h
   ·cases h
end Go.Av
end
end
section
set_option linter.unusedVariables false
set_option linter.unusedSimpArgs false
noncomputable section
namespace Go.Av
abbrev nomv:Nat→Bool:=fun _=>false
def Env.cut(p:Nat→Prop)(e:Env):Env:=by
 classical
 exact e.map fun q=>(q.1,if p q.1 then q.2 else .any)
theorem Env.cut_get(p:Nat→Prop):∀(e:Env) (t:Nat),(p t→(e.cut p).get t=e.get t)∧(¬p t→(e.cut p).get t= .any)
 |[],t=>⟨fun _=>rfl,fun _=>rfl⟩
 |(k,v)::e,t=>by
  have ih:=Env.cut_get p e t
  have hc:Env.cut p ((k,v)::e)=(k,(Env.cut p [(k,v)]).get k)::Env.cut p e:=by
   simp[Env.cut,Env.get_cons]
  rw[hc]
  simp only[Env.get_cons]
  by_cases ht:t=k
  ·subst ht
   simp only[Nat.beq_refl,cond_true]
   refine⟨fun h=>?_,fun h=>?_⟩
   ·simp[Env.cut,Env.get_cons,h]
   ·simp[Env.cut,Env.get_cons,h]
  ·rw[Qd ht]
   exact ih
def WH[Syms](P:Program)(N:Nat)(ops:Array Oper)(o:Oper)(env:Env)(H:Heap)(v:AVal):Prop:=
 ∀(ι:Inj) (m:Nat) (a:Act) (w:World) (K:Act→World→Prop) (Q:Exit→Act→World→Prop),(∀t,RelV ι (env.get t) (a.tmps.getD t undef))→RelH ι (ZK H) w→X1 ι m w→
  (∀u w',RelV ι v u→StepN ι (ZK H) m w ι (ZK H) m w'→K (a.put o.dst u) w')→
  if Region.wanted o (yielded ops a.tmps)then o.wp P a w K Q∨(o.asks P a w∧LetsOut Q)else K (a.put o.dst undef) w
theorem Ek[Syms]{P:Program}{N:Nat}{ops:Array Oper}{o:Oper}{env:Env}{H:Heap}(hw:Qo ops env o=some false):WH P N ops o env H undefA:=by
 intro ι m a w K Q he hH hb hK
 rw[Zj he hw]
 simp only[Bool.false_eq_true,if_false]
 exact hK undef w (RelV.undef ι) (StepN.refl ..)
theorem Ir[Syms]{P:Program}{tt:TT}(htt:TT.ok P tt){N:Nat}{ops:Array Oper}{o:Oper}{env:Env}{H:Heap}{v:AVal}(hw:Qo ops env o=some true)
 (h:∀m,aop tt (evE env) (ZK H) m o.op=some (.val v)):WH P N ops o env H v:=by
 intro ι m a w K Q he hH hb hK
 rw[Zj he hw]
 simp only[if_true]
 left
 obtain⟨u,w',κ,hrun,hv,hH',hst,hk,hval⟩:=JV (P:=P) htt hH hb.lies (hb.fresh (Nat.le_refl _)) (KP he) (h m)
 obtain rfl:=hval rfl
 have fin:K (a.put o.dst u) w':=hK u w' hv ⟨hst,Nat.le_refl _,fun n L hn=>.inl hn⟩
 unfold Oper.wp
 rcases hrun with hrun|⟨hrun,rfl⟩
 ·rw[hrun];exact fin
 ·rw[hrun];exact fin
section
variable {P:Program} {N:Nat} {ops:Array Oper} {M:Nat→Nat→Bool} {s:St} {v:Nat→AVal} {nw:Nat→List (Nat×Blk)} {ι0:Inj} {w0:World}
structure Drawn2[Syms](P:Program)(N:Nat)(ops:Array Oper)(M:Nat→Nat→Bool)(s:St)(v:Nat→AVal)(nw:Nat→List (Nat×Blk))(tl early:Nat→Bool)(T:Nat→Heap):Prop where
 plan:Plan ops ops.size M nomv
 tlDst:∀t o,ops[t]?=some o→tl t=true→o.dst=none
 tailOrd:∀t u,tl t=true→tl u=true→t<u→u<ops.size→M u t=true
 earlyM:∀k t,k<ops.size→tl k=false→early k=true→tl t=true→t<ops.size→M t k=true
 uses2:∀i k o p d,tl i=true∨early i=false→ops[i]?=some o→ops[k]?=some p→p.dst=some d→d∈o.looksAt ops→M i k=true
 dst:∀i o,ops[i]?=some o→tl i=false→Z6 N o.dst=true
 news:∀k id b,(id,b)∈nw k→W1 s.nx k id
 newsLoose:∀k,tl k=true∨early k=false→nw k=[]
 calm:∀i o,ops[i]?=some o→tl i=false→Zn P N ops o ((QA s.env (Qh ops) v i).only (o.looksAt ops)) (Y7 s.heap nw (M i) i) (s.nx+i*RR) (v i) (nw i)
 T0:T 0=Y7 s.heap nw (fun _=>true) ops.size
 Tcalm:∀i,tl i=false→T (i+1)=T i
 tail:∀t o,ops[t]?=some o→tl t=true→ ∀env':Env,(∀x∈o.looksAt ops,env'.get x=(QA s.env (Qh ops) v ops.size).get x)→Xd P N ops o ⟨env',T t,s.nx+ops.size*RR+t⟩ ⟨env',T (t+1),s.nx+ops.size*RR+(t+1)⟩
 loose:∀i o,ops[i]?=some o→tl i=false→early i=false→ ∀j,j≤ops.size→ ∀env':Env,(∀x∈o.looksAt ops,env'.get x=(QA s.env (Qh ops) v ops.size).get x)→WH P N ops o env' (T j) (v i)
def Z2(ops:Array Oper)(D:Nat→Prop)(t:Nat):Prop:=∀k,k<ops.size→Qh ops k=some t→D k
theorem Nl[Syms](pl:Plan ops ops.size M nomv){i k t:Nat}(hi:i≤ops.size)(hk:k<i)(hd:Qh ops k=some t):(QA s.env (Qh ops) v i).get t=v k:=by
 have:=UA (env0:=s.env) (dst:=fun q=>if q<ops.size then Qh ops q else none) (v:=v) (i:=i) (k:=k) (t:=t) (fun k l t hkl hk=>by
  by_cases hl:l<ops.size
  ·have hk2:k<ops.size:=by omega
   simp only[hk2,if_true]at hk
   simp only[hl,if_true]
   exact HM pl k l t hkl hl hk
  ·simp[hl]) hk (by simp[show k<ops.size by omega,hd])
 rw[←this]
 have heq:∀j,j≤ops.size→QA s.env (Qh ops) v j=QA s.env (fun q=>if q<ops.size then Qh ops q else none) v j:=by
  intro j
  induction j with
  |zero=>intro _;rfl
  |succ j ih=>intro hj;simp only[QA];rw[ih (by omega)];rw[if_pos (by omega)]
 rw[heq i hi]
theorem B0[Syms](pl:Plan ops ops.size M nomv){k t:Nat}(hk:k<ops.size)(hd:Qh ops k=some t):(QA s.env (Qh ops) v ops.size).get t=v k:=Nl pl (Nat.le_refl _) hk hd
theorem ID[Syms](pl:Plan ops ops.size M nomv)(hS:RelH ι0 s.heap w0∧X1 ι0 s.nx w0){D:Nat→Prop}{ι:Inj}{a:Act}{w:World}(hI:DInv N ops ops.size M s v nw ι0 w0 D ι a w)(hall:∀k,k<ops.size→D k∨nw k=[]):
 RelS N ι ⟨(QA s.env (Qh ops) v ops.size).cut (Z2 ops D),Y7 s.heap nw (fun _=>true) ops.size,s.nx+ops.size*RR⟩ a w∧StepN ι0 s.heap s.nx w0 ι (Y7 s.heap nw (fun _=>true) ops.size) (s.nx+ops.size*RR) w:=by
 have hD:∀k id b,k<ops.size→(id,b)∈nw k→D k:=fun k id b hk hin=>by
  rcases hall k hk with h|h
  ·exact h
  ·rw[h]at hin;cases hin
 have hb:∀m L,ι m=some L→m<s.nx+ops.size*RR∧L.g<w.heap.size:=by
  intro m L hm
  obtain⟨h1,h2⟩:=hI.ids m L hm
  refine⟨?_,h1⟩
  rcases h2 with h2|⟨k,hk,_,hown⟩
  ·have:=(hS.2 m L h2).1;omega
  ·unfold W1 at hown
   have:(k+1)*RR≤ops.size*RR:=Nat.mul_le_mul_right _ (by omega)
   omega
 refine⟨⟨hI.defers,hI.size,fun t=>?_,⟨fun m b hm=>?_,fun m m' b b' L L' h1 h2 h3 h4 h5=>?_,fun g cs hg=>⟨(hI.fz g cs hg).2.1,fun ho=>?_⟩⟩,hb⟩,⟨⟨hI.le,hI.os,hI.tape,hI.output,hI.hsize,fun g hg _=>hI.same g hg,fun g hg=>?_,fun g cs hg=>(hI.fz g cs hg).1.elim .inl (fun h=>.inr (.inl h))⟩,by simp,fun m L hm=>?_⟩⟩
 ·by_cases hset:Z2 ops D t
  ·rw[(Env.cut_get (Z2 ops D) _ t).1 hset]
   by_cases hex:∃k,k<ops.size∧Qh ops k=some t
   ·obtain⟨k,hk,hd⟩:=hex
    rw[B0 pl hk hd]
    exact(hI.hit k t hk (hset k hk hd) hd).mono (W6 _ _)
   ·have hno:∀k,k<ops.size→Qh ops k≠some t:=fun k h1 h2=>hex ⟨k,h1,h2⟩
    rw[Yj hno]
    exact(hI.miss t (fun k hk _=>hno k hk)).mono hI.le
  ·rw[(Env.cut_get (Z2 ops D) _ t).2 hset]
   exact .any _
 ·rcases ZB ops.size m b hm with h1|⟨k,h1,_,h3⟩
  ·obtain⟨L,hL,hB⟩:=hS.1.blk m b h1
   exact⟨L,hI.le.1 m L hL,hB.keep hI.le (hI.same _ (hS.2 m L hL).2)⟩
  ·obtain⟨L,hL,_,hB⟩:=hI.made k m b h1 (hD k m b h1 h3) h3
   exact⟨L,hL,hB.keep (W6 _ _) rfl⟩
 ·rcases ZB ops.size m b h1 with g1|⟨k,g1,_,g3⟩
  ·obtain⟨X,hX,_⟩:=hS.1.blk m b g1
   obtain rfl:X=L:=by have:=hI.le.1 m X hX;rw[h3]at this;exact(Option.some.inj this).symm
   have hXg:=(hS.2 m X hX).2
   rcases ZB ops.size m' b' h2 with g1'|⟨k',g1',_,g3'⟩
   ·obtain⟨X',hX',_⟩:=hS.1.blk m' b' g1'
    obtain rfl:X'=L':=by have:=hI.le.1 m' X' hX';rw[h4]at this;exact(Option.some.inj this).symm
    exact hS.1.inj m m' b b' X X' g1 g1' hX hX' h5
   ·obtain⟨Y,hY,hYg,_⟩:=hI.made k' m' b' g1' (hD k' m' b' g1' g3') g3'
    rw[h4]at hY
    cases hY
    omega
  ·obtain⟨Y,hY,hYg,_⟩:=hI.made k m b g1 (hD k m b g1 g3) g3
   rw[h3]at hY
   cases hY
   rcases ZB ops.size m' b' h2 with g1'|⟨k',g1',_,g3'⟩
   ·obtain⟨X',hX',_⟩:=hS.1.blk m' b' g1'
    obtain rfl:X'=L':=by have:=hI.le.1 m' X' hX';rw[h4]at this;exact(Option.some.inj this).symm
    have hXg:=(hS.2 m' X' hX').2
    omega
   ·exact .inl (hI.apart k k' m m' b b' L L' g1 g1' (hD k m b g1 g3) (hD k' m' b' g1' g3') g3 g3' h3 h4 h5)
 ·obtain⟨m,b,L,h1,h2,h3,h4⟩:=ho
  rcases ZB ops.size m b h1 with g1|⟨k,g1,_,g3⟩
  ·obtain⟨X,hX,_⟩:=hS.1.blk m b g1
   obtain rfl:X=L:=by have:=hI.le.1 m X hX;rw[h3]at this;exact(Option.some.inj this).symm
   rcases(hI.fz g cs hg).1 with hz|hz
   ·exact(hS.1.fz g cs hz).2 ⟨m,b,X,g1,h2,hX,h4⟩
   ·have:=(hS.2 m X hX).2
    omega
  ·exact(hI.fz g cs hg).2.2 k m b L g1 (hD k m b g1 g3) g3 h3 h4
 ·obtain⟨m,b,L,h1,h2,h3,h4⟩:=hg
  rcases ZB ops.size m b h1 with g1|⟨k,g1,_,g3⟩
  ·obtain⟨X,hX,_⟩:=hS.1.blk m b g1
   obtain rfl:X=L:=by have:=hI.le.1 m X hX;rw[h3]at this;exact(Option.some.inj this).symm
   exact .inl ⟨m,b,X,g1,h2,hX,h4⟩
  ·obtain⟨Y,hY,hYg,_⟩:=hI.made k m b g1 (hD k m b g1 g3) g3
   rw[h3]at hY
   cases hY
   exact .inr (by omega)
 ·rcases(hI.ids m L hm).2 with h|⟨k,_,_,hown⟩
  ·exact .inl h
  ·right
   unfold W1 at hown
   omega
theorem Br[Syms]{tl early:Nat→Bool}{T:Nat→Heap}(hd:Drawn2 P N ops M s v nw tl early T):∀{i j:Nat},i≤j→(∀k,i≤k→k<j→tl k=false)→T j=T i
 |i,0,h,_=>by rw[Nat.le_zero.1 h]
 |i,j+1,h,hk=>by
  rcases Nat.lt_or_ge j i with h'|h'
  ·rw[show i=j+1 by omega]
  ·rw[hd.Tcalm j (hk j h' (by omega)),Br hd h' (fun k h1 h2=>hk k h1 (by omega))]
theorem RelH.ro'[Syms]{ι:Inj}{H:Heap}{w:World}(h:RelH ι H w):RelH ι (ZK H) w:=by
 refine⟨fun m b hb=>?_,fun m m' b b' L L' h1 h2 _ _ _=>.inr ?_,fun g cs hg=>⟨(h.fz g cs hg).1,ZQ⟩⟩
 ·obtain⟨rows,ro,hb1,rfl⟩:=Zt hb
  obtain⟨L,hL,hB⟩:=h.blk m _ hb1
  obtain⟨cs,e,fz,h1,h2,h3,h4,h5⟩:=hB.rows
  exact⟨L,hL,Zf.mk h1 h2 h3 h4 (fun h=>by cases h) (hB.ty h1)⟩
 ·obtain⟨_,_,_,rfl⟩:=Zt h1
  obtain⟨_,_,_,rfl⟩:=Zt h2
  exact⟨rfl,rfl⟩
theorem StepN.of_ro[Syms]{ι:Inj}{G:Heap}(H:Heap){m:Nat}{w w':World}(h:StepN ι (ZK G) m w ι (ZK G) m w'):StepN ι H m w ι H m w'∧ ∀g,g<w.heap.size→w'.heap[g]?=w.heap[g]?:=
 have same:∀g,g<w.heap.size→w'.heap[g]?=w.heap[g]?:=fun g hg=>h.st.same g hg ZQ
 ⟨⟨⟨Inj.le_refl ι,h.st.os,h.st.tape,h.st.output,h.st.size,fun g hg _=>same g hg,fun g hg=>.inl hg,fun _ _ h=>.inl h⟩,Nat.le_refl _,fun n L hn=>.inl hn⟩,same⟩
theorem RelS.bump[Syms]{ι:Inj}{e:Env}{H:Heap}{n m:Nat}{a:Act}{w:World}(h:RelS N ι ⟨e,H,n⟩ a w)(hn:n≤m):RelS N ι ⟨e,H,m⟩ a w:=
 ⟨h.defers,h.size,h.env,h.heap,fun k L hk=>⟨Nat.lt_of_lt_of_le (h.bound k L hk).1 hn,(h.bound k L hk).2⟩⟩
theorem StepN.bump[Syms]{ι κ:Inj}{H H':Heap}{nx n m:Nat}{w w':World}(h:StepN ι H nx w κ H' n w')(hn:n≤m):StepN ι H nx w κ H' m w':=⟨h.st,Nat.le_trans h.up hn,h.fresh⟩
theorem IC[Syms]{tl early:Nat→Bool}{T:Nat→Heap}{Q:Exit→Act→World→Prop}(hd:Drawn2 P N ops M s v nw tl early T)(hS:RelH ι0 s.heap w0∧X1 ι0 s.nx w0)
 (hQ:∀κ a' w',RelS N κ ⟨QA s.env (Qh ops) v ops.size,T ops.size,s.nx+ops.size*RR+ops.size⟩ a' w'→StepN ι0 s.heap s.nx w0 κ (T ops.size) (s.nx+ops.size*RR+ops.size) w'→Q .normal a' w'):∀(fuel:Nat) (listed:Array Bool) (a:Act) (w:World) (ι:Inj),Cl ops listed→left listed≤fuel→
 (((∀k,k<ops.size→tl k=true→ ¬Lst listed k)∧(∀k,Lst listed k→k<ops.size)∧DInv N ops ops.size M s v nw ι0 w0 (Lst listed) ι a w)∨
   ∃j,j≤ops.size∧(∀k,k<ops.size→tl k=true→(Lst listed k↔k<j))∧(∀k,k<ops.size→tl k=false→early k=true→Lst listed k)∧
    RelS N ι ⟨(QA s.env (Qh ops) v ops.size).cut (Z2 ops (Lst listed)),T j,s.nx+ops.size*RR+j⟩ a w∧StepN ι0 s.heap s.nx w0 ι (T j) (s.nx+ops.size*RR+j) w)→
 wpAny P .any ops Q fuel listed a w:=by
 have pl:=hd.plan
 -- from the first phase to the second
 have turn:∀(listed:Array Bool) (a:Act) (w:World) (ι:Inj) (j:Nat),j≤ops.size→(∀k,k<ops.size→tl k=true→ ¬Lst listed k)→(∀k,k<j→tl k=false)→(∀k,k<ops.size→tl k=false→early k=true→Lst listed k)→
  DInv N ops ops.size M s v nw ι0 w0 (Lst listed) ι a w→
  RelS N ι ⟨(QA s.env (Qh ops) v ops.size).cut (Z2 ops (Lst listed)),T j,s.nx+ops.size*RR+j⟩ a w∧StepN ι0 s.heap s.nx w0 ι (T j) (s.nx+ops.size*RR+j) w:=by
  intro listed a w ι j hj hno hlow hearly hI
  rw[Br hd (Nat.zero_le j) (fun k _ h=>hlow k h),hd.T0]
  have hh:=ID pl hS hI (fun k hk=>by
   cases ht:tl k with
   |true=>exact .inr (hd.newsLoose k (.inl ht))
   |false=>
    cases he:early k with
    |true=>exact .inl (hearly k hk ht he)
    |false=>exact .inr (hd.newsLoose k (.inr he)))
  exact⟨hh.1.bump (Nat.le_add_right _ j),hh.2.bump (Nat.le_add_right _ j)⟩
 have fin:∀(listed:Array Bool) (a:Act) (w:World) (ι:Inj),(∀k,k<ops.size→Lst listed k)→
  (((∀k,k<ops.size→tl k=true→ ¬Lst listed k)∧(∀k,Lst listed k→k<ops.size)∧DInv N ops ops.size M s v nw ι0 w0 (Lst listed) ι a w)∨
  ∃j,j≤ops.size∧(∀k,k<ops.size→tl k=true→(Lst listed k↔k<j))∧(∀k,k<ops.size→tl k=false→early k=true→Lst listed k)∧
   RelS N ι ⟨(QA s.env (Qh ops) v ops.size).cut (Z2 ops (Lst listed)),T j,s.nx+ops.size*RR+j⟩ a w∧StepN ι0 s.heap s.nx w0 ι (T j) (s.nx+ops.size*RR+j) w)→Q .normal a w:=by
  intro listed a w ι hall hst
  have key:RelS N ι ⟨(QA s.env (Qh ops) v ops.size).cut (Z2 ops (Lst listed)),T ops.size,s.nx+ops.size*RR+ops.size⟩ a w∧StepN ι0 s.heap s.nx w0 ι (T ops.size) (s.nx+ops.size*RR+ops.size) w:=by
   rcases hst with⟨h1,h2,h3⟩|⟨j,h1,h2,h3,h4,h5⟩
   ·refine turn listed a w ι ops.size (Nat.le_refl _) h1 (fun k hk=>?_) (fun k hk _ _=>hall k hk) h3
    cases ht:tl k with
    |false=>rfl
    |true=>exact absurd (hall k hk) (h1 k hk ht)
   ·have:T ops.size=T j:=Br hd h1 (fun k hk1 hk2=>by
     cases ht:tl k with
     |false=>rfl
     |true=>have:=(h2 k hk2 ht).1 (hall k hk2);omega)
    rw[this]
    exact⟨h4.bump (by omega),h5.bump (by omega)⟩
  obtain⟨g1,g2⟩:=key
  refine hQ ι a w ⟨g1.defers,g1.size,fun t=>?_,g1.heap,g1.bound⟩ g2
  have:=g1.env t
  rwa [(Env.cut_get (Z2 ops (Lst listed)) _ t).1 (fun k hk _=>hall k hk)]at this
 intro fuel
 induction fuel with
 |zero=>
  intro listed a w ι hc hf hst
  have hall:∀k,k<ops.size→Lst listed k:=fun k hk=>FP (by omega) k (by rw[hc.size];exact hk)
  refine⟨?_,fin listed a w ι hall hst⟩
  cases hr:Region.ready .any ops listed with
  |nil=>rfl
  |cons x xs=>
   have hx:x∈Region.ready .any ops listed:=by rw[hr];exact List.mem_cons_self ..
   obtain⟨h1,o,ho,_⟩:=mem_ready.1 hx
   have hxs:x<ops.size:=(Array.getElem?_eq_some_iff.1 ho).1
   have:=hall x hxs
   unfold Lst at this
   have hxl:x<listed.size:=by rw[hc.size];exact hxs
   simp[hxl]at this h1
   rw[this]at h1
   cases h1
 |succ fuel ih=>
  intro listed a w ι hc hf hst
  refine⟨fun hr=>fin listed a w ι (F8 pl hc hr) hst,fun i hir=>?_⟩
  obtain⟨hun,o,ho,hedges⟩:=mem_ready.1 hir
  have hisz:i<ops.size:=(Array.getElem?_eq_some_iff.1 ho).1
  obtain⟨hleft,hilt⟩:=KG hun
  have hnl:¬Lst listed i:=by
   unfold Lst
   simp[hilt]at hun ⊢
   exact hun
  have hpre:∀k,M i k=true→Lst listed k:=by
   intro k hm
   rcases pl.by_ i k hm with hv|⟨o',ho',e,he,hb,hor⟩
   ·cases hv
   rw[ho]at ho'
   cases ho'
   have hl:=hedges e he hb
   rcases hor with rfl|h
   ·exact hl
   ·exact B6 pl hc (fun _ h=>nomatch h) e.on k hl h
  have hpost:∀k,M k i=true→ ¬Lst listed k:=fun k hm hl=>hnl (B6 pl hc (fun _ h=>nomatch h) k i hl hm)
  have hc':Cl ops (listed.setIfInBounds i true):=by
   refine⟨by simp[hc.size],fun k p hp hl e he hb=>?_⟩
   rw[Zk hilt]at hl ⊢
   rcases hl with hl|rfl
   ·exact .inl (hc.closed k p hp hl e he hb)
   ·rw[ho]at hp
    cases hp
    exact .inl (hedges e he hb)
  have hdst:Qh ops i=o.dst:=by simp[Qh,ho]
  -- the slots that a late operation looks at are Z2
  have looks:tl i=true∨early i=false→ ∀x∈o.looksAt ops,Z2 ops (Lst listed) x:=by
   intro hlate x hx k hk hkd
   have hk':ops[k]?=some (ops[k]'hk):=Array.getElem?_eq_getElem _
   have hkd':(ops[k]'hk).dst=some x:=by simpa[Qh,hk']using hkd
   exact hpre k (hd.uses2 i k o _ x hlate ho hk' hkd' hx)
  have agree:tl i=true∨early i=false→ ∀x∈o.looksAt ops,((QA s.env (Qh ops) v ops.size).cut (Z2 ops (Lst listed))).get x=(QA s.env (Qh ops) v ops.size).get x:=
   fun hlate x hx=>(Env.cut_get (Z2 ops (Lst listed)) _ x).1 (looks hlate x hx)
  -- a store,in the second phase
  have tailStep:∀(j:Nat),j≤ops.size→tl i=true→(∀k,k<ops.size→tl k=true→(Lst listed k↔k<j))→(∀k,k<ops.size→tl k=false→early k=true→Lst listed k)→
   RelS N ι ⟨(QA s.env (Qh ops) v ops.size).cut (Z2 ops (Lst listed)),T j,s.nx+ops.size*RR+j⟩ a w→StepN ι0 s.heap s.nx w0 ι (T j) (s.nx+ops.size*RR+j) w→
   wpOp P ops Q i (wpAny P .any ops Q fuel (listed.setIfInBounds i true)) a w:=by
   intro j hj hti hlist hearly hRS hSt
   have hod:=hd.tlDst i o ho hti
   have hij:j≤i:=by
    rcases Nat.lt_or_ge i j with h|h
    ·exact absurd ((hlist i hisz hti).2 h) hnl
    ·exact h
   have hTi:T i=T j:=Br hd hij (fun k h1 h2=>by
    cases ht:tl k with
    |false=>rfl
    |true=>
     have:=(hlist k (by omega) ht).1 (hpre k (hd.tailOrd k i ht hti h2 hisz))
     omega)
   rw[←hTi]at hRS hSt
   replace hRS:=hRS.bump (m:=s.nx+ops.size*RR+i) (by omega)
   replace hSt:=hSt.bump (m:=s.nx+ops.size*RR+i) (by omega)
   unfold wpOp
   rw[ho]
   refine hd.tail i o ho hti _ (agree (.inl hti)) ι a w _ Q hRS (fun κ a' w' hRS' hSt'=>?_)
   have hcut:(QA s.env (Qh ops) v ops.size).cut (Z2 ops (Lst (listed.setIfInBounds i true)))=(QA s.env (Qh ops) v ops.size).cut (Z2 ops (Lst listed)):=by
    have:Z2 ops (Lst (listed.setIfInBounds i true))=Z2 ops (Lst listed):=by
     funext x
     refine propext ⟨fun h k hk hkd=>?_,fun h k hk hkd=>(Zk hilt).2 (.inl (h k hk hkd))⟩
     rcases(Zk hilt).1 (h k hk hkd)with h'|rfl
     ·exact h'
     ·rw[hdst,hod]at hkd;cases hkd
    rw[this]
   refine ih _ a' w' κ hc' (by omega) (.inr ⟨i+1,by omega,fun k hk htk=>?_,fun k hk h1 h2=>(Zk hilt).2 (.inl (hearly k hk h1 h2)),by rw[hcut];exact hRS',hSt.trans hSt'⟩)
   rw[Zk hilt,hlist k hk htk]
   constructor
   ·rintro(h|rfl)<;>omega
   ·intro h
    rcases Nat.lt_or_ge k i with h'|h'
    ·exact .inl ((hlist k hk htk).1 (hpre k (hd.tailOrd k i htk hti h' hisz)))
    ·exact .inr (by omega)
  rcases hst with⟨h1,h2,h3⟩|⟨j,h1,h2,h3,h4,h5⟩
  ·cases hti:tl i with
   |false=>
    unfold wpOp
    rw[ho]
    refine JM pl hS h3 ho hisz hnl hpre hpost (hd.dst i o ho hti) (fun k _=>hd.news k) (hd.calm i o ho hti) (fun κ a' w' hI=>?_)
    refine ih _ a' w' κ hc' (by omega) (.inl ⟨fun k hk htk=>?_,fun k hk=>?_,?_⟩)
    ·rw[Zk hilt]
     rintro(h|rfl)
     ·exact h1 k hk htk h
     ·rw[hti]at htk;cases htk
    ·rcases(Zk hilt).1 hk with h|rfl
     ·exact h2 k h
     ·exact hisz
    ·have:(fun k=>Lst listed k∨k=i)=Lst (listed.setIfInBounds i true):=funext fun k=>propext (Zk hilt).symm
     rw[←this]
     exact hI
   |true=>
    have hearly:∀k,k<ops.size→tl k=false→early k=true→Lst listed k:=fun k hk hk1 hk2=>hpre k (hd.earlyM k i hk hk1 hk2 hti hisz)
    have hlow:∀k,k<i→tl k=false:=fun k hk=>by
     cases ht:tl k with
     |false=>rfl
     |true=>exact absurd (hpre k (hd.tailOrd k i ht hti hk hisz)) (h1 k (by omega) ht)
    obtain⟨g1,g2⟩:=turn listed a w ι i (by omega) h1 hlow hearly h3
    exact tailStep i (by omega) hti (fun k hk htk=>⟨fun h=>absurd h (h1 k hk htk),fun h=>by have:=hlow k h;rw[htk]at this;cases this⟩) hearly g1 g2
  ·cases hti:tl i with
   |true=>exact tailStep j h1 hti h2 h3 h4 h5
   |false=>
    have hel:early i=false:=by
     cases he:early i with
     |false=>rfl
     |true=>exact absurd (h3 i hisz hti he) hnl
    unfold wpOp
    rw[ho]
    refine hd.loose i o ho hti hel j h1 _ (agree (.inr hel)) ι _ a w _ Q h4.env h4.heap.ro' h4.bound (fun u w' hu hst'=>?_)
    obtain⟨k1,k2⟩:=hst'.of_ro (T j)
    have hdok:=hd.dst i o ho hti
    refine ih _ _ w' ι hc' (by omega) (.inr ⟨j,h1,fun k hk htk=>?_,fun k hk e1 e2=>(Zk hilt).2 (.inl (h3 k hk e1 e2)),⟨by rw[X6];exact h4.defers,?_,fun t=>?_,?_,?_⟩,h5.trans k1⟩)
    ·rw[Zk hilt,h2 k hk htk]
     constructor
     ·rintro(h|rfl)
      ·exact h
      ·rw[hti]at htk;cases htk
     ·exact .inl
    ·have:=h4.size
     cases o.dst<;>simpa[Act.put]using this
    ·show RelV ι (((QA s.env (Qh ops) v ops.size).cut (Z2 ops (Lst (listed.setIfInBounds i true)))).get t) _
     by_cases hset:Z2 ops (Lst (listed.setIfInBounds i true)) t
     ·rw[(Env.cut_get (Z2 ops (Lst (listed.setIfInBounds i true))) _ t).1 hset]
      by_cases hot:o.dst=some t
      ·have htN:t<N:=by
        have:=hdok
        rw[hot]at this
        simpa[Z6,Nat.blt_eq]using this
       rw[hot,Mf a (Nat.lt_of_lt_of_le htN h4.size),B0 pl hisz (by rw[hdst];exact hot)]
       exact hu
      ·rw[K1 a hot]
       have:=h4.env t
       rwa [(Env.cut_get (Z2 ops (Lst listed)) _ t).1 (fun k hk hkd=>by
        rcases(Zk hilt).1 (hset k hk hkd)with h|rfl
        ·exact h
        ·rw[hdst]at hkd;exact absurd hkd hot)]at this
     ·rw[(Env.cut_get (Z2 ops (Lst (listed.setIfInBounds i true))) _ t).2 hset]
      exact .any _
    ·exact⟨fun n b hn=>let⟨L,hL,hB⟩:=h4.heap.blk n b hn;⟨L,hL,hB.keep (Inj.le_refl ι) (k2 _ (h4.bound n L hL).2)⟩,h4.heap.inj,h4.heap.fz_keep k1.st rfl⟩
    ·exact fun n L hn=>⟨(h4.bound n L hn).1,Nat.lt_of_lt_of_le (h4.bound n L hn).2 k1.st.size⟩
theorem Fq[Syms]{tl early:Nat→Bool}{T:Nat→Heap}{Q:Exit→Act→World→Prop}{id:Nat}{a:Act}{w:World}{ι:Inj}(hm:P.follows .mixedOrders=true)(hd:Drawn2 P N ops M s v nw tl early T)(hS:RelS N ι s a w)
 (hQ:∀κ a' w',RelS N κ ⟨QA s.env (Qh ops) v ops.size,T ops.size,s.nx+ops.size*RR+ops.size⟩ a' w'→StepN ι s.heap s.nx w κ (T ops.size) (s.nx+ops.size*RR+ops.size) w'→Q .normal a' w'):(Code.region id ops true).wp P Q a w:=by
 refine wp_region_any hm ?_
 have hH:RelH ι s.heap {w with drawn:=w.drawn+1}:=⟨fun n b hb=>let⟨L,h1,h2⟩:=hS.heap.blk n b hb;⟨L,h1,h2.keep (Inj.le_refl ι) rfl⟩,hS.heap.inj,hS.heap.fz⟩
 have hst:StepN ι s.heap s.nx w ι s.heap s.nx {w with drawn:=w.drawn+1}:=⟨Step.drew ι s.heap w _,Nat.le_refl _,fun _ _ h=>.inl h⟩
 have no:∀k,¬Lst (Array.replicate ops.size false) k:=by
  intro k h
  unfold Lst at h
  rcases Nat.lt_or_ge k ops.size with h'|h'
  ·simp[h']at h
  ·simp[h']at h
 refine IC (w0:={w with drawn:=w.drawn+1}) hd ⟨hH,hS.bound⟩ (fun κ a' w' h1 h2=>hQ κ a' w' h1 (hst.trans h2)) _ _ a _ ι ⟨by simp,fun k o ho h=>absurd h (no k)⟩ (by simp[left]) (.inl ⟨fun k _ _=>no k,fun k h=>absurd h (no k),?_⟩)
 exact⟨hS.defers,hS.size,Inj.le_refl ι,fun m L hm=>⟨(hS.bound m L hm).2,.inl hm⟩,rfl,rfl,rfl,Nat.le_refl _,fun _ _=>rfl,fun t _=>hS.env t,fun k t _ h=>absurd h (no k),fun k id b _ h=>absurd h (no k),fun k k' id id' b b' L L' _ _ h=>absurd h (no k),fun g cs hg=>⟨.inl hg,(hS.heap.fz g cs hg).1,fun k id b L _ h=>absurd h (no k)⟩⟩
end
end Go.Av
end
end
section
set_option linter.unusedVariables false
set_option linter.unusedSimpArgs false
noncomputable section
namespace Go.Av
def MD:Op→Bool
 | .move _| .assign _| .pick _ _ _| .load _ _| .fieldAddr _ _ _| .field _ _ _| .indexAddr _ _ _| .index _ _ _| .binOp _ _ _ _ _| .unOp _ _ _| .extract _ _| .nilCheck _| .slice _ _ _ _ _=>true
 |_=>false
theorem R8{tt:TT}{ρ:Operand→AVal}{H:Heap}{op:Op}(h:MD op=true)(m m':Nat):aop tt ρ H m op=aop tt ρ H m' op:=by
 cases op<;>first|rfl|(simp[MD]at h)
def Zx:Op→Bool
 | .store _ _ _=>true
 |_=>false
def tl2(ops:Array Oper)(i:Nat):Bool:=match ops[i]? with
 |some o=>Zx o.op
 |none=>false
def VJ(ops:Array Oper)(ms:List Nat)(i:Nat):Bool:=!tl2 ops i&&Xc (fun t=>!tl2 ops t||(ms.getD t 0).testBit i) ops.size
def MO(ws:List Nat):Heap→Heap
 |[]=>[]
 |(k,b)::h=>(k,bif ws.contains k then none else b)::MO ws h
theorem JI(ws:List Nat):∀(H:Heap) (n:Nat),(MO ws H).get n=if ws.contains n then none else H.get n
 |[],n=>by simp[MO,Heap.get_nil]
 |(k,b)::h,n=>by
  simp only[MO,Heap.get_cons,JI ws h n]
  by_cases hk:n=k
  ·subst hk
   cases hb:ws.contains n<;>simp[Nat.beq_refl]
  ·rw[Qd hk]
   rfl
theorem GT{H0:Heap}{p:Nat→Bool}:∀i,Y7 H0 (fun _=>[]) p i=H0
 |0=>rfl
 |i+1=>by
  simp only[Y7,GT i]
  split<;>rfl
theorem I7[Syms]{G H:Heap}(h:∀n b,G.get n=some b→H.get n=some b):∀n b,(ZK G).get n=some b→(ZK H).get n=some b:=by
 intro n b hb
 obtain⟨rows,ro,h1,rfl⟩:=Zt hb
 rw[FA,h n _ h1]
 rfl
theorem RelH.less[Syms]{ι:Inj}{G H:Heap}{w:World}(h:RelH ι (ZK H) w)(hs:∀n b,G.get n=some b→H.get n=some b):RelH ι (ZK G) w:=h.sub (I7 hs)
theorem Zn.more[Syms]{P:Program}{N:Nat}{ops:Array Oper}{o:Oper}{env:Env}{G H:Heap}{m:Nat}{v:AVal}{news:List (Nat×Blk)}(h:Zn P N ops o env G m v news)(hs:∀n b,G.get n=some b→H.get n=some b):
 Zn P N ops o env H m v news:=fun ι a w K Q hd hN he hH hb hK=>h ι a w K Q hd hN he (hH.less hs) hb hK
def Ml(call:CallF)(tt:TT)(N:Nat)(ops:Array Oper)(ws:List Nat)(ea:Nat→Bool)(H:Heap)(nx:Nat):Nat→List Oper→Env→Option (List AVal)
 |_,[],_=>some []
 |i,o::l,e=>
  if Zx o.op then(match Ml call tt N ops ws ea H nx (i+1) l e with|some vs=>some (.any::vs)|none=>none)
  else if Z6 N o.dst then
   match(if ea i then Yl call tt ops o e H (nx+i*RR)else if MD o.op then Yl call tt ops o e (MO ws H) (nx+i*RR)else none)with
   |some (v,[])=>(match Ml call tt N ops ws ea H nx (i+1) l (e.put o.dst v)with|some vs=>some (v::vs)|none=>none)
   |_=>none
  else none
theorem K3{call:CallF}{tt:TT}{N:Nat}{ops:Array Oper}{ws:List Nat}{ea:Nat→Bool}{H:Heap}{nx:Nat}{env0:Env}(hst:∀(k:Nat) (o:Oper),ops[k]?=some o→Zx o.op=true→o.dst=none):
 ∀(l:List Oper) (i:Nat) (e:Env) (vs:List AVal),(∀j,j<l.length→l[j]?=ops[i+j]?)→Ml call tt N ops ws ea H nx i l e=some vs→
  vs.length=l.length∧ ∀v:Nat→AVal,(∀j,j<l.length→vs[j]?=some (v (i+j)))→e=QA env0 (Qh ops) v i→
   ∀k o,i≤k→k<i+l.length→ops[k]?=some o→Zx o.op=false→Z6 N o.dst=true∧
    (ea k=true→Yl call tt ops o (QA env0 (Qh ops) v k) H (nx+k*RR)=some (v k,[]))∧
    (ea k=false→MD o.op=true∧Yl call tt ops o (QA env0 (Qh ops) v k) (MO ws H) (nx+k*RR)=some (v k,[]))
 |[],i,e,vs,_,h=>by
  simp only[Ml,Option.some.injEq]at h
  subst h
  exact⟨rfl,fun v _ _ k o h1 h2=>by simp at h2;omega⟩
 |o::l,i,e,vs,hl,h=>by
  have ho:ops[i]?=some o:=by have:=hl 0 (by simp);simpa using this.symm
  have hl':∀j,j<l.length→l[j]?=ops[i+1+j]?:=fun j hj=>by
   have:=hl (j+1) (by simpa using hj)
   simpa[Nat.add_assoc,Nat.add_comm 1 j]using this
  simp only[Ml]at h
  split at h
  ·rename_i hs
   split at h
   ·rename_i us hus
    cases h
    obtain⟨ih1,ih2⟩:=K3 hst l (i+1) e us hl' hus
    refine⟨by simp[ih1],fun v hv he k p h1 h2 hp hps=>?_⟩
    have hd:Qh ops i=none:=by simp[Qh,ho,hst i o ho hs]
    have:=ih2 v (fun j hj=>by have:=hv (j+1) (by simpa using hj);simpa[Nat.add_assoc,Nat.add_comm 1 j]using this) (by simp only[QA,hd,Env.put];exact he) k p
    rcases Nat.lt_or_ge i k with hik|hik
    ·exact this (by omega) (by simp at h2;omega) hp hps
    ·obtain rfl:k=i:=by omega
     rw[ho]at hp;cases hp
     rw[hs]at hps;cases hps
   ·cases h
  ·rename_i hs
   split at h
   rotate_left
   ·cases h
   rename_i hdok
   split at h
   rotate_left
   ·cases h
   rename_i x hop
   split at h
   rotate_left
   ·cases h
   rename_i us hus
   cases h
   obtain⟨ih1,ih2⟩:=K3 hst l (i+1) _ us hl' hus
   refine⟨by simp[ih1],fun v hv he k p h1 h2 hp hps=>?_⟩
   have hvi:v i=x:=by have:=hv 0 (by simp);simpa using this.symm
   have hd:Qh ops i=o.dst:=by simp[Qh,ho]
   rcases Nat.lt_or_ge i k with hik|hik
   ·exact ih2 v (fun j hj=>by have:=hv (j+1) (by simpa using hj);simpa[Nat.add_assoc,Nat.add_comm 1 j]using this) (by simp only[QA,hd,hvi];rw[he]) k p (by omega) (by simp at h2;omega) hp hps
   ·obtain rfl:k=i:=by omega
    rw[ho]at hp;cases hp
    refine⟨hdok,fun hea=>?_,fun hea=>?_⟩
    ·rw[hea]at hop
     simp only[if_true]at hop
     rw[←he,hvi]
     exact hop
    ·rw[hea]at hop
     simp only[Bool.false_eq_true,if_false]at hop
     split at hop
     ·rename_i hpu
      rw[←he,hvi]
      exact⟨hpu,hop⟩
     ·cases hop
theorem Bh{tt:TT}{ρ:Operand→AVal}{H:Heap}{op:Op}(h:Zx op=true)(m m':Nat):aop tt ρ H m op=aop tt ρ H m' op:=by
 cases op<;>first|rfl|(simp[Zx]at h)
def Kq(env:Env):Op→Option Nat
 | .store _ x _=>match evE env x with
   | .ptr n _ _=>some n
   |_=>none
 |_=>none
def VY(tt:TT)(ops:Array Oper)(E:Env)(ws:List Nat)(nx:Nat):List Oper→Heap→Option (List Heap)
 |[],H=>some [H]
 |o::l,H=>
  if Zx o.op then
   match Qo ops E o with
   |some false=>(match VY tt ops E ws nx l H with|some Ts=>some (H::Ts)|none=>none)
   |some true=>match aop tt (evE E) H nx o.op,Kq E o.op with
    |some (.upd H' _),some n=>if ws.contains n then(match VY tt ops E ws nx l H' with|some Ts=>some (H::Ts)|none=>none)else none
    |_,_=>none
   |none=>none
  else(match VY tt ops E ws nx l H with|some Ts=>some (H::Ts)|none=>none)
theorem BH[Syms]{tt:TT}{E:Env}{H H':Heap}{m:Nat}{op:Op}{v:AVal}{n k:Nat}(h:aop tt (evE E) H m op=some (.upd H' v))(hn:Kq E op=some n)(hk:k≠n):H'.get k=H.get k:=by
 unfold Kq at hn
 split at hn
 ·rename_i t x y
  split at hn
  ·rename_i n' kk j hp
   cases hn
   simp only[aop,hp,JU]at h
   split at h
   ·split at h
    ·split at h
     ·simp only[Option.map_some,Option.some.injEq,Res.upd.injEq]at h
      rw[←h.1,Heap.get_set_ne _ _ hk]
     ·simp at h
    ·simp at h
   ·simp at h
  ·cases hn
 ·cases hn
theorem G7[Syms]{tt:TT}{ops:Array Oper}{E:Env}{ws:List Nat}{nx:Nat}:∀(l:List Oper) (H:Heap) (Ts:List Heap),VY tt ops E ws nx l H=some Ts→
 Ts.length=l.length+1∧Ts.getD 0 []=H∧(∀j,j<l.length+1→ ∀k,ws.contains k=false→(Ts.getD j []).get k=H.get k)∧
 ∀j o,l[j]?=some o→(Zx o.op=false→Ts.getD (j+1) []=Ts.getD j [])∧
  (Zx o.op=true→(Qo ops E o=some false∧Ts.getD (j+1) []=Ts.getD j [])∨(Qo ops E o=some true∧ ∃v,aop tt (evE E) (Ts.getD j []) nx o.op=some (.upd (Ts.getD (j+1) []) v)))
 |[],H,Ts,h=>by
  simp only[VY,Option.some.injEq]at h
  subst h
  refine⟨rfl,rfl,fun j hj k _=>?_,fun j o h=>by simp at h⟩
  have:j=0:=by simpa using hj
  subst this
  rfl
 |o::l,H,Ts,h=>by
  have step:∀(H':Heap) (Us:List Heap),VY tt ops E ws nx l H'=some Us→Ts=H::Us→(∀k,ws.contains k=false→H'.get k=H.get k)→
   ((Zx o.op=false→H'=H)∧(Zx o.op=true→(Qo ops E o=some false∧H'=H)∨(Qo ops E o=some true∧ ∃v,aop tt (evE E) H nx o.op=some (.upd H' v))))→
   Ts.length=(o::l).length+1∧Ts.getD 0 []=H∧(∀j,j<(o::l).length+1→ ∀k,ws.contains k=false→(Ts.getD j []).get k=H.get k)∧
   ∀j p,(o::l)[j]?=some p→(Zx p.op=false→Ts.getD (j+1) []=Ts.getD j [])∧
    (Zx p.op=true→(Qo ops E p=some false∧Ts.getD (j+1) []=Ts.getD j [])∨(Qo ops E p=some true∧ ∃v,aop tt (evE E) (Ts.getD j []) nx p.op=some (.upd (Ts.getD (j+1) []) v))):=by
   rintro H' Us hU rfl hk ⟨hs1,hs2⟩
   obtain⟨i1,i2,i3,i4⟩:=G7 l H' Us hU
   refine⟨by simp[i1],rfl,fun j hj k hkw=>?_,fun j p hp=>?_⟩
   ·cases j with
    |zero=>rfl
    |succ j=>
     have:=i3 j (by simpa using hj) k hkw
     rw[←hk k hkw]
     simpa using this
   ·cases j with
    |zero=>
     have:o=p:=by simpa using hp
     subst this
     have e1:(H::Us).getD (0+1) []=H':=by simpa using i2
     have e0:(H::Us).getD 0 []=H:=rfl
     rw[e1,e0]
     exact⟨hs1,hs2⟩
    |succ j=>
     have:=i4 j p (by simpa using hp)
     simpa using this
  simp only[VY]at h
  split at h
  ·rename_i hs
   split at h
   ·rename_i hw
    split at h
    ·rename_i Us hU
     cases h
     exact step H Us hU rfl (fun _ _=>rfl) ⟨fun _=>rfl,fun _=>.inl ⟨hw,rfl⟩⟩
    ·cases h
   ·rename_i hw
    split at h
    ·rename_i H' v n ha hn
     split at h
     ·rename_i hws
      split at h
      ·rename_i Us hU
       cases h
       refine step H' Us hU rfl (fun k hk=>BH ha hn (fun e=>?_)) ⟨fun h=>(by rw[hs]at h;cases h),fun _=>.inr ⟨hw,v,ha⟩⟩
       subst e
       rw[hws]at hk
       cases hk
      ·cases h
     ·cases h
    ·cases h
   ·cases h
  ·rename_i hs
   split at h
   ·rename_i Us hU
    cases h
    exact step H Us hU rfl (fun _ _=>rfl) ⟨fun _=>rfl,fun h=>absurd h hs⟩
   ·cases h
theorem Yp{ops:Array Oper}{o:Oper}{e e':Env}(h:∀x∈o.looksAt ops,e.get x=e'.get x):Qo ops e o=Qo ops e' o:=by
 unfold Qo
 cases hg:o.guard with
 |none=>rfl
 |some g=>
  obtain⟨j,want⟩:=g
  simp only
  cases hd:(ops[j]?).bind (·.dst)with
  |none=>rfl
  |some d=>
   simp only
   rw[h d (List.mem_append_right _ (by rw[hg];simp[hd]))]
theorem D4{ops:Array Oper}{o:Oper}{e e':Env}(h:∀x∈o.looksAt ops,e.get x=e'.get x){x:Operand}(hx:x∈o.op.operands):evE e x=evE e' x:=by
 cases x with
 |tmp t=>exact h t (List.mem_append_left _ (List.mem_filterMap.2 ⟨.tmp t,by simpa using hx,rfl⟩))
 |_=>rfl
theorem WW(s:St):s.ev=evE s.env:=by
 funext x
 cases x<;>rfl
theorem WH.more[Syms]{P:Program}{N:Nat}{ops:Array Oper}{o:Oper}{env:Env}{G H:Heap}{v:AVal}(h:WH P N ops o env G v)(hs:∀n b,G.get n=some b→H.get n=some b):WH P N ops o env H v:=
 fun ι m a w K Q he hH hb hK=>h ι m a w K Q he (hH.less hs) hb (fun u w' hu hst=>hK u w' hu (hst.of_ro (ZK H)).1)
def Hu(ops:Array Oper)(ms:List Nat):Bool:=
 U5 ops ms [] ops.size&&
 Xc (fun i=>match ops[i]? with
  |some o=>
   (!Zx o.op||o.dst.isNone)&&
   Xc (fun k=>
    (!(tl2 ops i&&tl2 ops k&&Nat.blt k i)||(ms.getD i 0).testBit k)&&
    (!(tl2 ops i||!VJ ops ms i)||(match ops[k]? with
      |some p=>(match p.dst with
       |some d=>!(o.looksAt ops).contains d||(ms.getD i 0).testBit k
       |none=>true)
      |none=>true))) ops.size
  |none=>true) ops.size
def MS:List Oper→List AVal→Env→Env
 |o::l,v::vs,e=>MS l vs (e.put o.dst v)
 |_,_,e=>e
theorem Cv{ops:Array Oper}{env0:Env}:∀(l:List Oper) (vs:List AVal) (i:Nat) (e:Env) (v:Nat→AVal),(∀j,j<l.length→l[j]?=ops[i+j]?)→(∀j,j<l.length→vs[j]?=some (v (i+j)))→vs.length=l.length→e=QA env0 (Qh ops) v i→
 MS l vs e=QA env0 (Qh ops) v (i+l.length)
 |[],vs,i,e,v,_,_,hlen,he=>by
  have:vs=[]:=List.length_eq_zero_iff.1 hlen
  subst this
  exact he
 |o::l,x::vs,i,e,v,hl,hv,hlen,he=>by
  have ho:ops[i]?=some o:=by have:=hl 0 (by simp);simpa using this.symm
  have hvi:v i=x:=by have:=hv 0 (by simp);simpa using this.symm
  simp only[MS]
  rw[List.length_cons,show i+(l.length+1)=i+1+l.length by omega]
  refine Cv l vs (i+1) _ v (fun j hj=>?_) (fun j hj=>?_) (by simpa using hlen) ?_
  ·have:=hl (j+1) (by simpa using hj)
   simpa[Nat.add_assoc,Nat.add_comm 1 j]using this
  ·have:=hv (j+1) (by simpa using hj)
   simpa[Nat.add_assoc,Nat.add_comm 1 j]using this
  ·simp only[QA,show Qh ops i=o.dst by simp[Qh,ho],hvi,he]
 |o::l,[],i,e,v,_,_,hlen,_=>by simp at hlen
def UZ(call:CallF)(tt:TT)(N:Nat)(ops:Array Oper)(s:St):Option St:=
 if Hu ops (C4 ops)then
  match Ml call tt N ops [] (VJ ops (C4 ops)) s.heap s.nx 0 ops.toList s.env with
  |some vs0=>
   let ws:=ops.toList.filterMap fun o=>Kq (MS ops.toList vs0 s.env) o.op
   match Ml call tt N ops ws (VJ ops (C4 ops)) s.heap s.nx 0 ops.toList s.env with
   |some vs=>
    match VY tt ops (MS ops.toList vs s.env) ws (s.nx+ops.size*RR) ops.toList s.heap with
    |some Ts=>some ⟨MS ops.toList vs s.env,Ts.getD ops.size [],s.nx+ops.size*RR+ops.size⟩
    |none=>none
   |none=>none
  |none=>none
 else none
theorem Xd.bump[Syms]{P:Program}{N:Nat}{ops:Array Oper}{o:Oper}{s:St}{e:Env}{H:Heap}{n m:Nat}(h:Xd P N ops o s ⟨e,H,n⟩)(hn:n≤m):Xd P N ops o s ⟨e,H,m⟩:=
 fun ι a w K Q hS hK=>h ι a w K Q hS (fun κ a' w' h1 h2=>hK κ a' w' (h1.bump hn) (h2.bump hn))
theorem Jo[Syms]{P:Program}{call:CallF}{tt:TT}{N:Nat}(htt:TT.ok P tt)(hcall:call.ok P)(hm:P.follows .mixedOrders=true){id:Nat}{ops:Array Oper}{s s':St}(h:UZ call tt N ops s=some s')
 {Q:Exit→Act→World→Prop} {ι:Inj} {a:Act} {w:World} (hS:RelS N ι s a w) (hQ:∀κ a' w',RelS N κ s' a' w'→StepN ι s.heap s.nx w κ s'.heap s'.nx w'→Q .normal a' w'):(Code.region id ops true).wp P Q a w:=by
 unfold UZ at h
 split at h
 rotate_left
 ·cases h
 rename_i hplan
 split at h
 rotate_left
 ·cases h
 rename_i vs0 _
 simp only at h
 generalize ops.toList.filterMap (fun o=>Kq (MS ops.toList vs0 s.env) o.op)=ws at h
 split at h
 rotate_left
 ·cases h
 rename_i vs hvs
 split at h
 rotate_left
 ·cases h
 rename_i Ts hTs
 cases h
 generalize hms:C4 ops=ms at *
 simp only[Hu,Bool.and_eq_true]at hplan
 obtain⟨hp1,hp2⟩:=hplan
 have pl:Plan ops ops.size _ nomv:=(U4 hp1).1
 have at_:∀(i:Nat) (o:Oper),ops[i]?=some o→(Zx o.op=true→o.dst=none)∧ ∀k,k<ops.size→(tl2 ops i=true→tl2 ops k=true→k<i→(ms.getD i 0).testBit k=true)∧
  (tl2 ops i=true∨VJ ops ms i=false→ ∀p d,ops[k]?=some p→p.dst=some d→d∈o.looksAt ops→(ms.getD i 0).testBit k=true):=by
  intro i o ho
  have:=QX hp2 i (Array.getElem?_eq_some_iff.1 ho).1
  rw[ho]at this
  simp only[Bool.and_eq_true]at this
  obtain⟨g1,g2⟩:=this
  refine⟨fun hs=>?_,fun k hk=>?_⟩
  ·rw[hs]at g1
   simpa using g1
  ·have:=QX g2 k hk
   simp only[Bool.and_eq_true]at this
   obtain⟨g4,g5⟩:=this
   refine⟨fun h1 h2 h3=>?_,fun h1 p d hp hd hl=>?_⟩
   ·have hb:Nat.blt k i=true:=by simpa[Nat.blt_eq]using h3
    simpa[h1,h2,hb]using g4
   ·have h1':(tl2 ops i||!VJ ops ms i)=true:=by
     rcases h1 with h|h<;>simp[h]
    rw[h1',hp]at g5
    simp only[Bool.not_true,Bool.false_or,hd]at g5
    simpa[hl]using g5
 have hl0:∀j,j<ops.toList.length→ops.toList[j]?=ops[0+j]?:=fun j _=>by simp
 have hst:∀(k:Nat) (o:Oper),ops[k]?=some o→Zx o.op=true→o.dst=none:=fun k o ho=>(at_ k o ho).1
 obtain⟨hlen,hspec⟩:=K3 (env0:=s.env) hst ops.toList 0 s.env vs hl0 hvs
 have hvv:∀j,j<ops.toList.length→vs[j]?=some ((fun k=>vs.getD k .any) (0+j)):=fun j hj=>by
  have:j<vs.length:=by rw[hlen];exact hj
  simp[this]
 have hE:=Cv (ops:=ops) (env0:=s.env) ops.toList vs 0 s.env (fun k=>vs.getD k .any) hl0 hvv hlen rfl
 have hspec:=hspec (fun k=>vs.getD k .any) hvv rfl
 rw[Nat.zero_add,Array.length_toList]at hE
 rw[hE]at hTs hQ
 obtain⟨hT1,hT2,hT3,hT4⟩:=G7 ops.toList s.heap Ts hTs
 have tlo:∀(i:Nat) (o:Oper),ops[i]?=some o→tl2 ops i=Zx o.op:=fun i o ho=>by simp[tl2,ho]
 have tlN:∀i,tl2 ops i=true→ ∃o,ops[i]?=some o∧Zx o.op=true:=fun i h=>by
  unfold tl2 at h
  split at h
  ·rename_i o ho;exact⟨o,ho,h⟩
  ·cases h
 have agreeE:∀(i:Nat) (o:Oper),ops[i]?=some o→VJ ops ms i=false→ ∀x∈o.looksAt ops,(QA s.env (Qh ops) (fun k=>vs.getD k .any) i).get x=(QA s.env (Qh ops) (fun k=>vs.getD k .any) ops.size).get x:=by
  intro i o ho he x hx
  have hi:=(Array.getElem?_eq_some_iff.1 ho).1
  by_cases hex:∃k,k<ops.size∧Qh ops k=some x
  ·obtain⟨k,hk,hd⟩:=hex
   have hk':ops[k]?=some (ops[k]'hk):=Array.getElem?_eq_getElem _
   have hki:=pl.lt i k (((at_ i o ho).2 k hk).2 (.inr he) _ x hk' (by simpa[Qh,hk']using hd) hx)
   rw[Nl pl (by omega) hki hd,B0 pl hk hd]
  ·rw[Yj (fun k hk hd=>hex ⟨k,by omega,hd⟩),Yj (fun k hk hd=>hex ⟨k,hk,hd⟩)]
 have hTend:Ts.getD ops.size []=(fun i=>Ts.getD (min i ops.size) []) ops.size:=by simp
 rw[hTend]at hQ
 refine Fq (M:=fun i k=>(ms.getD i 0).testBit k) (v:=fun k=>vs.getD k .any) (nw:=fun _=>[]) (tl:=tl2 ops) (early:=VJ ops ms) (T:=fun i=>Ts.getD (min i ops.size) []) hm
  ⟨pl,fun t o ho ht=>hst t o ho (by rw[←tlo t o ho];exact ht),fun t u ht hu htu hus=>?_,fun k t hk hkt hke ht hts=>?_,fun i k o p d hl ho hp hd hlook=>?_,fun i o ho hi=>?_,fun k id b hin=>(by cases hin),fun _ _=>rfl,fun i o ho hi=>?_,?_,fun i hi=>?_,fun t o ho ht env' hag=>?_,fun i o ho hi he j hj env' hag=>?_⟩ hS hQ
 ·obtain⟨o,ho,_⟩:=tlN u hu
  exact((at_ u o ho).2 t (by omega)).1 hu ht htu
 ·simp only[VJ,Bool.and_eq_true]at hke
  have:=QX hke.2 t hts
  rw[ht]at this
  simpa using this
 ·have hk:=(Array.getElem?_eq_some_iff.1 hp).1
  exact((at_ i o ho).2 k hk).2 hl p d hp hd hlook
 ·rw[tlo i o ho]at hi
  exact(hspec i o (Nat.zero_le _) (by simpa using(Array.getElem?_eq_some_iff.1 ho).1) ho hi).1
 ·have hi':=hi
  rw[tlo i o ho]at hi
  obtain⟨_,k1,k2⟩:=hspec i o (Nat.zero_le _) (by simpa using(Array.getElem?_eq_some_iff.1 ho).1) ho hi
  rw[GT]
  cases he:VJ ops ms i with
  |true=>
   have:=k1 he
   rw[←Uk]at this
   exact(VN (P:=P) (N:=N) htt hcall this).1
  |false=>
   have:=(k2 he).2
   rw[←Uk]at this
   refine Zn.more (VN (P:=P) (N:=N) htt hcall this).1 (fun n b hn=>?_)
   rw[JI]at hn
   split at hn
   ·cases hn
   ·exact hn
 ·rw[GT]
  simpa using hT2
 ·rcases Nat.lt_or_ge i ops.size with h|h
  ·have ho:ops[i]?=some ops[i]:=Array.getElem?_eq_getElem h
   have hi:=hi
   rw[tlo i _ ho]at hi
   have:=(hT4 i ops[i] (by simp only[Array.getElem?_toList];exact ho)).1 hi
   simp only[show min (i+1) ops.size=i+1 by omega,show min i ops.size=i by omega]
   exact this
  ·simp only[show min (i+1) ops.size=ops.size by omega,show min i ops.size=ops.size by omega]
 ·have hsz:=(Array.getElem?_eq_some_iff.1 ho).1
  have hst1:Zx o.op=true:=by rw[←tlo t o ho];exact ht
  have hdn:=hst t o ho hst1
  simp only[show min (t+1) ops.size=t+1 by omega,show min t ops.size=t by omega]
  have hdok:Z6 N o.dst=true:=by rw[hdn];rfl
  rcases(hT4 t o (by simpa using ho)).2 hst1 with⟨hw,hT⟩|⟨hw,x,hx⟩
  ·rw[hT]
   have:=VB (P:=P) (N:=N) (ops:=ops) (o:=o) (s:=⟨env',Ts.getD t [],s.nx+ops.size*RR+t⟩) (by rw[Yp hag];exact hw) hdok
   rw[hdn]at this
   exact this.bump (Nat.le_succ _)
  ·have:=Ve (P:=P) htt (N:=N) (ops:=ops) (o:=o) (s:=⟨env',Ts.getD t [],s.nx+ops.size*RR+t⟩) (r:=.upd (Ts.getD (t+1) []) x) (by rw[Yp hag];exact hw) hdok (by
    rw[WW,Vp o.op (fun y hy=>D4 hag hy),Bh hst1 _ (s.nx+ops.size*RR)]
    exact hx)
   rw[hdn]at this
   exact this
 ·rw[tlo i o ho]at hi
  have hisz:=(Array.getElem?_eq_some_iff.1 ho).1
  obtain⟨_,_,k2⟩:=hspec i o (Nat.zero_le _) (by simpa using hisz) ho hi
  obtain⟨hpu,hc⟩:=k2 he
  have hag':∀x∈o.looksAt ops,env'.get x=(QA s.env (Qh ops) (fun k=>vs.getD k .any) i).get x:=fun x hx=>by rw[hag x hx,agreeE i o ho he x hx]
  refine WH.more (G:=MO ws s.heap) ?_ (fun n b hn=>?_)
  ·unfold Yl at hc
   split at hc
   ·rename_i hw
    simp only[Option.some.injEq,Prod.mk.injEq]at hc
    rw[←hc.1]
    exact Ek (by rw[Yp hag'];exact hw)
   ·rename_i hw
    have hno:V4 o.op=none:=by
     cases hop:o.op<;>rw[hop]at hpu<;>first|rfl|(simp[MD]at hpu)
    rw[hno]at hc
    simp only at hc
    split at hc
    ·rename_i r hr
     split at hc
     ·rename_i hcalm
      simp only[Option.some.injEq,Prod.mk.injEq]at hc
      have hrv:r= .val (vs.getD i .any):=by
       cases r with
       |val y=>rw[←hc.1];rfl
       |new b y=>simp[Res.news]at hc
       |upd h y=>simp[Res.calm]at hcalm
      subst hrv
      refine Ir htt (by rw[Yp hag'];exact hw) (fun m=>?_)
      rw[Vp o.op (fun y hy=>D4 hag' hy),R8 hpu m (s.nx+i*RR)]
      exact hr
     ·cases hc
    ·cases hc
   ·cases hc
  ·rw[JI]at hn
   split at hn
   ·cases hn
   ·rename_i hnw
    have hj':min j ops.size<ops.toList.length+1:=by simp;omega
    rw[hT3 _ hj' n (by simpa using hnw)]
    exact hn
def Jl(call:CallF)(tt:TT)(N:Nat)(ops:Array Oper)(draw:Bool)(s:St):Option St:=
 match UX call tt N ops draw s with
 |some s1=>some s1
 |none=>if draw then UZ call tt N ops s else none
theorem Gw[Syms]{P:Program}{call:CallF}{tt:TT}{N:Nat}(htt:TT.ok P tt)(hcall:call.ok P)(hm:P.follows .mixedOrders=true){id:Nat}{ops:Array Oper}{draw:Bool}{s s':St}(h:Jl call tt N ops draw s=some s')
 {Q:Exit→Act→World→Prop} {ι:Inj} {a:Act} {w:World} (hS:RelS N ι s a w) (hQ:∀κ a' w',RelS N κ s' a' w'→StepN ι s.heap s.nx w κ s'.heap s'.nx w'→Q .normal a' w'):(Code.region id ops draw).wp P Q a w:=by
 unfold Jl at h
 split at h
 ·rename_i s1 h1
  cases h
  exact Gv htt hcall hm (Fn h1) hS hQ
 ·split at h
  ·rename_i hd
   subst hd
   exact Jo htt hcall hm h hS hQ
  ·cases h
end Go.Av
end
end
section
set_option linter.unusedVariables false
set_option linter.unusedSimpArgs false
noncomputable section
namespace Go.Av
def prune(keep:List Nat)(e:Env):Env:=keep.map fun k=>(k,e.get k)
theorem FF[Syms](e:Env):∀(keep:List Nat) (k:Nat),(prune keep e).get k=if keep.contains k then e.get k else .any
 |[],k=>by simp[prune,Env.get_nil,Env.get_cons]
 |x::l,k=>by
  have ih:=FF e l k
  unfold prune at ih ⊢
  simp only[List.map_cons,Env.get_nil,Env.get_cons]
  by_cases h:k=x
  ·subst h
   simp[Nat.beq_refl]
  ·rw[Qd h]
   simp only[cond_false]
   rw[ih]
   simp[h]
theorem RelS.prune[Syms]{N:Nat}{ι:Inj}{s:St}{a:Act}{w:World}(h:RelS N ι s a w)(keep:List Nat):RelS N ι ⟨Av.prune keep s.env,s.heap,s.nx⟩ a w:=by
 refine⟨h.defers,h.size,fun k=>?_,h.heap,h.bound⟩
 rw[FF]
 split
 ·exact h.env k
 ·exact .any _
def Lw(base:Nat)(H:Heap):Heap:=H.filter fun p=>Nat.blt p.1 base&&p.2.isSome
def Hw:Heap→List Nat
 |[]=>[]
 |(_,some b)::t=>b.nums++Hw t
 |(_,none)::t=>Hw t
def Lx:Env→List Nat
 |[]=>[]
 |(_,v)::t=>v.nums++Lx t
def EM(base:Nat)(keep:List Nat)(s:St):St:=
 let e1:=prune keep s.env
 let olds:=Lw base s.heap
 let l:=Jr s.heap base 65536 (Lx e1++Hw olds) []
 ⟨e1.map fun p=>(p.1,p.2.ren (OU base l)),olds++Er s.heap base l 0 l,base+l.length⟩
def Nh(base:Nat)(keep:List Nat)(s:St):List Nat:=Jr s.heap base 65536 (Lx (prune keep s.env)++Hw (Lw base s.heap)) []
def HV(base:Nat)(l:List Nat)(s s3:St):Bool:=
 l.all (Nat.ble base)&&decide l.Nodup&&Nat.ble base s.nx&&Nat.beq s3.nx (base+l.length)&&(s3.env.all fun p=>eqA (p.2.ren (Xm base l s.nx)) (s.env.get p.1))&&s3.heap.all fun p=>match p.2 with
  |some b=>Nat.blt p.1 (base+l.length)&&(match s.heap.get (Xm base l s.nx p.1)with|some b0=>Gi (b.ren (Xm base l s.nx)) b0|none=>false)
  |none=>true
def CE(base:Nat)(keep:List Nat)(s:St):Option St:=
 if HV base (Nh base keep s) s (EM base keep s)then some (EM base keep s)else none
theorem Env.get_mem:∀{e:Env} {k:Nat},e.get k= .any∨(k,e.get k)∈e
 |[],k=>.inl (Env.get_nil k)
 |(j,v)::e,k=>by
  rw[Env.get_cons]
  cases hb:Nat.beq k j with
  |true=>obtain rfl:=Nat.eq_of_beq_eq_true hb;exact .inr (List.mem_cons_self ..)
  |false=>
   rcases Env.get_mem (e:=e) (k:=k)with h|h
   ·exact .inl h
   ·exact .inr (List.mem_cons_of_mem _ h)
theorem Gm[Syms]{N:Nat}{ι:Inj}{H:Heap}{base:Nat}{w:World}{keep:List Nat}{s s3:St}(h:CE base keep s=some s3)(hb:X1 ι base w){κ:Inj}{a:Act}{w':World}(hS:RelS N κ s a w')(hst:StepN ι H base w κ s.heap s.nx w'):
 ∃μ,RelS N μ s3 a w'∧StepN ι H base w μ s3.heap s3.nx w':=by
 unfold CE at h
 split at h
 rotate_left
 ·cases h
 rename_i hok
 generalize hl:Nh base keep s=l at hok
 generalize hs3:EM base keep s=s4 at hok h
 cases h
 unfold HV at hok
 simp only[Bool.and_eq_true,decide_eq_true_eq]at hok
 obtain⟨⟨⟨⟨⟨g1,g2⟩,_⟩,g3⟩,g4⟩,g5⟩:=hok
 have hnx:=Nat.eq_of_beq_eq_true g3
 have hge:∀{n},base≤n→n<base+l.length→base≤Xm base l s.nx n∧(n-base)<l.length:=fun{n} h1 h2=>by
  have hlt:n-base<l.length:=by omega
  refine⟨?_,hlt⟩
  rw[V9 h1 h2]
  have:l.getD (n-base) 0=l[n-base]:=by simp[hlt]
  rw[this]
  exact Nat.le_of_ble_eq_true (List.all_eq_true.1 g1 _ (List.getElem_mem hlt))
 have hinj:∀{n k},n<base+l.length→k<base+l.length→Xm base l s.nx n=Xm base l s.nx k→n=k:=fun{n k} hn hk e=>by
  rcases Nat.lt_or_ge n base with a|a<;>rcases Nat.lt_or_ge k base with b|b
  ·rw[XC a,XC b]at e;exact e
  ·have:=(hge b hk).1;rw[XC a]at e;omega
  ·have:=(hge a hn).1;rw[XC b]at e;omega
  ·obtain⟨_,ha⟩:=hge a hn
   obtain⟨_,hb⟩:=hge b hk
   rw[V9 a hn,V9 b hk]at e
   have e1:l.getD (n-base) 0=l[n-base]:=by simp[ha]
   have e2:l.getD (k-base) 0=l[k-base]:=by simp[hb]
   rw[e1,e2]at e
   rcases Nat.lt_trichotomy (n-base) (k-base)with h|h|h
   ·exact absurd e (List.pairwise_iff_getElem.1 g2 _ _ ha hb h)
   ·omega
   ·exact absurd e.symm (List.pairwise_iff_getElem.1 g2 _ _ hb ha h)
 have hH3:∀n b,s3.heap.get n=some b→n<base+l.length∧s.heap.get (Xm base l s.nx n)=some (b.ren (Xm base l s.nx)):=fun n b hn=>by
  have:=List.all_eq_true.1 g5 _ (Heap.get_mem hn)
  simp only[Bool.and_eq_true,Nat.blt_eq]at this
  refine⟨this.1,?_⟩
  have h2:=this.2
  split at h2
  ·rename_i b0 hb0
   rw[hb0,MQ _ _ h2]
  ·cases h2
 have hown:∀g,Own (κ.pull (Xm base l s.nx)) s3.heap g→Own κ s.heap g:=by
  rintro g ⟨n,b,L,h1,h2,h3,h4⟩
  exact⟨Xm base l s.nx n,b.ren (Xm base l s.nx),L,(hH3 n b h1).2,by rw[Blk.ren_ro];exact h2,h3,h4⟩
 obtain⟨hst,hup,hfr⟩:=hst
 refine⟨κ.pull (Xm base l s.nx),⟨hS.defers,hS.size,fun k=>?_,⟨fun n b hn=>?_,fun n k b c L M h1 h2 h3 h4 h5=>?_,fun g cs hg=>⟨(hS.heap.fz g cs hg).1,fun ho=>(hS.heap.fz g cs hg).2 (hown g ho)⟩⟩,fun n L hn=>?_⟩,
  ⟨⟨⟨fun n L hn=>?_,hst.le.2⟩,hst.os,hst.tape,hst.output,hst.size,hst.same,fun g hg=>hst.own g (hown g hg),hst.fzs⟩,?_,fun n L hn=>?_⟩⟩
 ·rcases Env.get_mem (e:=s3.env) (k:=k)with h|h
  ·rw[h];exact .any _
  ·have:=MR _ _ (List.all_eq_true.1 g4 _ h)
   exact(hS.env k).unren _ this.symm
 ·obtain⟨L,h1,h2⟩:=hS.heap.blk _ _ (hH3 n b hn).2
  exact⟨L,h1,h2.unren⟩
 ·rcases hS.heap.inj _ _ _ _ L M (hH3 n b h1).2 (hH3 k c h2).2 h3 h4 h5 with h|h
  ·exact .inl (hinj (hH3 n b h1).1 (hH3 k c h2).1 h)
  ·rw[Blk.ren_ro,Blk.ren_ro]at h;exact .inr h
 ·have hn:κ (Xm base l s.nx n)=some L:=hn
  refine⟨?_,(hS.bound _ L hn).2⟩
  rw[hnx]
  rcases Nat.lt_or_ge n (base+l.length)with a|a
  ·exact a
  ·rw[Hp a]at hn
   have:=(hS.bound _ L hn).1
   omega
 ·show κ (Xm base l s.nx n)=some L
  rw[XC (hb n L hn).1]
  exact hst.le.1 n L hn
 ·rw[hnx];exact Nat.le_add_right _ _
 ·rcases Nat.lt_or_ge n base with a|a
  ·have hn:κ (Xm base l s.nx n)=some L:=hn
   rw[XC a]at hn
   rcases hfr n L hn with h|h
   ·exact .inl h
   ·omega
  ·exact .inr a
def DZ(ρ:Operand→AVal):Op→Bool
 | .move _| .assign _=>true
 | .extract t _=>match ρ t with| .tup _=>true|_=>false
 |_=>false
theorem DY[Syms]{P:Program}{tt:TT}{ι:Inj}{ρ:Operand→AVal}{σ:Operand→Value}(hev:∀x,RelV ι (ρ x) (σ x)){o:Oper}{m:Nat}{v:AVal}(hf:DZ ρ o.op=true)(h:aop tt ρ [] m o.op=some (.val v)):
 ∃u,RelV ι v u∧ ∀w,(execOp σ o).run P w= .ok (.value u) w:=by
 unfold execOp
 cases ho:o.op<;>rw[ho]at hf h<;>first|(exact absurd (show false=true from hf) (by decide))|skip
 case move x=>
  simp only[aop]at h
  cases h;exact⟨σ x,hev x,fun w=>rfl⟩
 case assign x=>
  simp only[aop]at h
  cases h;exact⟨σ x,hev x,fun w=>rfl⟩
 case extract t ix=>
  simp only[DZ]at hf
  simp only[aop]at h
  split at hf
  rotate_left
  ·cases hf
  rename_i vs hx
  have hxv:=hev t
  rw[hx]at h hxv
  simp only[Option.map_eq_some_iff]at h
  obtain⟨z,hz,he⟩:=h
  cases he
  obtain⟨us,hu,hl⟩:=hxv.of_tup
  obtain⟨u,hu1,hu2⟩:=hl.get hz
  have h1':(⟨us⟩:Array Value)[ix]?=some u:=by simpa using hu1
  exact⟨u,hu2,fun w=>by simp only[Instr.extract,hu,h1',Sem.run_bind,Sem.run_pure,Result.andThen_ok]⟩
def Nn(ops:Array Oper)(listed:Array Bool)(i:Nat)(o:Oper):Bool:=
 (List.range ops.size).all fun j=>Nat.beq j i||listed.getD j true||(match ops[j]? with|some oj=>(oj.after.any fun e=>Region.binds .any e&&Nat.beq e.on i)||o.apart ops oj|none=>true)
def Vi(ops:Array Oper)(e:Env):List Nat→Option (Nat×Oper)
 |[]=>none
 |i::l=>match ops[i]? with
  |some o=>match o.guard with
   |none=>if DZ (evE e) o.op then some (i,o)else Vi ops e l
   |some _=>Vi ops e l
  |none=>Vi ops e l
theorem W4{ops:Array Oper}{e:Env}:∀{l:List Nat} {i:Nat} {o:Oper},Vi ops e l=some (i,o)→i∈l∧ops[i]?=some o∧o.guard=none∧DZ (evE e) o.op=true
 |[],i,o,h=>by cases h
 |k::l,i,o,h=>by
  unfold Vi at h
  split at h
  ·rename_i o' ho
   split at h
   ·rename_i hg
    split at h
    ·rename_i hf
     cases h
     exact⟨List.mem_cons_self ..,ho,hg,hf⟩
    ·obtain⟨h1,h2⟩:=W4 h
     exact⟨List.mem_cons_of_mem _ h1,h2⟩
   ·obtain⟨h1,h2⟩:=W4 h
    exact⟨List.mem_cons_of_mem _ h1,h2⟩
  ·obtain⟨h1,h2⟩:=W4 h
   exact⟨List.mem_cons_of_mem _ h1,h2⟩
def Me(ops:Array Oper)(listed:Array Bool):List Nat:=
 (List.range ops.size).filter fun i=>!listed.getD i true&&((ops[i]?).map fun o=>o.after.toList.all fun e=>!Region.binds .any e||listed.getD e.on false).getD false
theorem Jq(ops:Array Oper)(listed:Array Bool):Me ops listed=Region.ready .any ops listed:=by
 unfold Me Region.ready
 simp only[Array.all_toList]
def D6:Env→Env→Bool
 |[],[]=>true
 |(k,v)::e,(j,u)::f=>Nat.beq k j&&eqA v u&&D6 e f
 |_,_=>false
theorem Cu:∀(a b:Env),D6 a b=true→a=b
 |[],[],_=>rfl
 |(k,v)::e,(j,u)::f,h=>by
  simp only[D6,Bool.and_eq_true]at h
  rw[Nat.eq_of_beq_eq_true h.1.1,MR _ _ h.1.2,Cu _ _ h.2]
 |[],_::_,h=>by simp[D6]at h
 |_::_,[],h=>by simp[D6]at h
def Ww:Heap→Heap→Bool
 |[],[]=>true
 |(k,some b)::e,(j,some c)::f=>Nat.beq k j&&Gi b c&&Ww e f
 |(k,none)::e,(j,none)::f=>Nat.beq k j&&Ww e f
 |_,_=>false
theorem JK:∀(a b:Heap),Ww a b=true→a=b
 |[],[],_=>rfl
 |(k,some b)::e,(j,some c)::f,h=>by
  simp only[Ww,Bool.and_eq_true]at h
  rw[Nat.eq_of_beq_eq_true h.1.1,MQ _ _ h.1.2,JK _ _ h.2]
 |(k,none)::e,(j,none)::f,h=>by
  simp only[Ww,Bool.and_eq_true]at h
  rw[Nat.eq_of_beq_eq_true h.1,JK _ _ h.2]
 |[],_::_,h=>by simp[Ww]at h
 |(_,some _)::_,[],h=>by simp[Ww]at h
 |(_,none)::_,[],h=>by simp[Ww]at h
 |(_,some _)::_,(_,none)::_,h=>by simp[Ww]at h
 |(_,none)::_,(_,some _)::_,h=>by simp[Ww]at h
def Ps(s t:St):Bool:=Nat.beq s.nx t.nx&&D6 s.env t.env&&Ww s.heap t.heap
theorem Om{s t:St}(h:Ps s t=true):s=t:=by
 obtain⟨e,H,n⟩:=s
 obtain⟨e',H',n'⟩:=t
 simp only[Ps,Bool.and_eq_true]at h
 rw[Nat.eq_of_beq_eq_true h.1.1,Cu _ _ h.1.2,JK _ _ h.2]
def Bk(call:CallF)(tt:TT)(N:Nat)(ops:Array Oper)(ih:Array Bool→St→Option St)(listed:Array Bool)(s:St)(i:Nat):Option St:=
 match ops[i]? with
 |some o=>match Mp call tt N ops o s with
  |some s1=>ih (listed.setIfInBounds i true) s1
  |none=>none
 |none=>none
def Bi(call:CallF)(tt:TT)(N:Nat)(keep:List Nat)(base:Nat)(ops:Array Oper)(ih:Array Bool→St→Option St)(listed:Array Bool)(s:St):Option St:=
 match Me ops listed with
 |[]=>CE base keep s
 |r::rs=>match Vi ops s.env (r::rs)with
  |some (i,o)=>if Nn ops listed i o&&Z6 N o.dst then(match aop tt (evE s.env) [] s.nx o.op with
    |some (.val v)=>ih (listed.setIfInBounds i true) ⟨s.env.put o.dst v,s.heap,s.nx⟩
    |_=>none)else none
  |none=>match Bk call tt N ops ih listed s r with
   |some s1=>if rs.all (fun i=>match Bk call tt N ops ih listed s i with|some s2=>Ps s2 s1|none=>false)then some s1 else none
   |none=>none
def Bj(call:CallF)(tt:TT)(N:Nat)(keep:List Nat)(base:Nat)(ops:Array Oper)(f:Nat):Array Bool→St→Option St:=
 @Nat.rec (fun _=>Array Bool→St→Option St) (fun listed s=>match Me ops listed with|[]=>CE base keep s|_=>none) (fun _ ih=>Bi call tt N keep base ops ih) f
theorem J6[Syms]{P:Program}{call:CallF}{tt:TT}{N:Nat}{keep:List Nat}{base:Nat}{ops:Array Oper}{Q:Exit→Act→World→Prop}{ι0:Inj}{H0:Heap}{w0:World}(htt:TT.ok P tt)(hcall:call.ok P)(hsel:∀(j:Nat) (o:Oper) cs b,ops[j]?=some o→o.op≠ .select cs b)
 (hQp:∀c a w,¬Q (.panic c) a w) (hb:X1 ι0 base w0):∀(f:Nat) (listed:Array Bool) (s s':St),Bj call tt N keep base ops f listed s=some s'→ ∀(κ:Inj) (a:Act) (w:World),RelS N κ s a w→StepN ι0 H0 base w0 κ s.heap s.nx w→
 (∀μ a' w',RelS N μ s' a' w'→StepN ι0 H0 base w0 μ s'.heap s'.nx w'→Q .normal a' w')→wpAnyH P .any ops Q (fun _=>True) f listed a w
 |0,listed,s,s',h,κ,a,w,hS,hst,hQ=>by
  have h:(match Me ops listed with|[]=>CE base keep s|_=>none)=some s':=h
  split at h
  ·rename_i hr
   rw[Jq]at hr
   obtain⟨μ,h1,h2⟩:=Gm h hb hS hst
   exact⟨hr,hQ μ a w h1 h2⟩
  ·cases h
 |f+1,listed,s,s',h,κ,a,w,hS,hst,hQ=>by
  have ih:=J6 (N:=N) (keep:=keep) (H0:=H0) htt hcall hsel hQp hb (Q:=Q) f
  have h:Bi call tt N keep base ops (Bj call tt N keep base ops f) listed s=some s':=h
  unfold Bi at h
  split at h
  ·rename_i hr
   rw[Jq]at hr
   obtain⟨μ,h1,h2⟩:=Gm h hb hS hst
   exact⟨fun _=>hQ μ a w h1 h2,fun i hi=>by rw[hr]at hi;cases hi⟩
  ·rename_i r rs hr
   rw[Jq]at hr
   split at h
   ·rename_i i o hfo
    obtain⟨hmem,ho,hg,hf⟩:=W4 hfo
    split at h
    rotate_left
    ·cases h
    rename_i hc
    simp only[Bool.and_eq_true]at hc
    obtain⟨hap,hd⟩:=hc
    split at h
    rotate_left
    ·cases h
    rename_i v hv
    have hevE:∀x,RelV κ (evE s.env x) (a.eval x):=fun x=>KP hS.env x
    obtain⟨u,hu,hrun⟩:=DY (P:=P) hevE hf hv
    have hready:i∈Region.ready .any ops listed:=by rw[hr];exact hmem
    refine wpAnyH_first ho hsel (fun c a w h=>(hQp _ _ _ h).elim) f listed a w (fun j oj hoj hne hun hnot=>?_) hready (.inl ⟨by simp[Region.wanted,hg],fun w _=>hrun w⟩) trivial ?_
    ·unfold Nn at hap
     rw[List.all_eq_true]at hap
     have hj:=hap j (List.mem_range.2 (Array.getElem?_eq_some_iff.1 hoj).1)
     rw[hoj,hun,Qd hne]at hj
     simp only[Bool.false_or,Bool.or_eq_true]at hj
     rcases hj with hj|hj
     ·rw[Array.any_eq_true']at hj
      obtain⟨ed,hed,hbb⟩:=hj
      simp only[Bool.and_eq_true]at hbb
      exact absurd (Nat.eq_of_beq_eq_true hbb.2) (hnot ed hed hbb.1)
     ·exact hj
    ·obtain⟨g1,g2⟩:=VI hS (Inj.le_refl κ) hd hu
     exact ih _ _ s' h κ _ w ⟨by rw[X6];exact hS.defers,g1,g2,hS.heap,hS.bound⟩ hst hQ
   ·split at h
    rotate_left
    ·cases h
    rename_i s1 h1
    split at h
    rotate_left
    ·cases h
    rename_i hall
    cases h
    refine⟨fun hno=>(by rw[hr]at hno;cases hno),fun i hi=>?_⟩
    rw[hr]at hi
    have hone:Bk call tt N ops (Bj call tt N keep base ops f) listed s i=some s':=by
     rcases List.mem_cons.1 hi with rfl|hi
     ·exact h1
     ·have:=List.all_eq_true.1 hall i hi
      split at this
      ·rename_i s2 h2
       rw[h2,Om this]
      ·cases this
    unfold Bk at hone
    split at hone
    rotate_left
    ·cases hone
    rename_i o ho
    split at hone
    rotate_left
    ·cases hone
    rename_i s2 h2
    have:=Gb htt hcall h2 κ a w (fun a' w'=>True∧wpAnyH P .any ops Q (fun _=>True) f (listed.setIfInBounds i true) a' w') Q hS (fun μ a' w' hS' hst'=>⟨trivial,ih _ s2 s' hone μ a' w' hS' (hst.trans hst') hQ⟩)
    unfold wpOp
    rw[ho]
    exact this
def P4(ops:Array Oper):Bool:=ops.toList.all fun o=>match o.op with| .select _ _=>false|_=>true
def UY(call:CallF)(tt:TT)(N:Nat)(keep:List Nat)(ops:Array Oper)(s:St):Option St:=
 if P4 ops then Bj call tt N keep s.nx ops ops.size (Array.replicate ops.size false) s else none
theorem Jn[Syms]{P:Program}{call:CallF}{tt:TT}{N:Nat}{keep:List Nat}(htt:TT.ok P tt)(hcall:call.ok P)(hm:P.follows .mixedOrders=true){id:Nat}{ops:Array Oper}{s s':St}(h:UY call tt N keep ops s=some s')
 {Q:Exit→Act→World→Prop} {ι:Inj} {a:Act} {w:World} (hS:RelS N ι s a w) (hQ:∀κ a' w',RelS N κ s' a' w'→StepN ι s.heap s.nx w κ s'.heap s'.nx w'→Q .normal a' w'):(Code.region id ops true).wp P Q a w:=by
 unfold UY at h
 split at h
 rotate_left
 ·cases h
 rename_i hns
 refine Code.wp_mono (Q:=fun e a w=>e= .normal∧Q e a w) (fun _ _ _ h=>h.2) ?_
 refine wp_region_any hm ?_
 have hH:RelH ι s.heap {w with drawn:=w.drawn+1}:=⟨fun n b hb=>let⟨L,h1,h2⟩:=hS.heap.blk n b hb;⟨L,h1,h2.keep (Inj.le_refl ι) rfl⟩,hS.heap.inj,hS.heap.fz⟩
 have hst:StepN ι s.heap s.nx w ι s.heap s.nx {w with drawn:=w.drawn+1}:=⟨Step.drew ι s.heap w _,Nat.le_refl _,fun _ _ h=>.inl h⟩
 have hsel:∀(j:Nat) (o:Oper) cs b,ops[j]?=some o→o.op≠ .select cs b:=by
  intro j oj cs b hoj he
  have:=List.all_eq_true.1 hns oj (by obtain⟨hlt,rfl⟩:=Array.getElem?_eq_some_iff.1 hoj;simp)
  rw[he]at this
  cases this
 exact wpAny_of_held _ _ _ _ (J6 (Q:=fun e a w=>e= .normal∧Q e a w) (ι0:=ι) (H0:=s.heap) (w0:=w) htt hcall hsel (fun c a w h=>nomatch h.1) hS.bound _ _ s s' h ι a _ ⟨hS.defers,hS.size,hS.env,hH,hS.bound⟩ hst fun κ a' w' hS' hst'=>⟨rfl,hQ κ a' w' hS' hst'⟩)
def Jm(call:CallF)(tt:TT)(N:Nat)(keep:List Nat)(ops:Array Oper)(draw:Bool)(s:St):Option St:=
 match Jl call tt N ops draw s with
 |some s1=>some s1
 |none=>if draw then UY call tt N keep ops s else none
theorem Gx[Syms]{P:Program}{call:CallF}{tt:TT}{N:Nat}{keep:List Nat}(htt:TT.ok P tt)(hcall:call.ok P)(hm:P.follows .mixedOrders=true){id:Nat}{ops:Array Oper}{draw:Bool}{s s':St}(h:Jm call tt N keep ops draw s=some s')
 {Q:Exit→Act→World→Prop} {ι:Inj} {a:Act} {w:World} (hS:RelS N ι s a w) (hQ:∀κ a' w',RelS N κ s' a' w'→StepN ι s.heap s.nx w κ s'.heap s'.nx w'→Q .normal a' w'):(Code.region id ops draw).wp P Q a w:=by
 unfold Jm at h
 split at h
 ·rename_i s1 h1
  cases h
  exact Gw htt hcall hm h1 hS hQ
 ·split at h
  ·rename_i hd
   subst hd
   exact Jn htt hcall hm h hS hQ
  ·cases h
end Go.Av
end
end
section
set_option linter.unusedVariables false
set_option linter.unusedSimpArgs false
noncomputable section
namespace Go.Av
inductive Ex where
 |normal|exit (id:Nat)|goto (l:Nat)|ret
def Ex.out:Ex→Exit
 | .normal=>.normal
 | .exit id=>.exit id
 | .goto l=>.goto l
 | .ret=>.ret
def ZH(call:CallF)(tt:TT)(N:Nat)(keep:List Nat)(run:Option Code→Code→St→Option (Ex×St))(c:Code)(s:St):Option (Ex×St):=
 match c with
 | .skip| .label _=>some (.normal,s)
 | .exit id=>some (.exit id,s)
 | .goto l=>some (.goto l,s)
 | .ret=>some (.ret,s)
 | .region _ ops draw=>match Jm call tt N keep ops draw s with
   |some s1=>some (.normal,⟨prune keep s1.env,s1.heap,s1.nx⟩)
   |none=>none
 | .seq x y=>match run none x s with
   |some (.normal,s1)=>run none y s1
   |r=>r
 | .cond c x y=>match s.ev c with
   | .bool t=>run none (if t then x else y) s
   |_=>none
 | .block id b=>match run none b s with
   |some (.exit id',s1)=>if id'=id then some (.normal,s1)else some (.exit id',s1)
   |r=>r
 | .loop b=>match run none b s with
   |some (.normal,s1)=>run none (.loop b) s1
   |r=>r
 | .scope b=>run (some b) b s
 |_=>none
def JQ(run:Option Code→Code→St→Option (Ex×St))(b c:Code)(s:St):Option (Ex×St):=
 match run none c s with
 |some (.goto l,s1)=>match findLabel b l with
  |some rest=>run (some b) rest s1
  |none=>some (.goto l,s1)
 |r=>r
def VK(call:CallF)(tt:TT)(N:Nat)(keep:List Nat)(f:Nat):Option Code→Code→St→Option (Ex×St):=
 @Nat.rec (fun _=>Option Code→Code→St→Option (Ex×St)) (fun _ _ _=>none) (fun _ ih sc c s=>@Option.rec Code (fun _=>Option (Ex×St)) (ZH call tt N keep ih c s) (fun b=>JQ ih b c s) sc) f
theorem QU(call:CallF)(tt:TT)(N:Nat)(keep:List Nat)(f:Nat)(c:Code)(s:St):VK call tt N keep (f+1) none c s=ZH call tt N keep (VK call tt N keep f) c s:=rfl
theorem B4(call:CallF)(tt:TT)(N:Nat)(keep:List Nat)(f:Nat)(b c:Code)(s:St):VK call tt N keep (f+1) (some b) c s=JQ (VK call tt N keep f) b c s:=rfl
def UF(P:Program)(c x:Code)(Q:Exit→Act→World→Prop)(a:Act)(w:World):Prop:=
 ∀(b:Frame) (k:List Item) (cs:List Frame),∃e a' w',Q e a' w'∧Arrives P (lone (b.at a (.code x:: .inScope c::k)) cs w) b k cs e a' w'
theorem VW{P:Program}{c:Code}{Q:Exit→Act→World→Prop}{a:Act}{w:World}(h:UF P c c Q a w):(Code.scope c).wp P Q a w:=
 fun b k cs=>let⟨e,a',w',hq,harr⟩:=h b k cs;⟨e,a',w',hq,.of_steps (.one step_scope) harr⟩
theorem Yc{P:Program}{c x:Code}{Q:Exit→Act→World→Prop}{a:Act}{w:World}
 (h:x.wp P (fun e a w=>(∃l rest,e= .goto l∧findLabel c l=some rest∧UF P c rest Q a w)∨((∀l,e= .goto l→findLabel c l=none)∧Q e a w)) a w):UF P c x Q a w:=by
 intro b k cs
 obtain⟨e,a₁,w₁,hq,harr⟩:=h b (.inScope c::k) cs
 rcases hq with⟨l,rest,rfl,hf,hs⟩|⟨hno,hq⟩
 ·have hg:gotoIn l (.inScope c::k)=some (.code rest:: .inScope c::k):=by simp[gotoIn,hf]
  obtain⟨e₂,a₂,w₂,hq₂,harr₂⟩:=hs b k cs
  exact⟨e₂,a₂,w₂,hq₂,.of_steps (harr _ hg) harr₂⟩
 ·cases e with
  |normal=>exact⟨.normal,a₁,w₁,hq,Steps.trans harr (.one step_inScope)⟩
  |exit id=>exact⟨.exit id,a₁,w₁,hq,fun k' hk=>harr k' (by simp[exitTo,hk])⟩
  |goto l=>exact⟨.goto l,a₁,w₁,hq,fun k' hk=>harr k' (by simp[gotoIn,hno l rfl,hk])⟩
  |ret=>exact⟨_,a₁,w₁,hq,harr⟩
  |panic ch=>exact⟨_,a₁,w₁,hq,harr⟩
  |outgrown=>exact⟨_,a₁,w₁,hq,harr⟩
def G3(P:Program)(c:Code)(Q:Exit→Act→World→Prop)(a:Act)(w:World):Prop:=
 ∀(b:Frame) (k:List Item) (cs:List Frame),∃e a' w',Q e a' w'∧Arrives P (lone (b.at a (.code c:: .inLoop c::k)) cs w) b k cs e a' w'
theorem GN{P:Program}{c:Code}{Q:Exit→Act→World→Prop}{a:Act}{w:World}(h:G3 P c Q a w):(Code.loop c).wp P Q a w:=
 fun b k cs=>let⟨e,a',w',hq,harr⟩:=h b k cs;⟨e,a',w',hq,.of_steps (.one step_loop) harr⟩
theorem FO{P:Program}{c:Code}{Q:Exit→Act→World→Prop}{a:Act}{w:World}(h:c.wp P (Exit.then (G3 P c Q) Q) a w):G3 P c Q a w:=by
 intro b k cs
 obtain⟨e,a₁,w₁,hq,harr⟩:=h b (.inLoop c::k) cs
 cases e with
 |normal=>
  obtain⟨e₂,a₂,w₂,hq₂,harr₂⟩:=hq b k cs
  exact⟨e₂,a₂,w₂,hq₂,.of_steps (Steps.trans harr (.one step_inLoop)) harr₂⟩
 |exit id=>exact⟨_,a₁,w₁,hq,.pass (x:=.inLoop c) rfl (fun _ _=>.inl (by simp)) harr⟩
 |goto l=>exact⟨_,a₁,w₁,hq,.pass (x:=.inLoop c) rfl (fun _ _=>.inl (by simp)) harr⟩
 |ret=>exact⟨_,a₁,w₁,hq,.pass (x:=.inLoop c) rfl (fun _ _=>.inl (by simp)) harr⟩
 |panic ch=>exact⟨_,a₁,w₁,hq,.pass (x:=.inLoop c) rfl (fun _ _=>.inl (by simp)) harr⟩
 |outgrown=>exact⟨_,a₁,w₁,hq,.pass (x:=.inLoop c) rfl (fun _ _=>.inl (by simp)) harr⟩
def CW(P:Program):Option Code→Code→(Exit→Act→World→Prop)→Act→World→Prop
 |some b,c,Q,a,w=>UF P b c Q a w
 |none,c,Q,a,w=>c.wp P Q a w∧ ∀b,c= .loop b→G3 P b Q a w
theorem Xe[Syms]{P:Program}{call:CallF}{tt:TT}{N:Nat}{keep:List Nat}(htt:TT.ok P tt)(hcall:call.ok P)(hm:P.follows .mixedOrders=true):∀(f:Nat) (sc:Option Code) (c:Code) (s:St) (e:Ex) (s':St),VK call tt N keep f sc c s=some (e,s')→
 ∀(Q:Exit→Act→World→Prop) (ι:Inj) (a:Act) (w:World),RelS N ι s a w→(∀κ a' w',RelS N κ s' a' w'→StepN ι s.heap s.nx w κ s'.heap s'.nx w'→Q e.out a' w')→CW P sc c Q a w
 |0,_,_,_,_,_,h=>nomatch h
 |f+1,some b,c,s,e,s',h=>by
  intro Q ι a w hS hQ
  simp only[B4,JQ]at h
  split at h
  ·rename_i l s1 h1
   split at h
   ·rename_i rest hf
    refine Yc (Xe htt hcall hm f none c s _ s1 h1 _ ι a w hS (fun κ a' w' hS' hst=>?_)).1
    exact .inl ⟨l,rest,rfl,hf,Xe htt hcall hm f (some b) rest s1 e s' h Q κ a' w' hS' (fun μ a'' w'' hS'' hst'=>hQ μ a'' w'' hS'' (hst.trans hst'))⟩
   ·rename_i hf
    cases h
    refine Yc (Xe htt hcall hm f none c s _ s' h1 _ ι a w hS (fun κ a' w' hS' hst=>?_)).1
    exact .inr ⟨fun l' hl=>by cases hl;exact hf,hQ κ a' w' hS' hst⟩
  ·rename_i r hno
   refine Yc (Xe htt hcall hm f none c s e s' h _ ι a w hS (fun κ a' w' hS' hst=>?_)).1
   refine .inr ⟨fun l' hl=>?_,hQ κ a' w' hS' hst⟩
   cases e with
   |goto l2=>exact absurd h (hno l2 s')
   |_=>cases hl
 |f+1,none,c,s,e,s',h=>by
  intro Q ι a w hS hQ
  have ih:=Xe htt hcall hm (P:=P) (call:=call) (tt:=tt) (N:=N) (keep:=keep) f
  cases c with
  |skip=>simp only[QU,ZH]at h;cases h;exact⟨wp_skip (hQ ι a w hS (StepN.refl ..)),fun b hb=>by cases hb⟩
  |label l=>simp only[QU,ZH]at h;cases h;exact⟨wp_label (hQ ι a w hS (StepN.refl ..)),fun b hb=>by cases hb⟩
  |exit id=>simp only[QU,ZH]at h;cases h;exact⟨wp_exit (hQ ι a w hS (StepN.refl ..)),fun b hb=>by cases hb⟩
  |goto l=>simp only[QU,ZH]at h;cases h;exact⟨wp_goto (hQ ι a w hS (StepN.refl ..)),fun b hb=>by cases hb⟩
  |ret=>simp only[QU,ZH]at h;cases h;exact⟨wp_ret (hQ ι a w hS (StepN.refl ..)),fun b hb=>by cases hb⟩
  |region id ops draw=>
   simp only[QU,ZH]at h
   split at h
   ·rename_i s1 h1
    cases h
    exact⟨Gx htt hcall hm h1 hS (fun κ a' w' hS' hst=>hQ κ a' w' (hS'.prune keep) hst),fun b hb=>by cases hb⟩
   ·cases h
  |seq x y=>
   refine⟨wp_seq ?_,fun b hb=>by cases hb⟩
   simp only[QU,ZH]at h
   split at h
   ·rename_i s1 h1
    refine(ih none x s _ s1 h1 _ ι a w hS (fun κ a' w' hS' hst=>?_)).1
    exact(ih none y s1 e s' h Q κ a' w' hS' (fun μ a'' w'' hS'' hst'=>hQ μ a'' w'' hS'' (hst.trans hst'))).1
   ·rename_i r hno
    refine(ih none x s e s' h _ ι a w hS (fun κ a' w' hS' hst=>?_)).1
    have:=hQ κ a' w' hS' hst
    cases e with
    |normal=>exact absurd h (hno s')
    |_=>exact this
  |cond c x y=>
   refine⟨?_,fun b hb=>by cases hb⟩
   simp only[QU,ZH]at h
   split at h
   ·rename_i t hc
    have hv:=hS.ev c
    rw[hc]at hv
    exact wp_cond hv.of_bool (ih none _ s e s' h Q ι a w hS hQ).1
   ·cases h
  |block id b=>
   refine⟨wp_block ?_,fun b hb=>by cases hb⟩
   simp only[QU,ZH]at h
   split at h
   ·rename_i id' s1 h1
    refine(ih none b s _ s1 h1 _ ι a w hS (fun κ a' w' hS' hst=>?_)).1
    show Exit.inBlock id Q (.exit id') a' w'
    simp only[Exit.inBlock]
    split at h
    ·rename_i he
     cases h
     rw[if_pos he]
     exact hQ κ a' w' hS' hst
    ·rename_i he
     cases h
     rw[if_neg he]
     exact hQ κ a' w' hS' hst
   ·rename_i r hno
    refine(ih none b s e s' h _ ι a w hS (fun κ a' w' hS' hst=>?_)).1
    have:=hQ κ a' w' hS' hst
    cases e with
    |exit id'=>exact absurd h (hno id' s')
    |_=>exact this
  |loop b=>
   have key:G3 P b Q a w:=by
    refine FO ?_
    simp only[QU,ZH]at h
    split at h
    ·rename_i s1 h1
     refine(ih none b s _ s1 h1 _ ι a w hS (fun κ a' w' hS' hst=>?_)).1
     exact(ih none (.loop b) s1 e s' h Q κ a' w' hS' (fun μ a'' w'' hS'' hst'=>hQ μ a'' w'' hS'' (hst.trans hst'))).2 b rfl
    ·rename_i r hno
     refine(ih none b s e s' h _ ι a w hS (fun κ a' w' hS' hst=>?_)).1
     have:=hQ κ a' w' hS' hst
     cases e with
     |normal=>exact absurd h (hno s')
     |_=>exact this
   exact⟨GN key,fun b' hb=>by cases hb;exact key⟩
  |scope b=>
   refine⟨?_,fun b hb=>by cases hb⟩
   simp only[QU,ZH]at h
   exact VW (ih (some b) b s e s' h Q ι a w hS hQ)
  |rangeFunc _ _ _ _=>simp[QU,ZH]at h
  |refuse _=>simp[QU,ZH]at h
end Go.Av
end
end
section
set_option linter.unusedVariables false
set_option linter.unusedSimpArgs false
noncomputable section
namespace Go.Av
structure FnA where
 code:Code
 keep:List Nat
 n:Nat
 res:List ResultVar
abbrev FT:=FuncId→Option FnA
def FT.ok (P : Program) (ft : FT) : Prop := ∀ f a, ft f = some a → ∃ fn, P.funcs[f]? = some fn ∧ fn.body = some a.code ∧ fn.ntmps = a.n ∧ fn.results.toList = a.res ∧ (fn.name == "runtime.NumGoroutine") = false
def NK(tt:TT)(s:St):ResultVar→Option AVal
 | .tmp t=>some (s.env.get t)
 | .cell a t=>J7 tt s.heap t (s.env.get a)
def BK(tt:TT)(s:St):List ResultVar→Option (List AVal)
 |[]=>some []
 |r::l=>match NK tt s r,BK tt s l with
  |some v,some vs=>some (v::vs)
  |_,_=>none
def YE(tt:TT)(s:St)(l:List ResultVar):Option AVal:=
 match BK tt s l with
 |some [v]=>some v
 |some vs=>some (.tup vs)
 |none=>none
def Li(tmps:Array Value):ResultVar→Sem Value
 | .tmp t=>pure (tmps.getD t undef)
 | .cell a t=>do loadVar t (←asAddr (tmps.getD a undef))
theorem E4[Syms]{P:Program}{tt:TT}{N:Nat}{ι:Inj}{s:St}{a:Act}{w:World}(htt:TT.ok P tt)(hS:RelS N ι s a w){r:ResultVar}{v:AVal}(h:NK tt s r=some v):
 ∃x,RelV ι v x∧(Li a.tmps r).run P w= .ok x w:=by
 cases r with
 |tmp t=>
  simp only[NK,Option.some.injEq]at h
  subst h
  exact⟨_,hS.env t,by simp[Li,Sem.run_pure]⟩
 |cell b t=>
  simp only[NK]at h
  obtain⟨x,hx,hr⟩:=Gq htt hS.heap (hS.env b) h
  refine⟨x,hr,?_⟩
  have hp:∃A,a.tmps.getD b undef= .pointer (some A):=by
   have hv:=hS.env b
   unfold J7 at h
   split at h
   ·rename_i n k j hp
    rw[hp]at hv
    obtain⟨L,_,hL⟩:=hv.of_ptr
    exact⟨_,hL⟩
   ·rename_i row j hp
    rw[hp]at hv
    obtain⟨g,b,cs,_,_,_,_,hL⟩:=hv.of_vp
    exact⟨_,hL⟩
   ·cases h
  obtain⟨A,hL⟩:=hp
  simp only[Li]
  rw[hL]at hx ⊢
  simpa[Instr.loadAt,Instr.sureAddr,asAddr,Sem.run_bind,Sem.run_pure]using hx
theorem G9[Syms]{P:Program}{tt:TT}{N:Nat}{ι:Inj}{s:St}{a:Act}{w:World}(htt:TT.ok P tt)(hS:RelS N ι s a w):∀{l:List ResultVar} {vs:List AVal},BK tt s l=some vs→
 ∃rs:List Value,Qs ι vs rs∧(l.mapM (Li a.tmps)).run P w= .ok rs w
 |[],vs,h=>by
  cases h
  exact⟨[],.nil ι,by simp[Sem.run_pure]⟩
 |r::l,vs,h=>by
  simp only[BK]at h
  split at h
  ·rename_i v us h1 h2
   cases h
   obtain⟨rs,e1,e2⟩:=G9 htt hS h2
   obtain⟨x,hx,hrun⟩:=E4 htt hS h1
   refine⟨x::rs,.cons hx e1,?_⟩
   rw[List.mapM_cons]
   simp only[Sem.run_bind,hrun,e2,Result.andThen_ok,Sem.run_pure]
  ·cases h
theorem U0[Syms]{P:Program}{tt:TT}{N:Nat}{ι:Inj}{s:St}{a:Act}{w:World}{fn:Func}{v:AVal}(htt:TT.ok P tt)(hS:RelS N ι s a w)(h:YE tt s fn.results.toList=some v):
 ∃r,(results fn a.tmps).run P w= .ok r w∧RelV ι v r:=by
 unfold YE at h
 have base:∀vs,BK tt s fn.results.toList=some vs→ ∃rs:List Value,Qs ι vs rs∧(results fn a.tmps).run P w= .ok (if h:rs.toArray.size=1 then rs.toArray[0]else .tuple rs.toArray) w:=by
  intro vs hvs
  obtain⟨rs,h1,h2⟩:=G9 htt hS hvs
  refine⟨rs,h1,?_⟩
  have:results fn a.tmps=(do let vs←fn.results.mapM (Li a.tmps);pure (if h:vs.size=1 then vs[0]else .tuple vs)):=rfl
  rw[this,Array.mapM_eq_mapM_toList]
  simp only[map_eq_pure_bind,Sem.run_bind,h2,Result.andThen_ok,Sem.run_pure]
 split at h
 ·rename_i x hx
  cases h
  obtain⟨rs,h1,h2⟩:=base _ hx
  obtain⟨r,rs',rfl,hr,hr'⟩:=h1.uncons
  rw[hr'.unnil]at h2
  exact⟨r,by simpa using h2,hr⟩
 ·rename_i vs hne hx
  cases h
  obtain⟨rs,h1,h2⟩:=base _ hx
  refine⟨_,h2,?_⟩
  have hlen:¬rs.toArray.size=1:=by
   intro hc
   have h1:=h1.1
   have hc:rs.length=1:=by simpa using hc
   rw[hc]at h1
   obtain⟨v,rfl⟩:=List.length_eq_one_iff.1 h1
   exact hne v rfl
  rw[dif_neg hlen]
  exact .mk_tup h1
 ·cases h
def VO:Nat→List AVal→Env
 |_,[]=>[]
 |k,v::l=>(k,v)::VO (k+1) l
theorem Kf[Syms]:∀{args:List AVal} {k j:Nat},(VO k args).get j=if k≤j then args.getD (j-k) .any else .any
 |[],k,j=>by simp[VO,Env.get_nil,Env.get_cons]
 |v::l,k,j=>by
  simp only[VO,Env.get_nil,Env.get_cons]
  by_cases h:j=k
  ·subst h;simp[Nat.beq_refl]
  ·rw[Qd h]
   simp only[cond_false,Kf (args:=l)]
   by_cases hk:k≤j
   ·rw[if_pos (by omega),if_pos hk,show j-k=(j-(k+1))+1 by omega]
    simp
   ·rw[if_neg (by omega),if_neg hk]
theorem KZ[Syms]{P:Program}{ft:FT}{tt:TT}{call:CallF}{g:Nat}{f:FuncId}{fa:FnA}{args:List AVal}{H:Heap}{nx:Nat}{e:Ex}{s:St}{v:AVal}(htt:TT.ok P tt)(hft:FT.ok P ft)(hcall:call.ok P)(hm:P.follows .mixedOrders=true)
 (hf:ft f=some fa) (hrun:VK call tt fa.n fa.keep g none fa.code ⟨VO 0 args,H,nx⟩=some (e,s)) (he:e= .normal∨e= .ret) (hv:YE tt s fa.res=some v):Y6 P f args H nx v s.heap s.nx:=by
 intro ι w vs ha hH hb
 obtain⟨fn,h1,h2,h3,h4,h5⟩:=hft f fa hf
 have hlen:=ha.1
 refine calls_of_wp h1 h2 ?_
 have hS:RelS fa.n ι ⟨VO 0 args,H,nx⟩ {tmps:=⟨vs⟩++Array.replicate (fn.ntmps-(⟨vs⟩:Array Value).size) undef,defers:=[]} w:=by
  refine⟨rfl,?_,fun k=>?_,hH,hb⟩
  ·simp[h3];omega
  ·rw[Kf]
   simp only[Nat.zero_le,if_true,Nat.sub_zero]
   rcases Nat.lt_or_ge k args.length with hk|hk
   ·have e1:args.getD k .any=args[k]:=by simp[hk]
    have hk':k<vs.length:=by omega
    rw[e1]
    have:=ha.2 k _ _ (by simp[hk]:args[k]?=some args[k]) (by simp[hk']:vs[k]?=some vs[k])
    simpa[Array.getElem?_append,hk']using this
   ·have e1:args.getD k .any= .any:=by simp[hk]
    rw[e1]
    exact .any _
 refine(Xe htt hcall hm g none fa.code _ e s hrun (bodyPost P fn _) ι _ w hS (fun κ a' w' hS' hst=>?_)).1
 rw[←h4]at hv
 obtain⟨r,hr,hrv⟩:=U0 htt hS' hv
 rcases he with rfl|rfl
 ·exact⟨hS'.defers,r,hr,r,κ,rfl,hrv,hS'.heap,hst,hS'.bound⟩
 ·exact⟨hS'.defers,r,hr,r,κ,rfl,hrv,hS'.heap,hst,hS'.bound⟩
theorem FT.ok.fnOk{P:Program}{ft:FT}(h:FT.ok P ft){f:FuncId}{fa:FnA}(hf:ft f=some fa):UI P f:=by
 obtain⟨fn,h1,h2,h3,h4,h5⟩:=h f fa hf
 exact⟨fn,h1,h5,by simp[h2]⟩
end Go.Av
end
end
section
set_option linter.unusedVariables false
set_option linter.unusedSimpArgs false
noncomputable section
namespace Go.Av
inductive Tr(α:Type) where
 |nil
 |node (l:Tr α) (k:Nat) (v:α) (r:Tr α)
def Tr.find{α:Type}(x:Tr α)(t:Nat):Option α:=@Tr.rec α (fun _=>Option α) none (fun _ k v _ a b=>@Bool.rec (fun _=>Option α) (@Bool.rec (fun _=>Option α) b a (Nat.blt t k)) (some v) (Nat.beq t k)) x
theorem Tr.find_node{α:Type}(l:Tr α)(k:Nat)(v:α)(r:Tr α)(t:Nat):(Tr.node l k v r).find t=bif Nat.beq t k then some v else bif Nat.blt t k then l.find t else r.find t:=by
 show @Bool.rec (fun _=>Option α) (@Bool.rec (fun _=>Option α) (r.find t) (l.find t) (Nat.blt t k)) (some v) (Nat.beq t k)=_
 cases Nat.beq t k<;>cases Nat.blt t k<;>rfl
def Tr.all{α:Type}(p:Nat→α→Bool):Tr α→Bool
 | .nil=>true
 | .node l k v r=>p k v&&l.all p&&r.all p
def Tr.All{α:Type}(p:Nat→α→Prop):Tr α→Prop
 | .nil=>True
 | .node l k v r=>p k v∧l.All p∧r.All p
theorem Tr.find_All[Syms]{α:Type}{p:Nat→α→Prop}:∀{t:Tr α} {n:Nat} {v:α},t.All p→t.find n=some v→p n v
 | .nil,n,v,_,h=>by cases h
 | .node l k u r,n,v,ha,h=>by
   simp only[Tr.find_node]at h
   cases hb:Nat.beq n k with
   |true=>
    rw[hb]at h
    simp only[cond_true,Option.some.injEq]at h
    subst h
    rw[Nat.eq_of_beq_eq_true hb]
    exact ha.1
   |false=>
    rw[hb]at h
    simp only[cond_false]at h
    cases hc:Nat.blt n k with
    |true=>rw[hc]at h;exact Tr.find_All ha.2.1 h
    |false=>rw[hc]at h;exact Tr.find_All ha.2.2 h
theorem Tr.find_all[Syms]{α:Type}{p:Nat→α→Bool}:∀{t:Tr α} {n:Nat} {v:α},t.all p=true→t.find n=some v→p n v=true
 | .nil,n,v,_,h=>by cases h
 | .node l k u r,n,v,ha,h=>by
   simp only[Tr.all,Bool.and_eq_true]at ha
   simp only[Tr.find_node]at h
   cases hb:Nat.beq n k with
   |true=>
    rw[hb]at h
    simp only[cond_true,Option.some.injEq]at h
    subst h
    rw[Nat.eq_of_beq_eq_true hb]
    exact ha.1.1
   |false=>
    rw[hb]at h
    simp only[cond_false]at h
    cases hc:Nat.blt n k with
    |true=>rw[hc]at h;exact Tr.find_all ha.1.2 h
    |false=>rw[hc]at h;exact Tr.find_all ha.2 h
def Z5(t:Tr Ty):TT:=fun n=>t.find n
theorem L3[Syms]{P:Program}{t:Tr Ty}(h:t.all (Dy P)=true):TT.ok P (Z5 t):=fun _ _ hf=>Tr.find_all h hf
def PX(p:Func×List Nat):FnA:=⟨p.1.body.getD .skip,p.2,p.1.ntmps,p.1.results.toList⟩
def Zc(t:Tr (Func×List Nat)):FT:=fun n=>match t.find n with|some p=>some (PX p)|none=>none
def Nt (P : Program) (n : Nat) (p : Func × List Nat) : Prop := P.funcs[n]? = some p.1 ∧ p.1.body.isSome = true ∧ (p.1.name == "runtime.NumGoroutine") = false
theorem LV[Syms]{P:Program}{t:Tr (Func×List Nat)}(h:t.All (Nt P)):FT.ok P (Zc t):=by
 intro f a hf
 unfold Zc at hf
 split at hf
 ·rename_i p hp
  cases hf
  obtain⟨h1,h2,h3⟩:=Tr.find_All h hp
  obtain⟨c,hc⟩:=Option.isSome_iff_exists.1 h2
  exact⟨p.1,h1,by simp[PX,hc],rfl,rfl,h3⟩
 ·cases hf
def Eb(c d:CallF):CallF:=fun f args H nx=>match c f args H nx with
 |some r=>some r
 |none=>d f args H nx
theorem Q01[Syms]{P:Program}{c d:CallF}(h:c.ok P)(k:d.ok P):(Eb c d).ok P:=by
 intro f args H nx v H' nx' hr
 unfold Eb at hr
 split at hr
 ·rename_i r h1
  cases hr
  exact h _ _ _ _ _ _ _ h1
 ·exact k _ _ _ _ _ _ _ hr
def DX(call:CallF)(ft:FT)(tt:TT)(fuel:Nat):CallF:=fun f args H nx=>
 match ft f with
 |some fa=>
  match VK call tt fa.n fa.keep fuel none fa.code ⟨VO 0 args,H,nx⟩with
  |some (.normal,s)|some (.ret,s)=>match YE tt s fa.res with
   |some v=>some (v,s.heap,s.nx)
   |none=>none
  |_=>none
 |none=>none
theorem D2[Syms]{P:Program}{call:CallF}{ft:FT}{tt:TT}{fuel:Nat}(hcall:call.ok P)(htt:TT.ok P tt)(hft:FT.ok P ft)(hm:P.follows .mixedOrders=true):(DX call ft tt fuel).ok P:=by
 intro f args H nx v H' nx' h
 simp only[DX]at h
 split at h
 rotate_left
 ·cases h
 rename_i fa hf
 refine⟨hft.fnOk hf,?_⟩
 split at h
 ·rename_i s hs
  split at h
  ·rename_i v' hv
   cases h
   exact KZ htt hft hcall hm hf hs (.inl rfl) hv
  ·cases h
 ·rename_i s hs
  split at h
  ·rename_i v' hv
   cases h
   exact KZ htt hft hcall hm hf hs (.inr rfl) hv
  ·cases h
 ·cases h
def AVal.closed1:AVal→Bool
 | .bool _| .int _ _| .str _| .nilp| .nils| .nilf| .nili| .sym _=>true
 |_=>false
def AVal.closed:AVal→Bool
 | .agg cs| .tup cs=>cs.all AVal.closed1
 |v=>v.closed1
theorem RelV.closed1[Syms]{ι κ:Inj}{x:AVal}{v:Value}(hx:x.closed1=true)(h:RelV κ x v):RelV ι x v:=by
 cases h<;>simp[AVal.closed1]at hx<;>constructor
theorem Qs.closed1[Syms]{ι κ:Inj}{xs:List AVal}{vs:List Value}(hx:xs.all AVal.closed1=true)(h:Qs κ xs vs):Qs ι xs vs:=
 ⟨h.1,fun i c v h1 h2=>(h.2 i c v h1 h2).closed1 (List.all_eq_true.1 hx c (List.mem_of_getElem? h1))⟩
theorem RelV.closed[Syms]{ι κ:Inj}{x:AVal}{v:Value}(hx:x.closed=true)(h:RelV κ x v):RelV ι x v:=by
 cases x with
 |agg cs=>
  obtain⟨vs,rfl,hl⟩:=h.of_agg
  exact .mk_agg (hl.closed1 hx)
 |tup cs=>
  obtain⟨vs,rfl,hl⟩:=h.of_tup
  exact .mk_tup (hl.closed1 hx)
 |_=>exact h.closed1 hx
theorem CO[Syms]{P:Program}{f:FuncId}{args:List AVal}{H:Heap}{nx:Nat}{v:AVal}{H':Heap}{nx':Nat}(h:Y6 P f args (ZK H) nx v H' nx')(hv:v.closed=true):Y6 P f args H nx v H nx:=by
 intro ι w vs ha hH hb
 have hro:RelH ι (ZK H) w:=by
  refine⟨fun m b hb=>?_,fun m m' b b' L L' h1 h2 _ _ _=>.inr ?_,fun g cs hg=>⟨(hH.fz g cs hg).1,ZQ⟩⟩
  ·obtain⟨rows,ro,hb1,rfl⟩:=Zt hb
   obtain⟨L,hL,hB⟩:=hH.blk m _ hb1
   obtain⟨cs,e,fz,h1,h2,h3,h4,h5⟩:=hB.rows
   exact⟨L,hL,Zf.mk h1 h2 h3 h4 (fun h=>by cases h) (hB.ty h1)⟩
  ·obtain⟨_,_,_,rfl⟩:=Zt h1
   obtain⟨_,_,_,rfl⟩:=Zt h2
   exact⟨rfl,rfl⟩
 refine(h ι w vs ha hro hb).mono ?_
 rintro e w' ⟨r,κ,rfl,hr,_,hst,_⟩
 have hno:∀g,¬Own ι (ZK H) g:=by
  rintro g ⟨n,b,L,h1,h2,_⟩
  obtain⟨_,_,_,rfl⟩:=Zt h1
  cases h2
 have same:∀g,g<w.heap.size→w'.heap[g]?=w.heap[g]?:=fun g hg=>hst.st.same g hg (hno g)
 have stp:Step ι H w ι H w':=⟨Inj.le_refl ι,hst.st.os,hst.st.tape,hst.st.output,hst.st.size,fun g hg _=>same g hg,fun g hg=>.inl hg,fun _ _ h=>.inl h⟩
 refine⟨r,ι,rfl,hr.closed hv,⟨fun n b hn=>?_,hH.inj,hH.fz_keep stp rfl⟩,⟨stp,Nat.le_refl _,fun n L hn=>.inl hn⟩,fun n L hn=>⟨(hb n L hn).1,Nat.lt_of_lt_of_le (hb n L hn).2 hst.st.size⟩⟩
 obtain⟨L,hL,hB⟩:=hH.blk n b hn
 exact⟨L,hL,hB.keep (Inj.le_refl ι) (same _ (hb n L hL).2)⟩
def Mh(c:CallF):CallF:=fun f args H nx=>match c f args (ZK H) nx with
 |some (v,_,_)=>if v.closed then some (v,H,nx)else none
 |none=>none
theorem BO[Syms]{P:Program}{c:CallF}(h:c.ok P):(Mh c).ok P:=by
 intro f args H nx v H' nx' hr
 unfold Mh at hr
 split at hr
 ·rename_i u H1 nx1 h1
  split at hr
  ·rename_i hc
   cases hr
   obtain⟨g1,g2⟩:=h _ _ _ _ _ _ _ h1
   exact⟨g1,CO g2 hc⟩
  ·cases hr
 ·cases hr
def DD(p:FuncId→Bool)(c d:CallF):CallF:=fun f args H nx=>@Bool.rec (fun _=>Option (AVal×Heap×Nat)) (d f args H nx) (c f args H nx) (p f)
theorem CZ[Syms]{P:Program}{p:FuncId→Bool}{c d:CallF}(h:c.ok P)(k:d.ok P):(DD p c d).ok P:=by
 intro f args H nx v H' nx' hr
 unfold DD at hr
 cases hp:p f with
 |true=>rw[hp]at hr;exact h _ _ _ _ _ _ _ hr
 |false=>rw[hp]at hr;exact k _ _ _ _ _ _ _ hr
def LW(con:CallF)(pu:FuncId→Bool)(ft:FT)(tt:TT)(fuel:Nat):CallF:=
 @Nat.rec (fun _=>CallF) con (fun n ih=>Eb con (DD pu (Mh (DX ih ft tt (n+1))) (DX ih ft tt (n+1)))) fuel
theorem D1[Syms]{P:Program}{con:CallF}{pu:FuncId→Bool}{ft:FT}{tt:TT}(hcon:con.ok P)(htt:TT.ok P tt)(hft:FT.ok P ft)(hm:P.follows .mixedOrders=true):∀fuel,CallF.ok P (LW con pu ft tt fuel)
 |0=>hcon
 |fuel+1=>by
  have ih:=D1 (pu:=pu) hcon htt hft hm fuel
  exact Q01 hcon (CZ (BO (D2 ih htt hft hm)) (D2 ih htt hft hm))
def Mt:CallF:=fun _ _ _ _=>none
theorem FM[Syms]{P:Program}:Mt.ok P:=fun _ _ _ _ _ _ _ h=>nomatch h
end Go.Av
end
end
section
set_option linter.unusedVariables false
set_option linter.unusedSimpArgs false
noncomputable section
namespace Go.Av
open Go.ChangeShapes Go.WideShapes Go.ChangeAt Go.RowKit
def isTrue:Option (AVal×Heap×Nat)→Bool
 |some (.bool b,_,_)=>b
 |_=>false
def Lm(m:Nat)(f:Nat):Bool:=Nat.beq (Nat.land 1 (Nat.shiftRight m f)) 1
section
theorem CN[Syms]{P:Program}{call:CallF}(hcall:call.ok P){f:FuncId}{args:List AVal}{H:Heap}{nx:Nat}(h:isTrue (call f args H nx)=true):∃H' nx',Y6 P f args H nx (.bool true) H' nx':=by
 unfold isTrue at h
 split at h
 ·rename_i b H' nx' hr
  subst h
  exact⟨H',nx',(hcall _ _ _ _ _ _ _ hr).2⟩
 ·cases h
theorem Step.below{ι κ:Inj}{H':Heap}{w w':World}(h:Step ι [] w κ H' w'):Below w.heap.size w w':=
 ⟨h.os,h.tape,h.output,h.size,fun g hg=>h.same g hg (fun⟨n,b,L,h1,_⟩=>by cases h1)⟩
end
end Go.Av
end
end
