/-
  What 'Make' makes may be:nothing is wrong with it. Plain. Made shapes have a leaf in each field,made records fit. Plain. What is so of a record that fits a shape:all that is asked of it. Plain.
-/
import Derived.Test.YtcpikannlnmafaaL12
import Derived.Test.YtcpikannlnmafaaL7
set_option linter.unusedVariables false
set_option linter.unusedSimpArgs false
namespace Go.Proofs.Ytcpikannlnmafaa
open Go Go.Av
theorem U2{a c:Int}{t:Stk}(h:0<c):Z0 ((a,c)::t)=(a,c)::t:=by rw[Z0,if_neg (by omega)]
theorem Ky{a c:Int}{t:Stk}(h:c≤0):Z0 ((a,c)::t)=Z0 t:=by rw[Z0,if_pos h]
theorem BQ:∀{st:Stk},Z0 st=[]→Lt st=false
 |[],_=>rfl
 |(a,c)::t,h=>by
  by_cases hc:0<c
  ·rw[U2 hc]at h;cases h
  ·rw[Ky (by omega)]at h
   have:=BQ h
   rw[Lt]at this ⊢
   rw[List.any_cons,this,decide_eq_false hc];rfl
theorem HI{d k:Nat}{l:List Fd}(h:Fo d k l):∀(i:Nat) (a c:Int) (st' st:Stk) (rest:List Fd),(k:Int)≤c→0≤a→d=st'.length+1→Z0 st=Z0 ((a,c)::st')→
 ∃rows st2,Zr (l++rest) i st=rows++Zr rest (i+l.length) st2∧(∀p∈rows,(0:Int)≤p.1∧p.2≤5)∧Gt (l++rest) i st=Gt rest (i+l.length) st2∧Z0 st2=Z0 ((a,c-k)::st'):=by
 induction h with
 |nil=>
  intro i a c st' st rest hc ha hd hp
  exact⟨[],st,rfl,fun p hp=>(nomatch hp),rfl,by rw[hp];simp⟩
 |leaf hd hf hk h0 h ih=>
  rename_i d k f l
  intro i a c st' st rest hc ha hdl hp
  have hc0:0<c:=by omega
  rw[U2 hc0]at hp
  obtain⟨rows,st2,h1,h2,h3,h4⟩:=ih (i+1) a (c-1) st' ((a,c-1)::st') rest (by omega) ha hdl rfl
  refine⟨(a,(st'.length:Int)+1)::rows,st2,?_,?_,?_,?_⟩
  ·rw[List.cons_append,Zr,hp,Zs,if_neg hk]
   show(a,(((a,c)::st').length:Int))::Zr (l++rest) (i+1) ((a,c-1)::st')=_
   rw[h1,List.length_cons,List.length_cons,show i+1+l.length=i+(l.length+1) by omega]
   simp
  ·intro p hp
   rcases List.mem_cons.1 hp with rfl|hp
   ·exact⟨ha,by simp only;omega⟩
   ·exact h2 p hp
  ·rw[List.cons_append,Gt,hp,Zs,if_neg hk]
   show Gt (l++rest) (i+1) ((a,c-1)::st')=_
   rw[h3,List.length_cons,show i+1+l.length=i+(l.length+1) by omega]
  ·rw[h4,show c-1-(k:Int)=c-((k+1:Nat):Int) by omega]
 |group hd hf hk hm hpos h1 h2 ih1 ih2=>
  rename_i d k m f l1 l2
  intro i a c st' st rest hc ha hdl hp
  have hc0:0<c:=by omega
  rw[U2 hc0]at hp
  obtain⟨r1,s1,a1,a2,a3,a4⟩:=ih1 (i+1) i m ((a,c-1)::st') (((i:Int),(m:Int))::(a,c-1)::st') (l2++rest) (Int.le_refl _) (by omega) (by simp;omega) rfl
  rw[Ky (by omega)]at a4
  obtain⟨r2,s2,b1,b2,b3,b4⟩:=ih2 (i+1+l1.length) a (c-1) st' s1 rest (by omega) ha hdl a4
  refine⟨(a,(st'.length:Int)+1)::(r1++r2),s2,?_,?_,?_,?_⟩
  ·rw[List.cons_append,Zr,hp,Zs,if_pos hk,hm]
   show(a,(((a,c)::st').length:Int))::Zr (l1++l2++rest) (i+1) (((i:Int),(m:Int))::(a,c-1)::st')=_
   rw[List.append_assoc,a1,b1,List.length_cons,List.length_cons,List.length_append,show i+1+l1.length+l2.length=i+(l1.length+l2.length+1) by omega]
   simp
  ·intro p hp
   rcases List.mem_cons.1 hp with rfl|hp
   ·exact⟨ha,by simp only;omega⟩
   ·rcases List.mem_append.1 hp with hp|hp
    ·exact a2 p hp
    ·exact b2 p hp
  ·rw[List.cons_append,Gt,hp,Zs,if_pos hk,hm]
   show Gt (l1++l2++rest) (i+1) (((i:Int),(m:Int))::(a,c-1)::st')=_
   rw[List.append_assoc,a3,b3,List.length_cons,List.length_append,show i+1+l1.length+l2.length=i+(l1.length+l2.length+1) by omega]
  ·rw[b4,show c-1-(k:Int)=c-((k+1:Nat):Int) by omega]
theorem MF(fs:List Fd)(a:Nat):(X3 fs a).map (·.name)=fs.map (·.name):=by
 unfold X3
 apply List.ext_getElem?
 intro i
 simp only[List.getElem?_map,List.getElem?_set]
 by_cases h:a=i
 ·subst h
  by_cases hl:a<fs.length
  ·simp[hl]
  ·simp[hl]
 ·simp[h]
def Ii(j:Nat):List UInt8:=if j=0 then[109]else nmM (j-1)
theorem Fx{ns:List Int}:∀(n i:Nat) (fs:List Fd) (op:List Int),fs.map (·.name)=(List.range (i+1)).map Ii→i≤12→ ∃m,m≤13∧(ZW ns n i fs op).1.map (·.name)=(List.range m).map Ii
 |0,i,fs,op,h,hi=>⟨i+1,by omega,h⟩
 |n+1,i,fs,op,h,hi=>by
  rw[ZW]
  split
  ·rename_i hc
   refine Fx n (i+1) _ _ ?_ (by omega)
   show(X8 fs op i (ns.getD i 0)).1.map (·.name)=_
   unfold X8
   simp only[List.map_append,MF,h]
   rw[List.range_succ (n:=i+1),List.map_append]
   rfl
  ·exact⟨i+1,by omega,h⟩
theorem Ei(ns:List Int):∃m,m≤13∧((Q7 ns).map (·.name)=(List.range m).map Ii∨(Q7 ns).map (·.name)=(List.range m).map Ii++[[122]]):=by
 obtain⟨m,hm,h⟩:=Fx (ns:=ns) 12 0 [⟨[109],0,0,0⟩] [0] rfl (by decide)
 refine⟨m,hm,?_⟩
 rw[Q7]
 generalize(ZW ns 12 0 [⟨[109],0,0,0⟩] [0])=r at *
 show(Y4 r.1 r.2).map _=_∨(Y4 r.1 r.2).map _=_
 unfold Y4
 split
 ·right
  rw[List.map_append,MF,h];rfl
 ·left;exact h
theorem LA:∀m,m≤13→((List.range m).map Ii).Nodup∧((List.range m).map Ii++[[122]]).Nodup:=by decide
theorem C2{fs:List Fd}(h:(fs.map (·.name)).Nodup){i k:Nat}(hi:i<fs.length)(hk:k<i):(fs.getD k default).name≠(fs.getD i default).name:=by
 intro e
 have hkl:k<fs.length:=by omega
 have:=List.pairwise_iff_getElem.1 h k i (by rw[List.length_map];exact hkl) (by rw[List.length_map];exact hi) hk
 apply this
 simp only[List.getElem_map]
 simp only[List.getD_eq_getElem?_getD,List.getElem?_eq_getElem hkl,List.getElem?_eq_getElem hi,Option.getD_some]at e
 exact e
theorem Ol(s t:List UInt8):eqb s t=decide (s=t):=by
 letI:Syms:=⟨fun _=>.int .i64 0,fun _=>⟨rfl,rfl⟩,fun _=>⟨_,rfl⟩⟩
 exact MP s t
theorem Gl{fs:List Fd}:∀n i,(∀j,i≤j→j<i+n→Di fs (Q0 fs) j ((Xk fs).getD j 0)=0)→WO fs i n=0
 |0,_,_=>rfl
 |n+1,i,h=>by
  have h0:=h i (Nat.le_refl _) (by omega)
  rw[WO,if_neg (fun x=>x h0)]
  exact Gl n (i+1) fun j h1 h2=>h j (by omega) (by omega)
theorem LU{f:Fd}(h:FOk f):LF f.name=true:=by
 have hne:f.name≠[]:=fun e=>by have:=h.name;rw[e]at this;cases this
 rw[←LD ⟨hne,.inl h.sign⟩]
 exact h.name
theorem Fo.kids{d k:Nat}{l:List Fd}(h:Fo d k l):∀f∈l,(f.kind=0→1≤f.kids)∧(f.kind≠0→f.kids=0):=by
 induction h with
 |nil=>intro f hf;cases hf
 |leaf hd hf hk h0 h ih=>
  intro g hg
  rcases List.mem_cons.1 hg with rfl|hg
  ·exact⟨fun h=>absurd h hk,fun _=>h0⟩
  ·exact ih g hg
 |group hd hf hk hm hp h1 h2 ih1 ih2=>
  intro g hg
  rcases List.mem_cons.1 hg with rfl|hg
  ·exact⟨fun _=>by omega,fun h=>absurd hk h⟩
  ·rcases List.mem_append.1 hg with hg|hg
   ·exact ih1 g hg
   ·exact ih2 g hg
theorem K6(ns:List Int):B7 (Q7 ns)=0:=by
 obtain⟨f,l,k,hs,hf,hk,hr,hm,hp,h⟩:=DP ns
 have hl:=Wq ns
 obtain⟨m,hm13,hnm⟩:=Ei ns
 have hnd:((Q7 ns).map (·.name)).Nodup:=by
  obtain⟨h1,h2⟩:=LA m hm13
  rcases hnm with e|e
  ·rw[e];exact h1
  ·rw[e];exact h2
 clear hnm
 have hT:Fo 0 1 (f::l):=by
  have:=Fo.group (d:=0) (k:=0) (by decide) hf hk hm hp h .nil
  rwa [List.append_nil]at this
 rw[hs]at hl hnd ⊢
 obtain⟨rows,st2,h1,h2,h3,h4⟩:=HI h 1 0 k [] [(0,(k:Int))] [] (Int.le_refl _) (Int.le_refl _) rfl rfl
 rw[List.append_nil]at h1 h3
 rw[Ky (by omega)]at h4
 have hw:Zr (f::l) 0 []=(-1,0)::rows:=by
  rw[Zr]
  show(-1,0)::Zr l 1 (Zs 0 f [])=_
  rw[Zs,if_pos hk,hm]
  show(-1,0)::Zr l 1 [(0,(k:Int))]=_
  rw[h1];simp[Zr]
 have hfin:Gt (f::l) 0 []=st2:=by
  rw[Gt]
  show Gt l 1 (Zs 0 f [])=_
  rw[Zs,if_pos hk,hm]
  show Gt l 1 [(0,(k:Int))]=_
  rw[h3];rfl
 have hrl:rows.length=l.length:=by
  have:=XI (f::l) 0 []
  rw[hw]at this
  simpa using this
 have hat:∀i,i<(f::l).length→(f::l).getD i default∈f::l:=fun i hi=>by rw[List.getD_eq_getElem?_getD,List.getElem?_eq_getElem hi];exact List.getElem_mem _
 unfold B7
 rw[if_neg (by simp at hl ⊢;omega)]
 have hz:WO (f::l) 0 (f::l).length=0:=by
  refine Gl _ _ fun j _ hj=>?_
  rw[Nat.zero_add]at hj
  have hfo:=hT.all _ (hat j hj)
  have hkd:=hT.kids _ (hat j hj)
  have htw:L4 (f::l) (Q0 (f::l)) j=false:=by
   unfold L4
   rw[List.any_eq_false]
   intro q hq
   have hq:=List.mem_range.1 hq
   have hne:=C2 hnd hj hq
   unfold L5
   rw[Ol,decide_eq_false hne]
   simp
  have hpd:(0<j→0≤(Q0 (f::l)).getD j 0)∧(Xk (f::l)).getD j 0≤5:=by
   rw[Q0,Xk,hw]
   cases j with
   |zero=>exact⟨fun h=>absurd h (by decide),show(0:Int)≤5 by decide⟩
   |succ j=>
    have hjr:j<rows.length:=by rw[hrl];simpa using hj
    have hmem:rows[j]∈rows:=List.getElem_mem _
    have:=h2 _ hmem
    simp only[List.map_cons,List.getD_cons_succ]
    simp only[List.getD_eq_getElem?_getD,List.getElem?_map,List.getElem?_eq_getElem hjr,Option.map_some,Option.getD_some]
    exact⟨fun _=>this.1,this.2⟩
  have h0:j=0→((f::l).getD j default).rep=0∧((f::l).getD j default).kind=0:=fun e=>by subst e;exact⟨hr,hk⟩
  unfold Di
  rw[htw,LU hfo]
  have hR:=hfo.rep
  have hK:=hfo.kind
  generalize(f::l).getD j default=F at *
  unfold Pv
  rw[if_neg (by omega),if_neg (by omega),if_neg (by simp),if_neg (by omega),if_neg (by omega),if_neg (by omega)]
 rw[hz,if_neg (fun h=>h rfl),hfin,BQ h4]
 rfl
theorem MX{fs:List Fd}:∀(n i:Nat),WO fs i n=0→ ∀k,k<n→Di fs (Q0 fs) (i+k) ((Xk fs).getD (i+k) 0)=0
 |0,i,_,k,hk=>by omega
 |n+1,i,h,k,hk=>by
  rw[WO]at h
  split at h
  ·rename_i h0;exact absurd h h0
  ·rename_i h0
   cases k with
   |zero=>exact Decidable.not_not.1 h0
   |succ k=>
    have:=MX n (i+1) h k (by omega)
    rwa [show i+1+k=i+(k+1) by omega]at this
theorem VL{fs:List Fd}(h:B7 fs=0){i:Nat}(hi:i<fs.length):
 (0<i→0≤(Q0 fs).getD i 0)∧(i=0→(fs.getD i default).rep=0∧(fs.getD i default).kind=0)∧((fs.getD i default).kind=0→1≤(fs.getD i default).kids):=by
 unfold B7 at h
 split at h
 ·exact absurd h (by decide)
 ·split at h
  ·rename_i h0;exact absurd h h0
  ·rename_i h0
   have h1:=MX fs.length 0 (Decidable.not_not.1 h0) i hi
   rw[Nat.zero_add]at h1
   unfold Di Pv at h1
   repeat' split at h1
   all_goals first|(exact absurd h1 (by decide))|(refine⟨fun _=>?_,fun _=>⟨?_,?_⟩,fun _=>?_⟩<;>omega)
theorem Yf(ns:List Int):Leafy (Q7 ns) (Q0 (Q7 ns)):=by
 have hc:=K6 ns
 have hlast:=Im ns
 generalize Q7 ns=fs at *
 have h:=Mj fs
 have hl:=h.len
 refine⟨h,?_⟩
 have key:∀d j:Nat,j+d+1=fs.length→loL fs (Q0 fs) j<loL fs (Q0 fs) (Z4 (Q0 fs) j):=by
  intro d
  induction d with
  |zero=>
   intro j hj
   have hk:(fs.getD j default).kind≠0:=by rw[show j=fs.length-1 by omega];exact hlast
   have e:=KH h (a:=j) (by omega) hk
   have hs:=Zv fs (Q0 fs) j
   rw[if_pos hk]at hs
   rw[e];omega
  |succ d ih=>
   intro j hj
   by_cases hk:(fs.getD j default).kind=0
   ·have hn:=(VL hc (i:=j) (by omega)).2.2 hk
    have hp:=Lp fs (i:=j) (by omega) hk hn
    have h1:=ih (j+1) (by omega)
    have hs:=(Yb h (j:=j+1) (by omega) hp).1
    have h2:=EF h (a:=j) (j:=j+1) (by omega) (by omega) hs
    have h3:=YU fs (Q0 fs) h2
    have h4:=YU fs (Q0 fs) (show j≤j+1 by omega)
    omega
   ·have e:=KH h (a:=j) (by omega) hk
    have hs:=Zv fs (Q0 fs) j
    rw[if_pos hk]at hs
    rw[e];omega
 intro j hj
 exact key (fs.length-j-1) j (by omega)
theorem Xr(ns:List Int):((Q7 ns).getD 0 default).kind=0∧((Q7 ns).getD 0 default).rep=0∧Z4 (Q0 (Q7 ns)) 0=(Q7 ns).length:=by
 have hc:=K6 ns
 have hpos:=(Y2 ns).pos
 generalize Q7 ns=fs at *
 have h:=Mj fs
 have hl:=h.len
 obtain⟨c1,c2,c3⟩:=VL hc (i:=0) (by omega)
 refine⟨(c2 rfl).2,(c2 rfl).1,?_⟩
 have key:∀n i:Nat,i<n→i<fs.length→Sub (Q0 fs) 0 i:=by
  intro n
  induction n with
  |zero=>intro i hi;omega
  |succ n ih=>
   intro i hi hil
   by_cases h0:i=0
   ·subst h0;exact sub_self h (by omega)
   ·have hp:=(VL hc hil).1 (by omega)
    have ha:=h.ahead i (by omega)
    obtain⟨p,hp⟩:=Int.eq_ofNat_of_zero_le hp
    exact(ZU h.ahead (by omega)).2 (.inr (by rw[hp];exact ih p (by omega) (by omega)))
 obtain⟨g1,g2,g3⟩:=Zd h (a:=0) (by omega)
 have:=(g3 (fs.length-1) (by omega) (by omega)).1 (key fs.length _ (by omega) (by omega))
 omega
theorem U1{val:Nat→Tr×Nat}:∀(k a:Nat) (l:List Tr),(Xa val k a l).1.length=l.length+k
 |0,a,l=>rfl
 |k+1,a,l=>by rw[Xa,U1 k,List.length_append,List.length_singleton];omega
theorem M7{val:Nat→Tr×Nat}{Q:Tr→Prop}(hv:∀a,Q (val a).1):∀(k a:Nat) (l:List Tr),(∀t∈l,Q t)→ ∀t∈(Xa val k a l).1,Q t
 |0,a,l,h=>h
 |k+1,a,l,h=>by
  rw[Xa]
  exact M7 hv k _ _ fun t ht=>by
   rcases List.mem_append.1 ht with ht|ht
   ·exact h t ht
   ·rw[List.mem_singleton.1 ht];exact hv a
theorem CA(ns:List Int)(f:Fd)(a:Nat):(WJ ns f a).1≤3∧(f.rep≠2→(WJ ns f a).1≤1):=by
 have h2:=ZA (a:=(Z9 ns a).1) (n:=2) (by decide)
 have h4:=ZA (a:=(Z9 ns a).1) (n:=4) (by decide)
 unfold WJ
 split
 ·exact⟨by show(wi _ 2).toNat≤3;omega,fun _=>by show(wi _ 2).toNat≤1;omega⟩
 ·split
  ·rename_i h
   exact⟨by show(wi _ 4).toNat≤3;omega,fun hn=>absurd h hn⟩
  ·exact⟨by show 1≤3;omega,fun _=>Nat.le_refl 1⟩
theorem Uw(fs:List Fd)(ps ns:List Int)(i:Nat)(val:Nat→Nat→Tr×Nat):∀(c j a:Nat) (ks:List (List Tr)),∃tl,(XR fs ps ns i val c j a ks).1=ks++tl
 |0,j,a,ks=>⟨[],by rw[XR,List.append_nil]⟩
 |c+1,j,a,ks=>by
  rw[XR]
  split
  ·obtain⟨tl,h⟩:=Uw fs ps ns i val c (j+1) (Xa (val j) (WJ ns (fs.getD j default) a).1 (WJ ns (fs.getD j default) a).2 []).2 (ks++[(Xa (val j) (WJ ns (fs.getD j default) a).1 (WJ ns (fs.getD j default) a).2 []).1])
   exact⟨(Xa (val j) (WJ ns (fs.getD j default) a).1 (WJ ns (fs.getD j default) a).2 []).1::tl,by rw[h,List.append_assoc];rfl⟩
  ·exact Uw fs ps ns i val c _ _ _
def OK(fs:List Fd)(Q:Nat→Tr→Prop)(j:Nat)(l:List Tr):Prop:=((fs.getD j default).rep≠2→l.length≤1)∧l.length≤3∧ ∀t∈l,Q j t
theorem Jz(fs:List Fd)(ps ns:List Int)(i:Nat){val:Nat→Nat→Tr×Nat}{Q:Nat→Tr→Prop}(hv:∀j a,Q j (val j a).1):∀(c j a:Nat) (ks:List (List Tr)),
 YR ps i (fun q m=>OK fs Q q ((XR fs ps ns i val c j a ks).1.getD m [])) c j ks.length
 |0,_,_,_=>trivial
 |c+1,j,a,ks=>by
  rw[YR,XR]
  split
  ·dsimp only
   have hc:=CA ns (fs.getD j default) a
   generalize WJ ns (fs.getD j default) a=k at *
   have hlen:(Xa (val j) k.1 k.2 []).1.length=k.1:=by rw[U1];exact Nat.zero_add _
   have hall:=M7 (val:=val j) (Q:=Q j) (fun a=>hv j a) k.1 k.2 [] fun t ht=>nomatch ht
   generalize Xa (val j) k.1 k.2 []=l at *
   obtain⟨tl,ht⟩:=Uw fs ps ns i val c (j+1) l.2 (ks++[l.1])
   have ih:=Jz fs ps ns i hv c (j+1) l.2 (ks++[l.1])
   rw[List.length_append,List.length_singleton]at ih
   refine⟨?_,ih⟩
   have e:((XR fs ps ns i val c (j+1) l.2 (ks++[l.1])).1).getD ks.length []=l.1:=by
    rw[ht,List.append_assoc,List.getD_eq_getElem?_getD,List.getElem?_append_right (Nat.le_refl _),Nat.sub_self]
    rfl
   rw[e]
   exact⟨fun hr=>by rw[hlen];exact hc.2 hr,by rw[hlen];exact hc.1,hall⟩
  ·exact Jz fs ps ns i hv c (j+1) a ks
def Iy(fs:List Fd)(ps:List Int):Nat→Nat→Tr→Prop
 |0,_,_=>True
 |F+1,a,t=>(fs.getD a default).kind≠0∨YR ps a (fun j m=>OK fs (Iy fs ps F) j (t.kids.getD m [])) (fs.length-(a+1)) (a+1) 0
theorem Ey(fs:List Fd)(ps:List Int):∀(F a:Nat) (t:Tr),Iy fs ps F a t→LX fs ps F a t
 |0,_,_,_=>trivial
 |F+1,a,t,h=>by
  rw[LX]
  rcases h with h|h
  ·exact .inl h
  ·exact .inr (Vq _ _ _ (fun i q _ _ _ hp=>⟨hp.1,fun t' ht'=>Ey fs ps F i t' (hp.2.2 t' ht')⟩) h)
theorem H7(fs:List Fd)(ps ns:List Int):∀(F i a:Nat),Iy fs ps F i (ZV fs ps ns F i a).1
 |0,_,_=>trivial
 |F+1,i,a=>by
  rw[Iy,ZV]
  split
  ·rename_i hk;exact .inl hk
  ·exact .inr (Jz fs ps ns i (fun j a=>H7 fs ps ns F j a) _ _ _ [])
theorem Mz(fs:List Fd)(ns:List Int):Iy fs (Q0 fs) fs.length 0 (XP fs ns):=H7 fs (Q0 fs) ns fs.length 0 0
def Kb(ps:List Int)(a:Nat):Nat→Nat→Nat
 |0,_=>0
 |c+1,j=>if ps.getD j 0=a then Kb ps a c (j+1)+1 else Kb ps a c (j+1)
def Od(k:Int)(t:Tr):Prop:=t.kids=[]∧(k=4→t.num=0∧t.txt.length≤100)∧(k≠4→t.txt=[])∧(k=1→0≤t.num∧t.num≤1)∧(k=2→ -1000≤t.num∧t.num≤1000)
def wK(fs:List Fd)(Q:Nat→Tr→Prop)(j:Nat)(l:List Tr):Prop:=((fs.getD j default).rep≠2→l.length≤1)∧((fs.getD j default).rep=0→l.length=1)∧l.length≤3∧ ∀t∈l,Q j t
def Wt(fs:List Fd)(ps:List Int):Nat→Nat→Tr→Prop
 |0,_,_=>True
 |F+1,a,t=>((fs.getD a default).kind≠0∧Od (fs.getD a default).kind t)∨((fs.getD a default).kind=0∧t.num=0∧t.txt=[]∧t.kids.length=Kb ps a (fs.length-(a+1)) (a+1)∧YR ps a (fun j m=>wK fs (Wt fs ps F) j (t.kids.getD m [])) (fs.length-(a+1)) (a+1) 0)
theorem OQ(ns:List Int)(f:Fd)(a:Nat)(hr:0≤f.rep∧f.rep≤2):(f.rep=0→(WJ ns f a).1=1):=by
 intro h0
 unfold WJ
 rw[if_neg (by omega),if_neg (by omega)]
theorem Jx(fs:List Fd)(ps ns:List Int)(i:Nat)(val:Nat→Nat→Tr×Nat):∀(c j a:Nat) (ks:List (List Tr)),(XR fs ps ns i val c j a ks).1.length=ks.length+Kb ps i c j
 |0,_,_,ks=>rfl
 |c+1,j,a,ks=>by
  rw[XR,Kb]
  split
  ·rw[Jx fs ps ns i val c];simp only[List.length_append,List.length_singleton];omega
  ·rw[Jx fs ps ns i val c]
theorem Jy(fs:List Fd)(ps ns:List Int)(i:Nat){val:Nat→Nat→Tr×Nat}{Q:Nat→Tr→Prop}(hr:∀j,j<fs.length→0≤(fs.getD j default).rep∧(fs.getD j default).rep≤2)(hv:∀j a,Q j (val j a).1):∀(c j a:Nat) (ks:List (List Tr)),j+c≤fs.length→
 YR ps i (fun q m=>wK fs Q q ((XR fs ps ns i val c j a ks).1.getD m [])) c j ks.length
 |0,_,_,_,_=>trivial
 |c+1,j,a,ks,hj=>by
  rw[YR,XR]
  split
  ·dsimp only
   have hc:=CA ns (fs.getD j default) a
   have hc1:=OQ ns (fs.getD j default) a (hr j (by omega))
   generalize WJ ns (fs.getD j default) a=k at *
   have hlen:(Xa (val j) k.1 k.2 []).1.length=k.1:=by rw[U1];exact Nat.zero_add _
   have hall:=M7 (val:=val j) (Q:=Q j) (fun a=>hv j a) k.1 k.2 [] fun t ht=>nomatch ht
   generalize Xa (val j) k.1 k.2 []=l at *
   obtain⟨tl,ht⟩:=Uw fs ps ns i val c (j+1) l.2 (ks++[l.1])
   have ih:=Jy fs ps ns i hr hv c (j+1) l.2 (ks++[l.1]) (by omega)
   rw[List.length_append,List.length_singleton]at ih
   refine⟨?_,ih⟩
   have e:((XR fs ps ns i val c (j+1) l.2 (ks++[l.1])).1).getD ks.length []=l.1:=by
    rw[ht,List.append_assoc,List.getD_eq_getElem?_getD,List.getElem?_append_right (Nat.le_refl _),Nat.sub_self]
    rfl
   rw[e]
   exact⟨fun hr=>by rw[hlen];exact hc.2 hr,fun hr=>by rw[hlen];exact hc1 hr,by rw[hlen];exact hc.1,hall⟩
  ·exact Jy fs ps ns i hr hv c (j+1) a ks (by omega)
theorem LM(k x:Int)(hk:1≤k∧k≤4):Od k (Gd k x):=by
 unfold Gd
 have h2:=ZA (a:=x) (n:=2) (by decide)
 have h3:=ZA (a:=x) (n:=300) (by decide)
 split
 ·refine⟨rfl,fun h=>by omega,fun _=>rfl,fun _=>⟨h2.1,by show wi x 2≤1;omega⟩,fun h=>by omega⟩
 ·split
  ·refine⟨rfl,fun h=>by omega,fun _=>rfl,fun h=>by omega,fun _=>⟨by show -1000≤wi x 300-100;omega,by show wi x 300-100≤1000;omega⟩⟩
  ·split
   ·refine⟨rfl,fun h=>by omega,fun _=>rfl,fun h=>by omega,fun h=>by omega⟩
   ·refine⟨rfl,fun h=>⟨rfl,?_⟩,fun h=>by omega,fun h=>by omega,fun h=>by omega⟩
    show(PM.take (wi x 9).toNat).length≤100
    rw[List.length_take]
    exact Nat.le_trans (Nat.min_le_right _ _) (by decide)
theorem Bz(fs:List Fd)(ps ns:List Int)(hr:∀j,j<fs.length→0≤(fs.getD j default).rep∧(fs.getD j default).rep≤2)(hk:∀j,0≤(fs.getD j default).kind∧(fs.getD j default).kind≤4):∀(F i a:Nat),Wt fs ps F i (ZV fs ps ns F i a).1
 |0,_,_=>trivial
 |F+1,i,a=>by
  rw[Wt,ZV]
  split
  ·rename_i h
   have:=hk i
   exact .inl ⟨h,LM _ _ (by omega)⟩
  ·rename_i h
   by_cases hl:i+1≤fs.length
   ·refine .inr ⟨Decidable.not_not.1 h,rfl,rfl,?_,Jy fs ps ns i hr (fun j a=>Bz fs ps ns hr hk F j a) _ _ _ [] (by omega)⟩
    exact(Jx fs ps ns i _ _ _ _ []).trans (Nat.zero_add _)
   ·rw[show fs.length-(i+1)=0 by omega]
    exact .inr ⟨Decidable.not_not.1 h,rfl,rfl,rfl,trivial⟩
def cA(rows:List (Int×Int))(x:Int):Nat:=rows.countP fun p=>decide (p.1=x)
theorem EP(a b:List (Int×Int))(x:Int):cA (a++b) x=cA a x+cA b x:=List.countP_append ..
theorem UD(p:Int×Int)(b:List (Int×Int))(x:Int):cA (p::b) x=(if p.1=x then 1 else 0)+cA b x:=by
 unfold cA
 rw[List.countP_cons]
 by_cases h:p.1=x<;>simp[h,Nat.add_comm]
theorem J0{rows:List (Int×Int)}{x:Int}(h:∀p∈rows,p.1≠x):cA rows x=0:=List.countP_eq_zero.2 fun p hp=>by simpa using h p hp
theorem Pk{d k:Nat}{l:List Fd}(h:Fo d k l):∀(i:Nat) (a c:Int) (st' st:Stk) (rest:List Fd),(k:Int)≤c→0≤a→a<i→Z0 st=Z0 ((a,c)::st')→
 ∃rows st2,Zr (l++rest) i st=rows++Zr rest (i+l.length) st2∧Z0 st2=Z0 ((a,c-k)::st')∧rows.length=l.length∧cA rows a=k∧(∀p∈rows,p.1=a∨((i:Int)≤p.1∧p.1<i+l.length))∧ ∀j,j<l.length→(l.getD j default).kind=0→(cA rows ((i:Int)+j):Int)=(l.getD j default).kids:=by
 induction h with
 |nil=>
  intro i a c st' st rest hc ha hai hp
  exact⟨[],st,rfl,by rw[hp];simp,rfl,rfl,(fun p hp=>nomatch hp),fun j hj=>absurd hj (Nat.not_lt_zero j)⟩
 |leaf hd hf hk h0 h ih=>
  rename_i d k f l
  intro i a c st' st rest hc ha hai hp
  have hc0:0<c:=by omega
  rw[U2 hc0]at hp
  obtain⟨rows,st2,h1,h2,h3,h4,h5,h6⟩:=ih (i+1) a (c-1) st' ((a,c-1)::st') rest (by omega) ha (by omega) rfl
  refine⟨(a,(st'.length:Int)+1)::rows,st2,?_,?_,?_,?_,?_,?_⟩
  ·rw[List.cons_append,Zr,hp,Zs,if_neg hk]
   show(a,(((a,c)::st').length:Int))::Zr (l++rest) (i+1) ((a,c-1)::st')=_
   rw[h1,List.length_cons,List.length_cons,show i+1+l.length=i+(l.length+1) by omega]
   simp
  ·rw[h2,show c-1-(k:Int)=c-((k+1:Nat):Int) by omega]
  ·rw[List.length_cons,List.length_cons,h3]
  ·rw[UD,if_pos rfl,h4];omega
  ·intro p hp
   rw[List.length_cons]
   rcases List.mem_cons.1 hp with rfl|hp
   ·exact .inl rfl
   ·rcases h5 p hp with h|h
    ·exact .inl h
    ·exact .inr (by omega)
  ·intro j hj hkj
   rw[List.length_cons]at hj
   rw[UD,if_neg (by show a≠_;omega),Nat.zero_add]
   cases j with
   |zero=>exact absurd hkj hk
   |succ j=>
    rw[List.getD_cons_succ]at hkj ⊢
    rw[←h6 j (by omega) hkj,show((i:Int)+((j+1:Nat):Int))=((i+1:Nat):Int)+j by omega]
 |group hd hf hk hm hpos h1 h2 ih1 ih2=>
  rename_i d k m f l1 l2
  intro i a c st' st rest hc ha hai hp
  have hc0:0<c:=by omega
  rw[U2 hc0]at hp
  obtain⟨r1,s1,a1,a2,a3,a4,a5,a6⟩:=ih1 (i+1) i m ((a,c-1)::st') (((i:Int),(m:Int))::(a,c-1)::st') (l2++rest) (Int.le_refl _) (by omega) (by omega) rfl
  rw[Ky (by omega)]at a2
  obtain⟨r2,s2,b1,b2,b3,b4,b5,b6⟩:=ih2 (i+1+l1.length) a (c-1) st' s1 rest (by omega) ha (by omega) a2
  have z1:cA r1 a=0:=J0 fun p hp e=>by
   rcases a5 p hp with h|h<;>omega
  refine⟨(a,(st'.length:Int)+1)::(r1++r2),s2,?_,?_,?_,?_,?_,?_⟩
  ·rw[List.cons_append,Zr,hp,Zs,if_pos hk,hm]
   show(a,(((a,c)::st').length:Int))::Zr (l1++l2++rest) (i+1) (((i:Int),(m:Int))::(a,c-1)::st')=_
   rw[List.append_assoc,a1,b1,List.length_cons,List.length_cons,List.length_append,show i+1+l1.length+l2.length=i+(l1.length+l2.length+1) by omega]
   simp
  ·rw[b2,show c-1-(k:Int)=c-((k+1:Nat):Int) by omega]
  ·rw[List.length_cons,List.length_cons,List.length_append,List.length_append,a3,b3]
  ·rw[UD,if_pos rfl,EP,z1,b4];omega
  ·intro p hp
   rw[List.length_cons,List.length_append]
   rcases List.mem_cons.1 hp with rfl|hp
   ·exact .inl rfl
   ·rcases List.mem_append.1 hp with hp|hp
    ·rcases a5 p hp with h|h
     ·exact .inr (by omega)
     ·exact .inr (by omega)
    ·rcases b5 p hp with h|h
     ·exact .inl h
     ·exact .inr (by omega)
  ·intro j hj hkj
   rw[List.length_cons,List.length_append]at hj
   rw[UD,if_neg (by show a≠_;omega),Nat.zero_add,EP]
   cases j with
   |zero=>
    have z2:cA r2 ((i:Int)+((0:Nat):Int))=0:=J0 fun p hp e=>by
     rcases b5 p hp with h|h<;>omega
    rw[z2,show((i:Int)+((0:Nat):Int))=i by omega,a4]
    exact hm.symm
   |succ j=>
    rw[List.getD_cons_succ]at hkj ⊢
    by_cases hjl:j<l1.length
    ·have z2:cA r2 ((i:Int)+((j+1:Nat):Int))=0:=J0 fun p hp e=>by
      rcases b5 p hp with h|h<;>omega
     have e:(l1++l2).getD j default=l1.getD j default:=by rw[List.getD_eq_getElem?_getD,List.getElem?_append_left hjl,←List.getD_eq_getElem?_getD]
     rw[e]at hkj ⊢
     rw[z2,Nat.add_zero,←a6 j hjl hkj,show((i:Int)+((j+1:Nat):Int))=((i+1:Nat):Int)+j by omega]
    ·have z2:cA r1 ((i:Int)+((j+1:Nat):Int))=0:=J0 fun p hp e=>by
      rcases a5 p hp with h|h<;>omega
     have e:(l1++l2).getD j default=l2.getD (j-l1.length) default:=by rw[List.getD_eq_getElem?_getD,List.getElem?_append_right (by omega),←List.getD_eq_getElem?_getD]
     rw[e]at hkj ⊢
     rw[z2,Nat.zero_add,←b6 (j-l1.length) (by omega) hkj,show((i:Int)+((j+1:Nat):Int))=((i+1+l1.length:Nat):Int)+((j-l1.length:Nat):Int) by omega]
theorem Df(rows:List (Int×Int))(a:Nat):∀(c j:Nat),j+c=rows.length→Kb (rows.map (·.1)) a c j=cA (rows.drop j) a
 |0,j,h=>by rw[List.drop_eq_nil_of_le (by omega)];rfl
 |c+1,j,h=>by
  have hj:j<rows.length:=by omega
  rw[Kb,Df rows a c (j+1) (by omega),List.drop_eq_getElem_cons hj,UD]
  have e:(rows.map (·.1)).getD j 0=rows[j].1:=by rw[List.getD_eq_getElem?_getD,List.getElem?_map,List.getElem?_eq_getElem hj];rfl
  rw[e]
  split<;>omega
theorem Ej(ns:List Int){a:Nat}(ha:a<(Q7 ns).length)(hk:((Q7 ns).getD a default).kind=0):((Kb (Q0 (Q7 ns)) a ((Q7 ns).length-(a+1)) (a+1):Nat):Int)=((Q7 ns).getD a default).kids:=by
 obtain⟨f,l,k,hs,hf,hk0,hr,hm,hp,h⟩:=DP ns
 have hpre:=Mj (Q7 ns)
 obtain⟨rows,st2,h1,h2,h3,h4,h5,h6⟩:=Pk h 1 0 k [] [(0,(k:Int))] [] (Int.le_refl _) (Int.le_refl _) (by decide) rfl
 rw[List.append_nil]at h1
 have hw:Zr (f::l) 0 []=(-1,0)::rows:=by
  rw[Zr]
  show(-1,0)::Zr l 1 (Zs 0 f [])=_
  rw[Zs,if_pos hk0,hm]
  show(-1,0)::Zr l 1 [(0,(k:Int))]=_
  rw[h1];simp[Zr]
 have hpar:Q0 (Q7 ns)=((-1,0)::rows).map (·.1):=by rw[Q0,hs,hw]
 have hlen:(Q7 ns).length=rows.length+1:=by rw[hs,List.length_cons,h3]
 have hall:cA (((-1,0)::rows).drop (a+1)) a=cA ((-1,0)::rows) a:=by
  have e:=List.take_append_drop (a+1) ((-1,(0:Int))::rows)
  have e2:cA ((-1,0)::rows) a=cA (((-1,(0:Int))::rows).take (a+1)) a+cA (((-1,0)::rows).drop (a+1)) a:=by rw[←EP,e]
  have z:cA (((-1,(0:Int))::rows).take (a+1)) a=0:=J0 fun p hp e3=>by
   obtain⟨j,hj,rfl⟩:=List.getElem_of_mem hp
   rw[List.getElem_take]at e3
   have hj2:j<a+1:=by rw[List.length_take]at hj;omega
   have hj3:j<((-1,(0:Int))::rows).length:=by rw[List.length_take]at hj;omega
   have:=hpre.ahead j (by rw[hpar,List.length_map];exact hj3)
   have e4:(Q0 (Q7 ns)).getD j 0=(((-1,(0:Int))::rows)[j]).1:=by rw[hpar,List.getD_eq_getElem?_getD,List.getElem?_map,List.getElem?_eq_getElem hj3];rfl
   rw[e4]at this
   omega
  rw[e2,z,Nat.zero_add]
 have e:Kb (Q0 (Q7 ns)) a ((Q7 ns).length-(a+1)) (a+1)=cA (((-1,0)::rows).drop (a+1)) a:=by
  rw[hpar]
  exact Df _ a _ _ (by rw[List.length_cons];omega)
 rw[e,hall,UD,if_neg (by show(-1:Int)≠_;omega),Nat.zero_add,hs]
 rw[hs]at hk
 cases a with
 |zero=>rw[List.getD_cons_zero,hm];exact congrArg _ h4
 |succ a=>
  rw[List.getD_cons_succ]at hk ⊢
  rw[hs,List.length_cons]at ha
  rw[←h6 a (by omega) hk,show(((a+1:Nat):Int))=((1:Nat):Int)+a by omega]
theorem GD(ns:List Int)(j:Nat):(0≤((Q7 ns).getD j default).kind∧((Q7 ns).getD j default).kind≤4)∧0≤((Q7 ns).getD j default).rep∧((Q7 ns).getD j default).rep≤2:=by
 by_cases h:j<(Q7 ns).length
 ·have:=LH ns ((Q7 ns).getD j default) (by rw[List.getD_eq_getElem?_getD,List.getElem?_eq_getElem h];exact List.getElem_mem h)
  exact⟨⟨this.2.2.1,this.2.2.2⟩,this.1,this.2.1⟩
 ·rw[List.getD_eq_getElem?_getD,List.getElem?_eq_none (by omega)]
  decide
theorem Io(ns rec:List Int):Wt (Q7 ns) (Q0 (Q7 ns)) (Q7 ns).length 0 (XP (Q7 ns) rec):=
 Bz _ _ _ (fun j _=>(GD ns j).2) (fun j=>(GD ns j).1) _ 0 0
end Go.Proofs.Ytcpikannlnmafaa
