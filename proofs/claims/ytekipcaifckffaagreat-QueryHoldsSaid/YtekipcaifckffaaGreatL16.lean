/-
  A shape's text. Plain. What 'Make' makes:trees,laid out. Plain. What 'Make' makes is printed. Plain. What 'Make' makes may be:nothing is wrong with it. Plain. Records of made shapes:where a field's values lie. Plain. A leaf from its field upwards is the leaf by its way. Plain.
-/
import Derived.Test.YtekipcaifckffaaGreatL15
import Derived.Test.YtekipcaifckffaaGreatL2
import Derived.Test.YtekipcaifckffaaGreatL9
import Derived.Test.YtekipcaifckffaaGreatL13
set_option linter.unusedVariables false
set_option linter.unusedSimpArgs false
namespace Go.Proofs.YtekipcaifckffaaGreat
open Go Go.Av
def H9(d:Nat):List UInt8:=List.replicate (2*d) 32
def Lm(d:Nat)(f:Fd):List UInt8:=if d=0 then S4++[32]else H9 d++Pq.getD f.rep.toNat []++[32]++NP.getD f.kind.toNat []++[32]
def OL(d:Nat)(f:Fd):List UInt8:=Lm d f++f.name++[59,10]
def OI(d:Nat)(f:Fd):List UInt8:=Lm d f++f.name++[32,123,10]
def LM(d:Nat):List UInt8:=H9 d++[125,10]
inductive PrT(s:List Fd):Nat→Nat→Nat→Nat→List UInt8→Nat→Prop
 |nil {n i d:Nat}:PrT s n 0 i d [] i
 |leaf {n k i d j:Nat} {t:List UInt8} (hi:i<s.length) (hk:(s.getD i default).kind≠0) (h:PrT s n k (i+1) d t j):PrT s n (k+1) i d (OL d (s.getD i default)++t) j
 |group {n k m i i1 d j:Nat} {t1 t2:List UInt8} (hi:i<s.length) (hk:(s.getD i default).kind=0) (hm:(s.getD i default).kids=m) (h1:PrT s n m (i+1) (d+1) t1 i1) (h2:PrT s (n+1) k i1 d t2 j):
   PrT s (n+1) (k+1) i d (OI d (s.getD i default)++t1++LM d++t2) j
theorem PrT.split{s:List Fd}{n k i d j:Nat}{t:List UInt8}(h:PrT s n (k+1) i d t j):∃t1 i1 t2,PrT s n 1 i d t1 i1∧PrT s n k i1 d t2 j∧t=t1++t2:=by
 cases h with
 |leaf hi hk h=>exact⟨_,_,_,.leaf hi hk .nil,h,by simp⟩
 |group hi hk hm h1 h2=>exact⟨_,_,_,.group hi hk hm h1 .nil,h2,by simp⟩
theorem PrT.one{s:List Fd}{n i d j:Nat}{t:List UInt8}(h:PrT s n 1 i d t j):i<s.length∧
 (((s.getD i default).kind≠0∧t=OL d (s.getD i default)∧j=i+1)∨
   (∃n' m t1,(s.getD i default).kind=0∧n=n'+1∧(s.getD i default).kids=(m:Nat)∧PrT s n' m (i+1) (d+1) t1 j∧t=OI d (s.getD i default)++t1++LM d)):=by
 cases h with
 |leaf hi hk h=>
  cases h with
  |nil=>exact⟨hi,.inl ⟨hk,by simp,rfl⟩⟩
 |group hi hk hm h1 h2=>
  cases h2 with
  |nil=>exact⟨hi,.inr ⟨_,_,_,hk,rfl,hm,h1,by simp⟩⟩
theorem PrT.pos{s:List Fd}{n k i d j:Nat}{t:List UInt8}(h:PrT s n k i d t j):i≤j:=by
 induction h with
 |nil=>exact Nat.le_refl _
 |leaf _ _ _ ih=>omega
 |group _ _ _ _ _ ih1 ih2=>omega
structure PrOk(s:List Fd):Prop where
 len:s.length<1000
 rep:∀i,i<s.length→0≤(s.getD i default).rep∧(s.getD i default).rep≤2
 kind:∀i,i<s.length→0≤(s.getD i default).kind∧(s.getD i default).kind≤4
structure FOk(f:Fd):Prop where
 rep:0≤f.rep∧f.rep≤2
 kind:0≤f.kind∧f.kind≤4
 name:L2 f.name=true
 sign:∀c∈f.name,DX c=true
inductive Fo:Nat→Nat→List Fd→Prop
 |nil {d:Nat}:Fo d 0 []
 |leaf {d k:Nat} {f:Fd} {l:List Fd} (hd:d≤8) (hf:FOk f) (hk:f.kind≠0) (h0:f.kids=0) (h:Fo d k l):Fo d (k+1) (f::l)
 |group {d k m:Nat} {f:Fd} {l1 l2:List Fd} (hd:d≤8) (hf:FOk f) (hk:f.kind=0) (hm:f.kids=(m:Nat)) (hp:0<m) (h1:Fo (d+1) m l1) (h2:Fo d k l2):Fo d (k+1) (f::(l1++l2))
theorem Fo.snoc{d k:Nat}{l x:List Fd}(h:Fo d k l)(hx:Fo d 1 x):Fo d (k+1) (l++x):=by
 induction h with
 |nil=>exact hx
 |leaf hd hf hk h0 _ ih=>exact .leaf hd hf hk h0 (ih hx)
 |group hd hf hk hm hp h1 _ _ ih=>
  rw[List.cons_append,List.append_assoc]
  exact .group hd hf hk hm hp h1 (ih hx)
inductive Sp:List Int→List Fd→Prop
 |root {f:Fd} {l:List Fd} {k:Nat} (hf:FOk f) (hk:f.kind=0) (hr:f.rep=0) (hm:f.kids=(k:Nat)) (h:Fo 1 k l):Sp [0] (f::l)
 |push {a:Int} {t:List Int} {fs:List Fd} {f:Fd} {l:List Fd} {k:Nat} (h:Sp (a::t) fs) (hd:t.length+1≤8) (hf:FOk f) (hk:f.kind=0) (hm:f.kids=(k:Nat)) (hl:Fo (t.length+2) k l):
   Sp ((fs.length:Int)::a::t) (ZS fs a.toNat++f::l)
theorem Sp.ne{op:List Int}{fs:List Fd}(h:Sp op fs):∃a t,op=a::t∧fs≠[]:=by
 cases h with
 |root=>exact⟨_,_,rfl,by simp⟩
 |push=>exact⟨_,_,rfl,by simp⟩
theorem Sp.top{a:Int}{t:List Int}{fs:List Fd}(h:Sp (a::t) fs):a.toNat<fs.length∧0≤a∧ ∃k:Nat,(fs.getD a.toNat default).kids=(k:Nat):=by
 cases h with
 |root hf hk hr hm h=>exact⟨by simp,by omega,_,hm⟩
 |push h hd hf hk hm hl=>
  rename_i k
  refine⟨by simp[Qa],by omega,k,?_⟩
  rw[Int.toNat_natCast,List.getD_eq_getElem?_getD,List.getElem?_append_right (by rw[Qa];exact Nat.le_refl _),Qa,Nat.sub_self]
  exact hm
theorem Lh{fs:List Fd}{f:Fd}{l:List Fd}{n:Nat}(h:n=fs.length):ZS (fs++f::l) n=fs++{f with kids:=f.kids+1}::l:=by
 subst h
 unfold ZS
 have e:(fs++f::l).getD fs.length default=f:=by
  rw[List.getD_eq_getElem?_getD,List.getElem?_append_right (Nat.le_refl _),Nat.sub_self];rfl
 rw[e]
 simp only[List.set_append,Nat.lt_irrefl,if_false,Nat.sub_self,List.set_cons_zero]
theorem Sp.add{a:Int}{t:List Int}{fs x:List Fd}(h:Sp (a::t) fs)(hx:Fo (t.length+1) 1 x):Sp (a::t) (ZS fs a.toNat++x):=by
 generalize hop:a::t=op at h
 cases h with
 |root hf hk hr hm h=>
  cases hop
  rename_i f l k
  have e:ZS (f::l) (0:Int).toNat={f with kids:=f.kids+1}::l:=Lh (fs:=[]) rfl
  rw[e]
  exact .root (f:={f with kids:=f.kids+1}) (k:=k+1) ⟨hf.rep,hf.kind,hf.name,hf.sign⟩ hk hr (by show f.kids+1=_;rw[hm];rfl) (h.snoc hx)
 |push h hd hf hk hm hl=>
  cases hop
  rename_i a' t' fs' f l k
  rw[Lh (by rw[Qa,Int.toNat_natCast]),List.append_assoc]
  exact .push (f:={f with kids:=f.kids+1}) (k:=k+1) h hd ⟨hf.rep,hf.kind,hf.name,hf.sign⟩ hk (by show f.kids+1=_;rw[hm];rfl) (hl.snoc hx)
theorem Sp.pop{b a:Int}{t:List Int}{fs:List Fd}(h:Sp (b::a::t) fs)(hk:0<(fs.getD b.toNat default).kids):Sp (a::t) fs∧0<(fs.getD a.toNat default).kids:=by
 generalize hop:b::a::t=op at h
 cases h with
 |root=>cases hop
 |push h hd hf hk' hm hl=>
  cases hop
  rename_i fs' f l k
  rw[Int.toNat_natCast,List.getD_eq_getElem?_getD,List.getElem?_append_right (by rw[Qa];exact Nat.le_refl _),Qa,Nat.sub_self]at hk
  have hk:0<f.kids:=hk
  obtain⟨h1,h2,k',h3⟩:=h.top
  refine⟨h.add ?_,?_⟩
  ·have:=Fo.group (d:=t.length+1) (k:=0) (m:=k) hd hf hk' hm (by omega) hl .nil
   rwa [List.append_nil]at this
  ·have e:(ZS fs' a.toNat++f::l).getD a.toNat default={fs'.getD a.toNat default with kids:=(fs'.getD a.toNat default).kids+1}:=by
    rw[List.getD_eq_getElem?_getD,List.getElem?_append_left (by rw[Qa];exact h1),ZS,List.getElem?_set_self (by exact h1)];rfl
   rw[e]
   show 0<(fs'.getD a.toNat default).kids+1
   omega
theorem Sp.pops{fs:List Fd}:∀(k:Nat) (op:List Int),Sp op fs→Sp (VF fs k op) fs∧(VF fs k op).length≤op.length
 |0,op,h=>⟨h,Nat.le_refl _⟩
 |k+1,[],h=>⟨h,Nat.le_refl _⟩
 |k+1,[a],h=>⟨h,Nat.le_refl _⟩
 |k+1,a::b::t,h=>by
  rw[VF]
  split
  ·rename_i hk
   obtain⟨h1,h2⟩:=Sp.pops k (b::t) (h.pop hk).1
   exact⟨h1,by simp at h2 ⊢;omega⟩
  ·exact⟨h,Nat.le_refl _⟩
theorem Sp.close:∀(op:List Int) (fs:List Fd),Sp op fs→0<(fs.getD (ZK op).toNat default).kids→ ∃(f:Fd) (l:List Fd) (k:Nat),fs=f::l∧FOk f∧f.kind=0∧f.rep=0∧f.kids=(k:Nat)∧0<k∧Fo 1 k l
 |[],fs,h,_=>by cases h
 |[a],fs,h,hk=>by
  generalize hop:[a]=op at h
  cases h with
  |root hf hkk hr hm h=>
   rename_i f l k
   have hk:0<f.kids:=by cases hop;exact hk
   exact⟨_,_,_,rfl,hf,hkk,hr,hm,by omega,h⟩
  |push=>cases hop
 |b::a::t,fs,h,hk=>by
  obtain⟨h1,h2⟩:=h.pop hk
  exact Sp.close (a::t) fs h1 h2
theorem RZ:∀i,i<12→L2 (nmM i)=true∧ ∀c∈nmM i,DX c=true:=by decide
theorem PK(op:List Int){i:Nat}(hi:i<12)(x:Int):FOk (CP op i x)∧(CP op i x).kids=0:=by
 have h1:=Zr (a:=wr .i64 (x.tdiv 8)) (n:=3) (by omega)
 have h2:=Zr (a:=x) (n:=8) (by omega)
 obtain⟨h3,h4⟩:=RZ i hi
 refine⟨⟨⟨h1.1,by show wi _ 3≤2;omega⟩,?_,h3,h4⟩,rfl⟩
 show 0≤XE op x∧XE op x≤4
 unfold XE
 have h5:=Int.tmod_lt_of_pos (wi x 8) (show(0:Int)<5 by decide)
 have h6:=Int.tmod_nonneg 5 h2.1
 split<;>omega
theorem HF{op:List Int}{x:Int}(h:XE op x=0):op.length≤4:=by
 unfold XE at h
 split at h
 ·omega
 ·rename_i hn
  exact Nat.le_of_not_lt fun hl=>hn ⟨hl,h⟩
theorem Sp.step{fs:List Fd}{op:List Int}{i:Nat}{x:Int}(h:Sp op fs)(hl:op.length≤5)(hi:i<12):Sp (ZW fs op i x).2 (ZW fs op i x).1∧(ZW fs op i x).2.length≤5:=by
 obtain⟨h1,h2⟩:=Sp.pops (wi (wr .i64 (x.tdiv 64)) 3).toNat op h
 unfold ZW
 simp only
 generalize VF fs (wi (wr .i64 (x.tdiv 64)) 3).toNat op=o at *
 obtain⟨a,t,rfl,hne⟩:=h1.ne
 obtain⟨hf,hk0⟩:=PK (a::t) hi x
 have ht:ZK (a::t)=a:=rfl
 rw[ht]
 split
 ·rename_i hk
  have h4:=HF (show XE (a::t) x=0 from hk)
  simp at h4 h2
  exact⟨.push (k:=0) h1 (by omega) hf hk (by rw[hk0];rfl) .nil,by simp;omega⟩
 ·rename_i hk
  simp at h2
  exact⟨h1.add (.leaf (by omega) hf hk hk0 .nil),by simp;omega⟩
theorem IB{ns:List Int}:∀(n i:Nat) (fs:List Fd) (op:List Int),Sp op fs→op.length≤5→Sp (ZL ns n i fs op).2 (ZL ns n i fs op).1∧(ZL ns n i fs op).2.length≤5
 |0,i,fs,op,h,hl=>⟨h,hl⟩
 |n+1,i,fs,op,h,hl=>by
  rw[ZL]
  split
  ·rename_i hi
   have hs:=Sp.step (x:=ns.getD i 0) h hl hi.2
   exact IB n (i+1) _ _ hs.1 hs.2
  ·exact⟨h,hl⟩
theorem NN(ns:List Int):∃(f:Fd) (l:List Fd) (k:Nat),Q2 ns=f::l∧FOk f∧f.kind=0∧f.rep=0∧f.kids=(k:Nat)∧0<k∧Fo 1 k l:=by
 have h0:Sp [0] fs0:=.root (k:=0) ⟨by decide,by decide,by decide,by decide⟩ rfl rfl rfl .nil
 have h:=IB (ns:=ns) 12 0 fs0 [0] h0 (by decide)
 rw[Q2]
 generalize(ZL ns 12 0 [⟨[109],0,0,0⟩] [0])=r at *
 have hl5:(r.2).length≤5:=h.2
 have h:Sp r.2 r.1:=h.1
 rw[XV]
 obtain⟨a,t,ho,hne⟩:=h.ne
 rw[ho]at h
 obtain⟨h1,h2,k,h3⟩:=h.top
 have ht:ZK r.2=a:=by rw[ho];rfl
 rw[ht]
 split
 ·rename_i hk
  have hz:FOk ⟨[122],0,4,0⟩:=⟨by decide,by decide,by decide,by decide⟩
  have hd:t.length+1≤8:=by rw[ho]at hl5;simp at hl5;omega
  have ha:=h.add (.leaf (f:=⟨[122],0,4,0⟩) hd hz (by decide) rfl .nil)
  refine Sp.close (a::t) _ ha ?_
  show 0<((ZS r.1 a.toNat++[_]).getD a.toNat default).kids
  rw[List.getD_eq_getElem?_getD,List.getElem?_append_left (by rw[Qa];exact h1),ZS,List.getElem?_set_self (by exact h1)]
  show 0<(r.1.getD a.toNat default).kids+1
  omega
 ·rename_i hk
  refine Sp.close (a::t) _ h ?_
  show 0<(r.1.getD a.toNat default).kids
  omega
theorem Fo.all{d k:Nat}{l:List Fd}(h:Fo d k l):∀f∈l,FOk f:=by
 induction h with
 |nil=>intro f hf;cases hf
 |leaf hd hf hk h0 h ih=>
  intro f h
  rcases List.mem_cons.1 h with rfl|h
  ·exact hf
  ·exact ih f h
 |group hd hf hk hm hp h1 h2 ih1 ih2=>
  intro f h
  rcases List.mem_cons.1 h with rfl|h
  ·exact hf
  ·rcases List.mem_append.1 h with h|h
   ·exact ih1 f h
   ·exact ih2 f h
structure PrS(s:List Fd)(t:List UInt8):Prop where
 pr:PrT s 9 1 0 0 t s.length
 ok:PrOk s
 len:t.length≤64*s.length
theorem Iv(fs:List Fd)(op:List Int)(i:Nat)(x:Int):(ZW fs op i x).1.length=fs.length+1:=by
 simp[ZW,Qa]
theorem Er{ns:List Int}:∀(n i:Nat) (fs:List Fd) (op:List Int),(ZL ns n i fs op).1.length≤fs.length+n
 |0,_,_,_=>Nat.le_refl _
 |n+1,i,fs,op=>by
  rw[ZL]
  split
  ·have:=Er (ns:=ns) n (i+1) (ZW fs op i (ns.getD i 0)).1 (ZW fs op i (ns.getD i 0)).2
   rw[Iv]at this
   show(ZL ns n (i+1) (ZW fs op i (ns.getD i 0)).1 (ZW fs op i (ns.getD i 0)).2).1.length≤_
   omega
  ·show fs.length≤_;omega
theorem L7(ns:List Int):(Q2 ns).length≤14:=by
 have h:=Er (ns:=ns) 12 0 [⟨[109],0,0,0⟩] [0]
 rw[Q2]
 generalize(ZL ns 12 0 [⟨[109],0,0,0⟩] [0])=r at *
 have h:r.1.length≤13:=h
 show(XV r.1 r.2).length≤14
 unfold XV
 split
 ·simp[Qa];omega
 ·omega
theorem GI{a c:Int}{t:Stk}(h:0<c):ZG ((a,c)::t)=(a,c)::t:=by rw[ZG,if_neg (by omega)]
theorem GJ{a c:Int}{t:Stk}(h:c≤0):ZG ((a,c)::t)=ZG t:=by rw[ZG,if_pos h]
theorem B8:∀{st:Stk},ZG st=[]→IR st=false
 |[],_=>rfl
 |(a,c)::t,h=>by
  by_cases hc:0<c
  ·rw[GI hc]at h;cases h
  ·rw[GJ (by omega)]at h
   have:=B8 h
   rw[IR]at this ⊢
   rw[List.any_cons,this,decide_eq_false hc];rfl
theorem NU{d k:Nat}{l:List Fd}(h:Fo d k l):∀(i:Nat) (a c:Int) (st' st:Stk) (rest:List Fd),(k:Int)≤c→0≤a→d=st'.length+1→ZG st=ZG ((a,c)::st')→
 ∃rows st2,Xz (l++rest) i st=rows++Xz rest (i+l.length) st2∧(∀p∈rows,(0:Int)≤p.1∧p.2≤8)∧JX (l++rest) i st=JX rest (i+l.length) st2∧ZG st2=ZG ((a,c-k)::st'):=by
 induction h with
 |nil=>
  intro i a c st' st rest hc ha hd hp
  exact⟨[],st,rfl,fun p hp=>(nomatch hp),rfl,by rw[hp];simp⟩
 |leaf hd hf hk h0 h ih=>
  rename_i d k f l
  intro i a c st' st rest hc ha hdl hp
  have hc0:0<c:=by omega
  rw[GI hc0]at hp
  obtain⟨rows,st2,h1,h2,h3,h4⟩:=ih (i+1) a (c-1) st' ((a,c-1)::st') rest (by omega) ha hdl rfl
  refine⟨(a,(st'.length:Int)+1)::rows,st2,?_,?_,?_,?_⟩
  ·rw[List.cons_append,Xz,hp,X3,if_neg hk]
   show(a,(((a,c)::st').length:Int))::Xz (l++rest) (i+1) ((a,c-1)::st')=_
   rw[h1,List.length_cons,List.length_cons,show i+1+l.length=i+(l.length+1) by omega]
   simp
  ·intro p hp
   rcases List.mem_cons.1 hp with rfl|hp
   ·exact⟨ha,by simp only;omega⟩
   ·exact h2 p hp
  ·rw[List.cons_append,JX,hp,X3,if_neg hk]
   show JX (l++rest) (i+1) ((a,c-1)::st')=_
   rw[h3,List.length_cons,show i+1+l.length=i+(l.length+1) by omega]
  ·rw[h4,show c-1-(k:Int)=c-((k+1:Nat):Int) by omega]
 |group hd hf hk hm hpos h1 h2 ih1 ih2=>
  rename_i d k m f l1 l2
  intro i a c st' st rest hc ha hdl hp
  have hc0:0<c:=by omega
  rw[GI hc0]at hp
  obtain⟨r1,s1,a1,a2,a3,a4⟩:=ih1 (i+1) i m ((a,c-1)::st') (((i:Int),(m:Int))::(a,c-1)::st') (l2++rest) (Int.le_refl _) (by omega) (by simp;omega) rfl
  rw[GJ (by omega)]at a4
  obtain⟨r2,s2,b1,b2,b3,b4⟩:=ih2 (i+1+l1.length) a (c-1) st' s1 rest (by omega) ha hdl a4
  refine⟨(a,(st'.length:Int)+1)::(r1++r2),s2,?_,?_,?_,?_⟩
  ·rw[List.cons_append,Xz,hp,X3,if_pos hk,hm]
   show(a,(((a,c)::st').length:Int))::Xz (l1++l2++rest) (i+1) (((i:Int),(m:Int))::(a,c-1)::st')=_
   rw[List.append_assoc,a1,b1,List.length_cons,List.length_cons,List.length_append,show i+1+l1.length+l2.length=i+(l1.length+l2.length+1) by omega]
   simp
  ·intro p hp
   rcases List.mem_cons.1 hp with rfl|hp
   ·exact⟨ha,by simp only;omega⟩
   ·rcases List.mem_append.1 hp with hp|hp
    ·exact a2 p hp
    ·exact b2 p hp
  ·rw[List.cons_append,JX,hp,X3,if_pos hk,hm]
   show JX (l1++l2++rest) (i+1) (((i:Int),(m:Int))::(a,c-1)::st')=_
   rw[List.append_assoc,a3,b3,List.length_cons,List.length_append,show i+1+l1.length+l2.length=i+(l1.length+l2.length+1) by omega]
  ·rw[b4,show c-1-(k:Int)=c-((k+1:Nat):Int) by omega]
theorem GX(fs:List Fd)(a:Nat):(ZS fs a).map (·.name)=fs.map (·.name):=by
 unfold ZS
 apply List.ext_getElem?
 intro i
 simp only[List.getElem?_map,List.getElem?_set]
 by_cases h:a=i
 ·subst h
  by_cases hl:a<fs.length
  ·simp[hl]
  ·simp[hl]
 ·simp[h]
def Hy(j:Nat):List UInt8:=if j=0 then[109]else nmM (j-1)
theorem MP{ns:List Int}:∀(n i:Nat) (fs:List Fd) (op:List Int),fs.map (·.name)=(List.range (i+1)).map Hy→i≤12→ ∃m,m≤13∧(ZL ns n i fs op).1.map (·.name)=(List.range m).map Hy
 |0,i,fs,op,h,hi=>⟨i+1,by omega,h⟩
 |n+1,i,fs,op,h,hi=>by
  rw[ZL]
  split
  ·rename_i hc
   refine MP n (i+1) _ _ ?_ (by omega)
   show(ZW fs op i (ns.getD i 0)).1.map (·.name)=_
   unfold ZW
   simp only[List.map_append,GX,h]
   rw[List.range_succ (n:=i+1),List.map_append]
   rfl
  ·exact⟨i+1,by omega,h⟩
theorem Cw(ns:List Int):∃m,m≤13∧((Q2 ns).map (·.name)=(List.range m).map Hy∨(Q2 ns).map (·.name)=(List.range m).map Hy++[[122]]):=by
 obtain⟨m,hm,h⟩:=MP (ns:=ns) 12 0 [⟨[109],0,0,0⟩] [0] rfl (by decide)
 refine⟨m,hm,?_⟩
 rw[Q2]
 generalize(ZL ns 12 0 [⟨[109],0,0,0⟩] [0])=r at *
 show(XV r.1 r.2).map _=_∨(XV r.1 r.2).map _=_
 unfold XV
 split
 ·right
  rw[List.map_append,GX,h];rfl
 ·left;exact h
theorem IW:∀m,m≤13→((List.range m).map Hy).Nodup∧((List.range m).map Hy++[[122]]).Nodup:=by decide
theorem Bg{fs:List Fd}(h:(fs.map (·.name)).Nodup){i k:Nat}(hi:i<fs.length)(hk:k<i):(fs.getD k default).name≠(fs.getD i default).name:=by
 intro e
 have hkl:k<fs.length:=by omega
 have:=List.pairwise_iff_getElem.1 h k i (by rw[List.length_map];exact hkl) (by rw[List.length_map];exact hi) hk
 apply this
 simp only[List.getElem_map]
 simp only[List.getD_eq_getElem?_getD,List.getElem?_eq_getElem hkl,List.getElem?_eq_getElem hi,Option.getD_some]at e
 exact e
theorem NW(s t:List UInt8):eqb s t=decide (s=t):=by
 letI:Syms:=⟨fun _=>.int .i64 0,fun _=>⟨rfl,rfl⟩,fun _=>⟨_,rfl⟩⟩
 exact Yi s t
theorem JN{fs:List Fd}:∀n i,(∀j,i≤j→j<i+n→BN fs (Q0 fs) j ((Ww fs).getD j 0)=0)→Yt fs i n=0
 |0,_,_=>rfl
 |n+1,i,h=>by
  have h0:=h i (Nat.le_refl _) (by omega)
  rw[Yt,if_neg (fun x=>x h0)]
  exact JN n (i+1) fun j h1 h2=>h j (by omega) (by omega)
theorem Lo{f:Fd}(h:FOk f):L3 f.name=true:=by
 have hne:f.name≠[]:=fun e=>by have:=h.name;rw[e]at this;cases this
 rw[←L1 ⟨hne,.inl h.sign⟩]
 exact h.name
theorem Fo.kids{d k:Nat}{l:List Fd}(h:Fo d k l):∀f∈l,(f.kind=0→1≤f.kids)∧(f.kind≠0→f.kids=0):=by
 induction h with
 |nil=>intro f hf;cases hf
 |leaf hd hf hk h0 h ih=>
  intro g hg
  rcases List.mem_cons.1 hg with rfl|hg
  ·exact⟨fun h=>absurd h hk,fun _=>h0⟩
  ·exact ih g hg
 |group hd hf hk hm hp h1 h2 ih1 ih2=>
  intro g hg
  rcases List.mem_cons.1 hg with rfl|hg
  ·exact⟨fun _=>by omega,fun h=>absurd hk h⟩
  ·rcases List.mem_append.1 hg with hg|hg
   ·exact ih1 g hg
   ·exact ih2 g hg
theorem Cx(ns:List Int):CX (Q2 ns)=0:=by
 obtain⟨f,l,k,hs,hf,hk,hr,hm,hp,h⟩:=NN ns
 have hl:=L7 ns
 obtain⟨m,hm13,hnm⟩:=Cw ns
 have hnd:((Q2 ns).map (·.name)).Nodup:=by
  obtain⟨h1,h2⟩:=IW m hm13
  rcases hnm with e|e
  ·rw[e];exact h1
  ·rw[e];exact h2
 clear hnm
 have hT:Fo 0 1 (f::l):=by
  have:=Fo.group (d:=0) (k:=0) (by decide) hf hk hm hp h .nil
  rwa [List.append_nil]at this
 rw[hs]at hl hnd ⊢
 obtain⟨rows,st2,h1,h2,h3,h4⟩:=NU h 1 0 k [] [(0,(k:Int))] [] (Int.le_refl _) (Int.le_refl _) rfl rfl
 rw[List.append_nil]at h1 h3
 rw[GJ (by omega)]at h4
 have hw:Xz (f::l) 0 []=(-1,0)::rows:=by
  rw[Xz]
  show(-1,0)::Xz l 1 (X3 0 f [])=_
  rw[X3,if_pos hk,hm]
  show(-1,0)::Xz l 1 [(0,(k:Int))]=_
  rw[h1];simp[Xz]
 have hfin:JX (f::l) 0 []=st2:=by
  rw[JX]
  show JX l 1 (X3 0 f [])=_
  rw[X3,if_pos hk,hm]
  show JX l 1 [(0,(k:Int))]=_
  rw[h3];rfl
 have hrl:rows.length=l.length:=by
  have:=Z7 (f::l) 0 []
  rw[hw]at this
  simpa using this
 have hat:∀i,i<(f::l).length→(f::l).getD i default∈f::l:=fun i hi=>by rw[List.getD_eq_getElem?_getD,List.getElem?_eq_getElem hi];exact List.getElem_mem _
 unfold CX
 rw[if_neg (by simp at hl ⊢;omega)]
 have hz:Yt (f::l) 0 (f::l).length=0:=by
  refine JN _ _ fun j _ hj=>?_
  rw[Nat.zero_add]at hj
  have hfo:=hT.all _ (hat j hj)
  have hkd:=hT.kids _ (hat j hj)
  have htw:Iq (f::l) (Q0 (f::l)) j=false:=by
   unfold Iq
   rw[List.any_eq_false]
   intro q hq
   have hq:=List.mem_range.1 hq
   have hne:=Bg hnd hj hq
   unfold Ir
   rw[NW,decide_eq_false hne]
   simp
  have hpd:(0<j→0≤(Q0 (f::l)).getD j 0)∧(Ww (f::l)).getD j 0≤8:=by
   rw[Q0,Ww,hw]
   cases j with
   |zero=>exact⟨fun h=>absurd h (by decide),show(0:Int)≤8 by decide⟩
   |succ j=>
    have hjr:j<rows.length:=by rw[hrl];simpa using hj
    have hmem:rows[j]∈rows:=List.getElem_mem _
    have:=h2 _ hmem
    simp only[List.map_cons,List.getD_cons_succ]
    simp only[List.getD_eq_getElem?_getD,List.getElem?_map,List.getElem?_eq_getElem hjr,Option.map_some,Option.getD_some]
    exact⟨fun _=>this.1,this.2⟩
  have h0:j=0→((f::l).getD j default).rep=0∧((f::l).getD j default).kind=0:=fun e=>by subst e;exact⟨hr,hk⟩
  unfold BN
  rw[htw,Lo hfo]
  have hR:=hfo.rep
  have hK:=hfo.kind
  generalize(f::l).getD j default=F at *
  unfold O7
  rw[if_neg (by omega),if_neg (by omega),if_neg (by simp),if_neg (by omega),if_neg (by omega),if_neg (by omega)]
 rw[hz,if_neg (fun h=>h rfl),hfin,B8 h4]
 rfl
theorem DI(G:Int→Prop):∀(fs:List Fd) (i:Nat) (st:Stk),(∀p∈st,G p.1)→(∀j,j<fs.length→(fs.getD j default).kind=0→G ((i+j:Nat):Int))→ ∀j,j<fs.length→0≤((Xz fs i st).map (·.1)).getD j 0→G (((Xz fs i st).map (·.1)).getD j 0)
 |[],_,_,_,_,j,h,_=>by simp at h
 |f::fs,i,st,hst,hg,j,h,h0=>by
  cases j with
  |zero=>
   have h0:0≤Vt (ZG st):=h0
   show G (Vt (ZG st))
   cases hp:ZG st with
   |nil=>rw[hp]at h0;exact absurd h0 (by show ¬(0:Int)≤ -1;decide)
   |cons q t=>exact hst q (Kh (by rw[hp];exact List.mem_cons_self ..))
  |succ j=>
   have hd:∀p∈YE (ZG st),G p.1:=by
    intro p hp
    cases hq:ZG st with
    |nil=>rw[hq]at hp;simp[YE]at hp
    |cons q t=>
     rw[hq]at hp
     have hall:∀r∈q::t,G r.1:=fun r hr=>hst r (Kh (by rw[hq];exact hr))
     simp only[YE,List.mem_cons]at hp
     rcases hp with rfl|hp
     ·exact hall q (List.mem_cons_self ..)
     ·exact hall p (List.mem_cons_of_mem _ hp)
   have hS:∀p∈X3 i f (YE (ZG st)),G p.1:=by
    intro p hp
    unfold X3 at hp
    split at hp
    ·rename_i hk
     rcases List.mem_cons.1 hp with rfl|hp
     ·exact hg 0 (by simp) hk
     ·exact hd p hp
    ·exact hd p hp
   have key:=DI G fs (i+1) (X3 i f (YE (ZG st))) hS (fun j hj hk=>by
    have:=hg (j+1) (by simp;omega) hk
    rwa [show i+(j+1)=i+1+j by omega]at this) j (by simpa using h) (by simpa[Xz]using h0)
   simpa[Xz]using key
theorem EE{fs:List Fd}{a:Nat}(h:a<fs.length)(h0:0≤(Q0 fs).getD a 0):(fs.getD ((Q0 fs).getD a 0).toNat default).kind=0:=
 DI (fun x=>(fs.getD x.toNat default).kind=0) fs 0 [] (by simp) (fun j hj hk=>by rw[Nat.zero_add];exact hk) a h h0
theorem GR(ns:List Int):Ups (Q0 (Q2 ns)):=by
 have hn:=XD ns
 have hpl:(Q0 (Q2 ns)).length=(Q2 ns).length:=by rw[Q0,List.length_map,Z7]
 have hc:=Cx ns
 unfold CX at hc
 rw[if_neg (by have:=hn.pos;have:=hn.le;omega)]at hc
 have h0:Yt (Q2 ns) 0 (Q2 ns).length=0:=by
  by_cases h:Yt (Q2 ns) 0 (Q2 ns).length=0
  ·exact h
  ·rw[if_pos h]at hc;exact hc
 intro a h1 h2
 have hz:=Ky _ 0 h0 a (Nat.zero_le _) (by omega)
 exact⟨(I1 hz).1 (by omega),(V8 _ a (by omega)).2⟩
theorem BL(ps:List Int)(g:Int):∀n m i,XW ps g (n+m) i=XW ps g n i+XW ps g m (i+n)
 |0,m,i=>by rw[Nat.zero_add,XW,Nat.zero_add,Nat.add_zero]
 |n+1,m,i=>by
  rw[show n+1+m=(n+m)+1 by omega,XW,XW,BL ps g n m (i+1),show i+1+n=i+(n+1) by omega]
  omega
theorem Pv{ps:List Int}{a n:Nat}(hp:0≤ps.getD a 0∧ps.getD a 0<a)(h:a<n):WC ps a<XW ps (ps.getD a 0) (n-((ps.getD a 0).toNat+1)) ((ps.getD a 0).toNat+1):=by
 unfold WC
 obtain⟨d,hd⟩:∃d,n-((ps.getD a 0).toNat+1)=(a-((ps.getD a 0).toNat+1))+(d+1):=⟨n-a-1,by omega⟩
 rw[hd,BL,XW,show(ps.getD a 0).toNat+1+(a-((ps.getD a 0).toNat+1))=a by omega,if_pos rfl]
 omega
theorem B2{val:Nat→Tr×Nat}:∀(k a:Nat) (l:List Tr),∀x∈(XT val k a l).1,x∈l∨ ∃b,x=(val b).1
 |0,a,l,x,h=>.inl h
 |k+1,a,l,x,h=>by
  rcases B2 k _ _ x h with h|h
  ·rcases List.mem_append.1 h with h|h
   ·exact .inl h
   ·exact .inr ⟨a,List.mem_singleton.1 h⟩
  ·exact .inr h
theorem J9(fs:List Fd)(ps ns:List Int)(i:Nat)(val:Nat→Nat→Tr×Nat):∀(c j a:Nat) (ks:List (List Tr)),(YC fs ps ns i val c j a ks).1.length=ks.length+XW ps i c j
 |0,_,a,ks=>rfl
 |c+1,j,a,ks=>by
  rw[YC,XW]
  split
  ·rw[J9 fs ps ns i val c];simp only[List.length_append,List.length_singleton];omega
  ·rw[J9 fs ps ns i val c];omega
theorem J8(fs:List Fd)(ps ns:List Int)(i:Nat)(val:Nat→Nat→Tr×Nat):∀(c j a:Nat) (ks:List (List Tr)) (q:Nat),q<ks.length→(YC fs ps ns i val c j a ks).1.getD q []=ks.getD q []
 |0,_,a,ks,q,h=>rfl
 |c+1,j,a,ks,q,h=>by
  rw[YC]
  split
  ·rw[J8 fs ps ns i val c _ _ _ q (by simp;omega),Z8 h]
  ·rw[J8 fs ps ns i val c _ _ _ q h]
theorem GU(fs:List Fd)(ps ns:List Int)(i:Nat)(val:Nat→Nat→Tr×Nat):∀(c j a:Nat) (ks:List (List Tr)) (m:Nat),j≤m→m<j+c→ps.getD m 0=i→ ∀x∈(YC fs ps ns i val c j a ks).1.getD (ks.length+XW ps i (m-j) j) [],∃b,x=(val m b).1
 |0,_,a,ks,m,h1,h2,_,x,hx=>by omega
 |c+1,j,a,ks,m,h1,h2,hm,x,hx=>by
  rw[YC]at hx
  by_cases hj:m=j
  ·subst hj
   rw[if_pos hm,Nat.sub_self,XW,J8 _ _ _ _ _ _ _ _ _ _ (by simp),Nat.add_zero,Zs]at hx
   rcases B2 _ _ _ x hx with h|h
   ·cases h
   ·exact h
  ·obtain⟨d,hd⟩:∃d,m-j=d+1:=⟨m-j-1,by omega⟩
   rw[hd,XW]at hx
   split at hx
   ·rename_i hji
    refine GU fs ps ns i val c (j+1) (XT (val j) (Jn ns (fs.getD j default) a).1 (Jn ns (fs.getD j default) a).2 []).2 (ks++[(XT (val j) (Jn ns (fs.getD j default) a).1 (Jn ns (fs.getD j default) a).2 []).1]) m (by omega) (by omega) hm x ?_
    rw[show m-(j+1)=d by omega]
    simp only[List.length_append,List.length_singleton]
    rw[show ks.length+1+XW ps i d (j+1)=ks.length+(1+XW ps i d (j+1)) by omega]
    exact hx
   ·rename_i hji
    refine GU fs ps ns i val c (j+1) a ks m (by omega) (by omega) hm x ?_
    rw[Nat.zero_add]at hx
    rwa [show m-(j+1)=d by omega]
def Hg(fs:List Fd)(ns:List Int)(a:Nat)(u:Tr):Prop:=∃F b,fs.length-a≤F∧u=(ZV fs (Q0 fs) ns F a b).1
theorem GV{fs:List Fd}{ns:List Int}{p:Nat}{u:Tr}(hp:p<fs.length)(hk:(fs.getD p default).kind=0)(h:Hg fs ns p u):
 u.kids.length=XW (Q0 fs) p (fs.length-(p+1)) (p+1)∧u.txt=[]∧ ∀a,p<a→a<fs.length→(Q0 fs).getD a 0=p→ ∀x∈u.kids.getD (WC (Q0 fs) a) [],Hg fs ns a x:=by
 obtain⟨F,b,hF,rfl⟩:=h
 obtain⟨F,rfl⟩:∃F',F=F'+1:=⟨F-1,by omega⟩
 rw[ZV,if_neg (fun h=>h hk)]
 refine⟨?_,rfl,fun a h1 h2 h3 x hx=>?_⟩
 ·show(YC _ _ _ _ _ _ _ _ _).1.length=_
  rw[J9];simp
 ·have hx:x∈(YC fs (Q0 fs) ns p (ZV fs (Q0 fs) ns F) (fs.length-(p+1)) (p+1) (Zn ns b).2 []).1.getD (([]:List (List Tr)).length+XW (Q0 fs) p (a-(p+1)) (p+1)) []:=by
   have e:WC (Q0 fs) a=([]:List (List Tr)).length+XW (Q0 fs) p (a-(p+1)) (p+1):=by
    unfold WC
    rw[h3,Int.toNat_natCast,List.length_nil,Nat.zero_add]
   rw[←e];exact hx
  obtain⟨b',hb⟩:=GU _ _ _ _ _ _ _ _ _ a (by omega) (by omega) h3 x hx
  exact⟨F,b',by omega,hb⟩
theorem HI{fs:List Fd}{ns:List Int}{p:Nat}{u:Tr}(hp:p<fs.length)(h:Hg fs ns p u):u.txt.length≤12:=by
 obtain⟨F,b,hF,rfl⟩:=h
 obtain⟨F,rfl⟩:∃F',F=F'+1:=⟨F-1,by omega⟩
 rw[ZV]
 split
 ·show(JE _ _).txt.length≤12
  unfold JE
  split
  ·exact Nat.zero_le _
  ·split
   ·exact Nat.zero_le _
   ·split
    ·exact Nat.zero_le _
    ·show(Rz.take _).length≤12
     rw[List.length_take];exact Nat.le_trans (Nat.min_le_right _ _) (Nat.le_refl 12)
 ·exact Nat.zero_le _
theorem J6(ns rec:List Int):∀n a,a≤n→a<(Q2 ns).length→(Zh (Q0 (Q2 ns)) (Qc (Q2 ns) rec) a).2=true→Hg (Q2 ns) rec a (Zh (Q0 (Q2 ns)) (Qc (Q2 ns) rec) a).1
 |n,a,hn,ha,h=>by
  have hpl:(Q0 (Q2 ns)).length=(Q2 ns).length:=by rw[Q0,List.length_map,Z7]
  by_cases h0:a=0
  ·subst h0
   exact⟨(Q2 ns).length,0,by omega,rfl⟩
  ·obtain⟨n,rfl⟩:∃n',n=n'+1:=⟨n-1,by omega⟩
   have hu:=GR ns
   obtain⟨p0,p1⟩:=hu a (by omega) (by omega)
   have hst:=UP hu (Qc (Q2 ns) rec) (a:=a) (by omega) (by omega)
   rw[hst]at h ⊢
   generalize hq:Zh (Q0 (Q2 ns)) (Qc (Q2 ns) rec) ((Q0 (Q2 ns)).getD a 0).toNat=q at *
   unfold Uk at h ⊢
   by_cases h2:q.2=false
   ·rw[if_pos h2]at h;cases h
   ·rw[if_neg h2]at h ⊢
    by_cases h3:q.1.kids.getD (WC (Q0 (Q2 ns)) a) []=[]
    ·rw[if_pos h3]at h;cases h
    ·rw[if_neg h3]
     have hv:=J6 ns rec n ((Q0 (Q2 ns)).getD a 0).toNat (by omega) (by omega) (by rw[hq];simpa using h2)
     rw[hq]at hv
     obtain⟨_,_,k3⟩:=GV (by omega) (EE ha p0) hv
     refine k3 a (by omega) ha (by omega) _ ?_
     cases hl:q.1.kids.getD (WC (Q0 (Q2 ns)) a) []with
     |nil=>exact absurd hl h3
     |cons x l=>exact List.mem_cons_self ..
theorem NM(ns rec:List Int):LfOk (Q2 ns) (Qc (Q2 ns) rec):=by
 have hpl:(Q0 (Q2 ns)).length=(Q2 ns).length:=by rw[Q0,List.length_map,Z7]
 have hu:=GR ns
 refine⟨(D2 ns).len,hu,fun a ha=>?_,fun a h1 h2 h=>?_⟩
 ·by_cases h:(Zh (Q0 (Q2 ns)) (Qc (Q2 ns) rec) a).2=true
  ·have:=HI (by omega) (J6 ns rec a a (Nat.le_refl _) (by omega) h)
   omega
  ·by_cases h0:a=0
   ·subst h0;exact absurd rfl h
   ·rw[UP hu _ (by omega) ha]at h ⊢
    unfold Uk at h ⊢
    split
    ·exact Nat.zero_le _
    ·rename_i h2
     rw[if_neg h2]at h
     split
     ·exact Nat.zero_le _
     ·rename_i h3
      rw[if_neg h3]at h
      exact absurd rfl h
 ·obtain⟨p0,p1⟩:=hu a h1 h2
  have hv:=J6 ns rec _ ((Q0 (Q2 ns)).getD a 0).toNat (Nat.le_refl _) (by omega) h
  obtain⟨k1,_,_⟩:=GV (by omega) (EE (by omega) p0) hv
  rw[k1]
  have:=Pv (ps:=Q0 (Q2 ns)) (n:=(Q2 ns).length) ⟨p0,p1⟩ (by omega)
  rwa [show(((Q0 (Q2 ns)).getD a 0).toNat:Int)=(Q0 (Q2 ns)).getD a 0 by omega]
theorem Bc(x r:List UInt8):∀i,i≤x.length→Zy (x++r) i=Zy x i
 |0,_=>rfl
 |i+1,h=>by
  have ih:=Bc x r i (by omega)
  have hf:=(U5 x i).1
  have e1:(x++r).getD i 0=x.getD i 0:=by
   rw[List.getD_eq_getElem?_getD,List.getD_eq_getElem?_getD,List.getElem?_append_left (by omega)]
  have e2:((x++r).drop (Zy x i).2).take (i-(Zy x i).2)=(x.drop (Zy x i).2).take (i-(Zy x i).2):=by
   rw[List.drop_append_of_le_length (by omega),List.take_append_of_le_length (by rw[List.length_drop];omega)]
  rw[Zy,Zy,ih,e1,e2]
theorem Bd(x y:List UInt8):∀j,j≤y.length→Zy (x++46::y) (x.length+1+j)=((Zy x x.length).1++[x.drop (Zy x x.length).2]++(Zy y j).1,x.length+1+(Zy y j).2)
 |0,_=>by
  have hf:=(U5 x x.length).1
  have e1:(x++46::y).getD x.length 0=46:=by
   rw[List.getD_eq_getElem?_getD,List.getElem?_append_right (Nat.le_refl _),Nat.sub_self];rfl
  have e2:((x++46::y).drop (Zy x x.length).2).take (x.length-(Zy x x.length).2)=x.drop (Zy x x.length).2:=by
   rw[List.drop_append_of_le_length hf,List.take_append_of_le_length (by rw[List.length_drop];omega),List.take_of_length_le (by rw[List.length_drop];omega)]
  rw[Nat.add_zero]
  conv=>lhs;rw[Zy]
  rw[if_pos e1,Bc _ _ _ (Nat.le_refl _),e2]
  simp[Zy]
 |j+1,h=>by
  have ih:=Bd x y j (by omega)
  have hf:=(U5 y j).1
  have e1:(x++46::y).getD (x.length+1+j) 0=y.getD j 0:=by
   rw[List.getD_eq_getElem?_getD,List.getD_eq_getElem?_getD,List.getElem?_append_right (by omega),show x.length+1+j-x.length=j+1 by omega,List.getElem?_cons_succ]
  have e2:((x++46::y).drop (x.length+1+(Zy y j).2)).take (x.length+1+j-(x.length+1+(Zy y j).2))=(y.drop (Zy y j).2).take (j-(Zy y j).2):=by
   have e3:(x++46::y).drop (x.length+1+(Zy y j).2)=y.drop (Zy y j).2:=by
    rw[show x++46::y=(x++[46])++y by simp,show x.length+1+(Zy y j).2=(x++[46]).length+(Zy y j).2 by simp]
    rw[List.drop_append]
    simp
   rw[e3,show x.length+1+j-(x.length+1+(Zy y j).2)=j-(Zy y j).2 by omega]
  rw[show x.length+1+(j+1)=(x.length+1+j)+1 by omega,Zy,ih,e1]
  dsimp only
  rw[e2]
  conv=>rhs;rw[Zy]
  by_cases hy:y.getD j 0=46
  ·rw[if_pos hy,if_pos hy];simp;omega
  ·rw[if_neg hy,if_neg hy]
theorem Cv(x y:List UInt8):Zl (x++46::y)=Zl x++Zl y:=by
 have h:=Bd x y y.length (Nat.le_refl _)
 have hl:(x++46::y).length=x.length+1+y.length:=by simp;omega
 unfold Zl
 rw[hl,h]
 have e3:(x++46::y).drop (x.length+1+(Zy y y.length).2)=y.drop (Zy y y.length).2:=by
  rw[show x++46::y=(x++[46])++y by simp,show x.length+1+(Zy y y.length).2=(x++[46]).length+(Zy y y.length).2 by simp]
  rw[List.drop_append]
  simp
 dsimp only
 rw[e3];simp
theorem Pi:∀i,i<12→Zl (nmM i)=[nmM i]:=by decide
theorem Nam.dot{fs:List Fd}(h:Nam fs){j:Nat}(h1:1≤j)(h2:j<fs.length):Zl (fs.getD j default).name=[(fs.getD j default).name]:=by
 rcases h.at' j h1 h2 with⟨e,_⟩|⟨e,_⟩
 ·rw[e];exact Pi _ (by omega)
 ·rw[e];decide
def chN(fs:List Fd)(ps:List Int):Nat→Nat→List (List UInt8)
 |0,_=>[]
 |n+1,a=>if a=0 then[]else chN fs ps n (ps.getD a 0).toNat++[(fs.getD a default).name]
def chW(ps:List Int):Nat→Nat→List Int
 |0,_=>[]
 |n+1,a=>if a=0 then[]else chW ps n (ps.getD a 0).toNat++[(WC ps a:Int)]
theorem LN(fs:List Fd)(ps:List Int)(n:Nat):chN fs ps n 0=[]:=by cases n<;>rfl
theorem Eh(fs:List Fd)(ps:List Int):∀(n:Nat) (k:Int) (o1 o2:List UInt8),upK fs ps n k (o1++o2)=upK fs ps n k o1++o2
 |0,_,_,_=>rfl
 |n+1,k,o1,o2=>by
  rw[upK,upK]
  split
  ·rw[←List.append_assoc,Eh fs ps n]
  ·rfl
theorem Bf{fs:List Fd}(hn:Nam fs)(hu:Ups (Q0 fs)):∀(m k:Nat),k≤m→k<fs.length→ ∀out,Zl (upK fs (Q0 fs) m k out)=chN fs (Q0 fs) m k++Zl out
 |0,k,h,_,out=>rfl
 |m+1,k,h,hl,out=>by
  have hpl:(Q0 fs).length=fs.length:=by rw[Q0,List.length_map,Z7]
  by_cases h0:k=0
  ·subst h0
   rw[FF (by show(0:Int)≤0;decide),LN];rfl
  ·obtain⟨p0,p1⟩:=hu k (by omega) (by omega)
   rw[upK,if_pos (by omega),Int.toNat_natCast,List.append_assoc,Eh,List.singleton_append,Cv,chN,if_neg h0]
   have ih:=Bf hn hu m ((Q0 fs).getD k 0).toNat (by omega) (by omega) (fs.getD k default).name
   rw[show(((Q0 fs).getD k 0).toNat:Int)=(Q0 fs).getD k 0 by omega]at ih
   rw[ih,hn.dot (by omega) hl]
theorem Cu{fs:List Fd}(hn:Nam fs)(hu:Ups (Q0 fs)){a:Nat}(h1:1≤a)(hl:a<fs.length):Zl (QS fs (Q0 fs) a)=chN fs (Q0 fs) (fs.length+1) a:=by
 have hpl:(Q0 fs).length=fs.length:=by rw[Q0,List.length_map,Z7]
 obtain⟨p0,p1⟩:=hu a h1 (by omega)
 rw[QS,if_neg (by omega),Int.toNat_natCast,chN,if_neg (by omega)]
 have ih:=Bf hn hu fs.length ((Q0 fs).getD a 0).toNat (by omega) (by omega) (fs.getD a default).name
 rw[show(((Q0 fs).getD a 0).toNat:Int)=(Q0 fs).getD a 0 by omega]at ih
 rw[ih,hn.dot h1 hl]
def BG(fs:List Fd):List (List UInt8)→Nat→Nat
 |[],g=>g
 |nm::r,g=>BG fs r (wkF fs nm g (fs.length-(g+1)) 0).1
theorem DL(fs:List Fd):∀(l:List (List UInt8)) (nm:List UInt8) (g:Nat),Vx fs (l++[nm]) g=Vx fs l g++[((wkF fs nm (BG fs l g) (fs.length-(BG fs l g+1)) 0).2:Int)]∧BG fs (l++[nm]) g=(wkF fs nm (BG fs l g) (fs.length-(BG fs l g+1)) 0).1
 |[],nm,g=>⟨rfl,rfl⟩
 |x::l,nm,g=>by
  obtain⟨h1,h2⟩:=DL fs l nm (wkF fs x g (fs.length-(g+1)) 0).1
  exact⟨by rw[List.cons_append,Vx,h1];rfl,by rw[List.cons_append,BG,h2];rfl⟩
theorem Ii{fs:List Fd}(hn:Nam fs){a g:Nat}(h1:1≤a)(hl:a<fs.length)(hg:(Q0 fs).getD a 0=g):∀(d i k:Nat),i+d=a→g<i→wkF fs (fs.getD a default).name g (fs.length-i) k=(a,k+XW (Q0 fs) g d i)
 |0,i,k,h,hi=>by
  obtain rfl:i=a:=by omega
  rw[G4 hl,if_pos hg,if_pos rfl,XW,Nat.add_zero]
 |d+1,i,k,h,hi=>by
  rw[G4 (by omega),XW]
  by_cases hp:(Q0 fs).getD i 0=g
  ·rw[if_pos hp,if_neg (fun e=>by have:=hn.inj (by omega) (by omega) h1 hl e;omega),Ii hn h1 hl hg d (i+1) (k+1) (by omega) (by omega),if_pos hp]
   rw[show k+1+XW (Q0 fs) g d (i+1)=k+(1+XW (Q0 fs) g d (i+1)) by omega]
  ·rw[if_neg hp,Ii hn h1 hl hg d (i+1) k (by omega) (by omega),if_neg hp,Nat.zero_add]
theorem Ij{fs:List Fd}(hn:Nam fs)(hu:Ups (Q0 fs)):∀(n a:Nat),a≤n→a<fs.length→Vx fs (chN fs (Q0 fs) n a) 0=chW (Q0 fs) n a∧BG fs (chN fs (Q0 fs) n a) 0=a
 |0,a,h,_=>by
  obtain rfl:a=0:=by omega
  exact⟨rfl,rfl⟩
 |n+1,a,h,hl=>by
  have hpl:(Q0 fs).length=fs.length:=by rw[Q0,List.length_map,Z7]
  by_cases h0:a=0
  ·subst h0;exact⟨rfl,rfl⟩
  ·obtain⟨p0,p1⟩:=hu a (by omega) (by omega)
   obtain⟨i1,i2⟩:=Ij hn hu n ((Q0 fs).getD a 0).toNat (by omega) (by omega)
   obtain⟨w1,w2⟩:=DL fs (chN fs (Q0 fs) n ((Q0 fs).getD a 0).toNat) (fs.getD a default).name 0
   have hw:=Ii hn (a:=a) (g:=((Q0 fs).getD a 0).toNat) (by omega) hl (by omega) (a-(((Q0 fs).getD a 0).toNat+1)) (((Q0 fs).getD a 0).toNat+1) 0 (by omega) (by omega)
   rw[i2]at w1 w2
   rw[hw]at w1 w2
   rw[chN,chW,if_neg h0,if_neg h0]
   refine⟨?_,w2⟩
   rw[w1,i1]
   have hi:WC (Q0 fs) a=0+XW (Q0 fs) ((((Q0 fs).getD a 0).toNat:Nat):Int) (a-(((Q0 fs).getD a 0).toNat+1)) (((Q0 fs).getD a 0).toNat+1):=by
    rw[Nat.zero_add,show(((Q0 fs).getD a 0).toNat:Int)=(Q0 fs).getD a 0 by omega];rfl
   rw[hi]
def Pe(u:Tr×Bool):Option Tr:=if u.2=true then some u.1 else none
def DV(k:Int)(u:Tr):Option Tr:=if(u.kids.length:Int)≤k∨u.kids.getD k.toNat []=[]then none else some ((u.kids.getD k.toNat []).getD 0 default)
theorem MM:∀(w:List Int) (k:Int) (t:Tr),Yx (w++[k]) t=(Yx w t).bind (DV k)
 |[],k,t=>by
  show Yx [k] t=DV k t
  rw[Yx];unfold DV;rfl
 |x::w,k,t=>by
  rw[List.cons_append,Yx,Yx]
  split
  ·rfl
  ·exact MM w k _
theorem DQ(ps:List Int)(t:Tr):∀(n a:Nat),Yx (chW ps n a) t=Pe (Ur ps t n a)
 |0,a=>rfl
 |n+1,a=>by
  rw[chW,Ur]
  by_cases h0:a=0
  ·rw[if_pos h0,if_pos h0];rfl
  ·rw[if_neg h0,if_neg h0,MM,DQ ps t n]
   generalize Ur ps t n (ps.getD a 0).toNat=q
   obtain⟨u,is⟩:=q
   cases is with
   |false=>rfl
   |true=>
    show DV _ u=Pe (Uk (u,true) _)
    unfold DV Uk
    rw[if_neg (show ¬(u,true).2=false by simp),Int.toNat_natCast]
    by_cases hz:u.kids.getD (WC ps a) []=[]
    ·rw[if_pos (.inr hz),if_pos hz];rfl
    ·have hlt:WC ps a<u.kids.length:=by
      by_cases h:WC ps a<u.kids.length
      ·exact h
      ·exact absurd (by rw[List.getD_eq_getElem?_getD,List.getElem?_eq_none (by omega)];rfl) hz
     rw[if_neg (by rintro(h|h);omega;exact hz h),if_neg hz];rfl
theorem NS(ns:List Int)(t:Tr){c:Cd}(hw:Zj (Q2 ns) c=0):KV (Q2 ns) t c=Ko (Uj (Q2 ns) c) t:=by
 have hn:=XD ns
 have hu:=GR ns
 have hpl:(Q0 (Q2 ns)).length=(Q2 ns).length:=by rw[Q0,List.length_map,Z7]
 have h0:0≤Xp (Q2 ns) c.path:=by
  by_cases h:Xp (Q2 ns) c.path<0
  ·unfold Zj at hw;rw[if_pos h]at hw;cases hw
  ·omega
 obtain⟨k,hk,hkf,hp⟩:=Wg h0
 have hlf:Xk (Q2 ns) c=(Q3 (Q2 ns)).getD k default:=by unfold Xk;rw[hkf];rfl
 obtain⟨a,a1,a2,a3,_⟩:=Vd (W1 ns) hk
 have hv:Yx (Vy (Q2 ns) c.path) t=Pe (Zh (Q0 (Q2 ns)) t a):=by
  rw[←hp]
  unfold X7 Vy
  rw[a1,Cu hn hu a2 a3,(Ij hn hu _ a (by omega) a3).1,DQ,Ve hu t _ a (by omega) (by omega)]
 have hval:Vu (Uj (Q2 ns) c) t=(if(Zh (Q0 (Q2 ns)) t a).2=true then(⟨(Zh (Q0 (Q2 ns)) t a).1.num,(Zh (Q0 (Q2 ns)) t a).1.txt⟩,true)else(⟨0,[]⟩,false)):=by
  show(match Yx (Vy (Q2 ns) c.path) t with|some u=>((⟨u.num,u.txt⟩:Vl),true)|none=>(⟨0,[]⟩,false))=_
  rw[hv]
  generalize Zh (Q0 (Q2 ns)) t a=q
  obtain⟨u,is⟩:=q
  cases is<;>rfl
 unfold KV Ko
 rw[hval,hlf,a1,Int.toNat_natCast]
 show J4 _ _ _ c.op _ c.v=(if _∨c.op=5 then _ else opB c.op (Mf (Xk (Q2 ns) c).kind _ c.v))
 rw[hlf]
 generalize Zh (Q0 (Q2 ns)) t a=q
 obtain⟨u,is⟩:=q
 unfold J4
 cases is with
 |false=>
  by_cases h5:c.op=5
  ·simp[h5,Uj]
  ·simp[h5,Uj]
 |true=>
  by_cases h5:c.op=5
  ·simp[h5,Uj]
  ·simp[h5,Uj]
theorem N4(ns:List Int)(t:Tr):∀{cs:List Cd},Xc (Q2 ns) cs=0→Vs (Q2 ns) t cs=Mo (cs.map (Uj (Q2 ns))) t
 |[],_=>rfl
 |c::l,h=>by
  rw[Xc]at h
  by_cases hc:Zj (Q2 ns) c=0
  ·rw[if_pos hc]at h
   rw[Vs,List.map_cons,Mo,NS ns t hc,N4 ns t h]
  ·rw[if_neg hc]at h;exact absurd h hc
theorem Nb(ns:List Int)(t:Tr)(cs:List Cd):U4 (Q2 ns) t cs=ZC (Q2 ns) t cs:=by
 unfold U4 ZC
 by_cases h:Z0 (Q2 ns) cs=0
 ·rw[if_pos h,if_pos h]
  unfold Y5
  rw[if_pos h]
  unfold Z0 at h
  split at h
  ·cases h
  ·exact N4 ns t h
 ·rw[if_neg h,if_neg h]
end Go.Proofs.YtekipcaifckffaaGreat
