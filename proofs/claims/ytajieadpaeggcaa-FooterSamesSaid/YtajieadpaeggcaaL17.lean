/-
  What 'Make' makes may be:nothing is wrong with it. Plain. Made descriptions may be written and read. Plain. Made descriptions,with records,may be written and read. Plain. A file's description with one number that may not be. Plain. What is the same;one thing turned. Plain. Made descriptions:each group has a chunk,each chunk a page. Plain. Calls ahead of which the caller's own memory is seen as written no more.
-/
import Derived.Test.YtajieadpaeggcaaL16
import Derived.Test.YtajieadpaeggcaaL3
import Derived.Test.YtajieadpaeggcaaL10
import Derived.Test.YtajieadpaeggcaaL14
set_option linter.unusedVariables false
set_option linter.unusedSimpArgs false
namespace Go.Proofs.Ytajieadpaeggcaa
open Go Go.Av
theorem G4{a c:Int}{t:Stk}(h:0<c):Zr ((a,c)::t)=(a,c)::t:=by rw[Zr,if_neg (by omega)]
theorem G5{a c:Int}{t:Stk}(h:c≤0):Zr ((a,c)::t)=Zr t:=by rw[Zr,if_pos h]
theorem FX:∀{st:Stk},Zr st=[]→YB st=false
 |[],_=>rfl
 |(a,c)::t,h=>by
  by_cases hc:0<c
  ·rw[G4 hc]at h;cases h
  ·rw[G5 (by omega)]at h
   have:=FX h
   rw[YB]at this ⊢
   rw[List.any_cons,this,decide_eq_false hc];rfl
theorem Lx{d k:Nat}{l:List Fd}(h:Fo d k l):∀(i:Nat) (a c:Int) (st' st:Stk) (rest:List Fd),(k:Int)≤c→0≤a→d=st'.length+1→Zr st=Zr ((a,c)::st')→
 ∃rows st2,Xo (l++rest) i st=rows++Xo rest (i+l.length) st2∧(∀p∈rows,(0:Int)≤p.1∧p.2≤8)∧WT (l++rest) i st=WT rest (i+l.length) st2∧Zr st2=Zr ((a,c-k)::st'):=by
 induction h with
 |nil=>
  intro i a c st' st rest hc ha hd hp
  exact⟨[],st,rfl,fun p hp=>(nomatch hp),rfl,by rw[hp];simp⟩
 |leaf hd hf hk h0 h ih=>
  rename_i d k f l
  intro i a c st' st rest hc ha hdl hp
  have hc0:0<c:=by omega
  rw[G4 hc0]at hp
  obtain⟨rows,st2,h1,h2,h3,h4⟩:=ih (i+1) a (c-1) st' ((a,c-1)::st') rest (by omega) ha hdl rfl
  refine⟨(a,(st'.length:Int)+1)::rows,st2,?_,?_,?_,?_⟩
  ·rw[List.cons_append,Xo,hp,Zo,if_neg hk]
   show(a,(((a,c)::st').length:Int))::Xo (l++rest) (i+1) ((a,c-1)::st')=_
   rw[h1,List.length_cons,List.length_cons,show i+1+l.length=i+(l.length+1) by omega]
   simp
  ·intro p hp
   rcases List.mem_cons.1 hp with rfl|hp
   ·exact⟨ha,by simp only;omega⟩
   ·exact h2 p hp
  ·rw[List.cons_append,WT,hp,Zo,if_neg hk]
   show WT (l++rest) (i+1) ((a,c-1)::st')=_
   rw[h3,List.length_cons,show i+1+l.length=i+(l.length+1) by omega]
  ·rw[h4,show c-1-(k:Int)=c-((k+1:Nat):Int) by omega]
 |group hd hf hk hm hpos h1 h2 ih1 ih2=>
  rename_i d k m f l1 l2
  intro i a c st' st rest hc ha hdl hp
  have hc0:0<c:=by omega
  rw[G4 hc0]at hp
  obtain⟨r1,s1,a1,a2,a3,a4⟩:=ih1 (i+1) i m ((a,c-1)::st') (((i:Int),(m:Int))::(a,c-1)::st') (l2++rest) (Int.le_refl _) (by omega) (by simp;omega) rfl
  rw[G5 (by omega)]at a4
  obtain⟨r2,s2,b1,b2,b3,b4⟩:=ih2 (i+1+l1.length) a (c-1) st' s1 rest (by omega) ha hdl a4
  refine⟨(a,(st'.length:Int)+1)::(r1++r2),s2,?_,?_,?_,?_⟩
  ·rw[List.cons_append,Xo,hp,Zo,if_pos hk,hm]
   show(a,(((a,c)::st').length:Int))::Xo (l1++l2++rest) (i+1) (((i:Int),(m:Int))::(a,c-1)::st')=_
   rw[List.append_assoc,a1,b1,List.length_cons,List.length_cons,List.length_append,show i+1+l1.length+l2.length=i+(l1.length+l2.length+1) by omega]
   simp
  ·intro p hp
   rcases List.mem_cons.1 hp with rfl|hp
   ·exact⟨ha,by simp only;omega⟩
   ·rcases List.mem_append.1 hp with hp|hp
    ·exact a2 p hp
    ·exact b2 p hp
  ·rw[List.cons_append,WT,hp,Zo,if_pos hk,hm]
   show WT (l1++l2++rest) (i+1) (((i:Int),(m:Int))::(a,c-1)::st')=_
   rw[List.append_assoc,a3,b3,List.length_cons,List.length_append,show i+1+l1.length+l2.length=i+(l1.length+l2.length+1) by omega]
  ·rw[b4,show c-1-(k:Int)=c-((k+1:Nat):Int) by omega]
theorem Gg(fs:List Fd)(a:Nat):(Xq fs a).map (·.name)=fs.map (·.name):=by
 unfold Xq
 apply List.ext_getElem?
 intro i
 simp only[List.getElem?_map,List.getElem?_set]
 by_cases h:a=i
 ·subst h
  by_cases hl:a<fs.length
  ·simp[hl]
  ·simp[hl]
 ·simp[h]
def CY(j:Nat):List UInt8:=if j=0 then[109]else nmM (j-1)
theorem Ma{ns:List Int}:∀(n i:Nat) (fs:List Fd) (op:List Int),fs.map (·.name)=(List.range (i+1)).map CY→i≤12→ ∃m,m≤13∧(XN ns n i fs op).1.map (·.name)=(List.range m).map CY
 |0,i,fs,op,h,hi=>⟨i+1,by omega,h⟩
 |n+1,i,fs,op,h,hi=>by
  rw[XN]
  split
  ·rename_i hc
   refine Ma n (i+1) _ _ ?_ (by omega)
   show(XM fs op i (ns.getD i 0)).1.map (·.name)=_
   unfold XM
   simp only[List.map_append,Gg,h]
   rw[List.range_succ (n:=i+1),List.map_append]
   rfl
  ·exact⟨i+1,by omega,h⟩
theorem Bb(ns:List Int):∃m,m≤13∧((QD ns).map (·.name)=(List.range m).map CY∨(QD ns).map (·.name)=(List.range m).map CY++[[122]]):=by
 obtain⟨m,hm,h⟩:=Ma (ns:=ns) 12 0 [⟨[109],0,0,0⟩] [0] rfl (by decide)
 refine⟨m,hm,?_⟩
 rw[QD]
 generalize(XN ns 12 0 [⟨[109],0,0,0⟩] [0])=r at *
 show(Ym r.1 r.2).map _=_∨(Ym r.1 r.2).map _=_
 unfold Ym
 split
 ·right
  rw[List.map_append,Gg,h];rfl
 ·left;exact h
theorem Hs:∀m,m≤13→((List.range m).map CY).Nodup∧((List.range m).map CY++[[122]]).Nodup:=by decide
theorem D4{fs:List Fd}(h:(fs.map (·.name)).Nodup){i k:Nat}(hi:i<fs.length)(hk:k<i):(fs.getD k default).name≠(fs.getD i default).name:=by
 intro e
 have hkl:k<fs.length:=by omega
 have:=List.pairwise_iff_getElem.1 h k i (by rw[List.length_map];exact hkl) (by rw[List.length_map];exact hi) hk
 apply this
 simp only[List.getElem_map]
 simp only[List.getD_eq_getElem?_getD,List.getElem?_eq_getElem hkl,List.getElem?_eq_getElem hi,Option.getD_some]at e
 exact e
theorem LC(s t:List UInt8):eqb s t=decide (s=t):=by
 letI:Syms:=⟨fun _=>.int .i64 0,fun _=>⟨rfl,rfl⟩,fun _=>⟨_,rfl⟩⟩
 exact Gy s t
theorem Je{fs:List Fd}:∀n i,(∀j,i≤j→j<i+n→Wa fs (Qu fs) j ((XW fs).getD j 0)=0)→ZJ fs i n=0
 |0,_,_=>rfl
 |n+1,i,h=>by
  have h0:=h i (Nat.le_refl _) (by omega)
  rw[ZJ,if_neg (fun x=>x h0)]
  exact Je n (i+1) fun j h1 h2=>h j (by omega) (by omega)
theorem I7{f:Fd}(h:FOk f):WJ f.name=true:=by
 have hne:f.name≠[]:=fun e=>by have:=h.name;rw[e]at this;cases this
 rw[←Hu ⟨hne,.inl h.sign⟩]
 exact h.name
theorem Fo.kids{d k:Nat}{l:List Fd}(h:Fo d k l):∀f∈l,(f.kind=0→1≤f.kids)∧(f.kind≠0→f.kids=0):=by
 induction h with
 |nil=>intro f hf;cases hf
 |leaf hd hf hk h0 h ih=>
  intro g hg
  rcases List.mem_cons.1 hg with rfl|hg
  ·exact⟨fun h=>absurd h hk,fun _=>h0⟩
  ·exact ih g hg
 |group hd hf hk hm hp h1 h2 ih1 ih2=>
  intro g hg
  rcases List.mem_cons.1 hg with rfl|hg
  ·exact⟨fun _=>by omega,fun h=>absurd hk h⟩
  ·rcases List.mem_append.1 hg with hg|hg
   ·exact ih1 g hg
   ·exact ih2 g hg
theorem Gd(ns:List Int):Z8 (QD ns)=0:=by
 obtain⟨f,l,k,hs,hf,hk,hr,hm,hp,h⟩:=Ce ns
 have hl:=WK ns
 obtain⟨m,hm13,hnm⟩:=Bb ns
 have hnd:((QD ns).map (·.name)).Nodup:=by
  obtain⟨h1,h2⟩:=Hs m hm13
  rcases hnm with e|e
  ·rw[e];exact h1
  ·rw[e];exact h2
 clear hnm
 have hT:Fo 0 1 (f::l):=by
  have:=Fo.group (d:=0) (k:=0) (by decide) hf hk hm hp h .nil
  rwa [List.append_nil]at this
 rw[hs]at hl hnd ⊢
 obtain⟨rows,st2,h1,h2,h3,h4⟩:=Lx h 1 0 k [] [(0,(k:Int))] [] (Int.le_refl _) (Int.le_refl _) rfl rfl
 rw[List.append_nil]at h1 h3
 rw[G5 (by omega)]at h4
 have hw:Xo (f::l) 0 []=(-1,0)::rows:=by
  rw[Xo]
  show(-1,0)::Xo l 1 (Zo 0 f [])=_
  rw[Zo,if_pos hk,hm]
  show(-1,0)::Xo l 1 [(0,(k:Int))]=_
  rw[h1];simp[Xo]
 have hfin:WT (f::l) 0 []=st2:=by
  rw[WT]
  show WT l 1 (Zo 0 f [])=_
  rw[Zo,if_pos hk,hm]
  show WT l 1 [(0,(k:Int))]=_
  rw[h3];rfl
 have hrl:rows.length=l.length:=by
  have:=Wi (f::l) 0 []
  rw[hw]at this
  simpa using this
 have hat:∀i,i<(f::l).length→(f::l).getD i default∈f::l:=fun i hi=>by rw[List.getD_eq_getElem?_getD,List.getElem?_eq_getElem hi];exact List.getElem_mem _
 unfold Z8
 rw[if_neg (by simp at hl ⊢;omega)]
 have hz:ZJ (f::l) 0 (f::l).length=0:=by
  refine Je _ _ fun j _ hj=>?_
  rw[Nat.zero_add]at hj
  have hfo:=hT.all _ (hat j hj)
  have hkd:=hT.kids _ (hat j hj)
  have htw:JJ (f::l) (Qu (f::l)) j=false:=by
   unfold JJ
   rw[List.any_eq_false]
   intro q hq
   have hq:=List.mem_range.1 hq
   have hne:=D4 hnd hj hq
   unfold WY
   rw[LC,decide_eq_false hne]
   simp
  have hpd:(0<j→0≤(Qu (f::l)).getD j 0)∧(XW (f::l)).getD j 0≤8:=by
   rw[Qu,XW,hw]
   cases j with
   |zero=>exact⟨fun h=>absurd h (by decide),show(0:Int)≤8 by decide⟩
   |succ j=>
    have hjr:j<rows.length:=by rw[hrl];simpa using hj
    have hmem:rows[j]∈rows:=List.getElem_mem _
    have:=h2 _ hmem
    simp only[List.map_cons,List.getD_cons_succ]
    simp only[List.getD_eq_getElem?_getD,List.getElem?_map,List.getElem?_eq_getElem hjr,Option.map_some,Option.getD_some]
    exact⟨fun _=>this.1,this.2⟩
  have h0:j=0→((f::l).getD j default).rep=0∧((f::l).getD j default).kind=0:=fun e=>by subst e;exact⟨hr,hk⟩
  unfold Wa
  rw[htw,I7 hfo]
  have hR:=hfo.rep
  have hK:=hfo.kind
  generalize(f::l).getD j default=F at *
  unfold Iw
  rw[if_neg (by omega),if_neg (by omega),if_neg (by simp),if_neg (by omega),if_neg (by omega),if_neg (by omega)]
 rw[hz,if_neg (fun h=>h rfl),hfin,FX h4]
 rfl
theorem GC(fs:List Fd):∀(n i:Nat),ZJ fs i n=0→ ∀j,i≤j→j<i+n→Wa fs (Qu fs) j ((XW fs).getD j 0)=0
 |0,i,_,j,h1,h2=>by omega
 |n+1,i,h,j,h1,h2=>by
  rw[ZJ]at h
  split at h
  ·rename_i hne;exact absurd h hne
  ·rename_i he
   rcases Nat.lt_or_ge i j with h3|h3
   ·exact GC fs n (i+1) h j (by omega) (by omega)
   ·obtain rfl:j=i:=by omega
    exact Decidable.not_not.1 he
theorem LP{f:Fd}{i:Nat}{par dep:Int}{nm tw:Bool}(h:Iw f i par dep nm tw=0):nm=true∧(0≤f.rep∧f.rep≤2)∧(0≤f.kind∧f.kind≤4)∧0≤f.kids:=by
 unfold Iw at h
 split at h
 ·cases h
 split at h
 ·cases h
 split at h
 ·cases h
 rename_i h1
 split at h
 ·cases h
 rename_i h2
 split at h
 ·cases h
 split at h
 ·cases h
 rename_i h3
 refine⟨?_,?_,?_,?_⟩
 ·cases nm
  ·exact absurd (.inl rfl) h1
  ·rfl
 ·omega
 ·omega
 ·by_cases hk:f.kind=0<;>omega
theorem F6(ns:List Int):∀f∈QD ns,SbOk f:=by
 have hc:=Gd ns
 have hl:=WK ns
 have hfrom:ZJ (QD ns) 0 (QD ns).length=0:=by
  unfold Z8 at hc
  split at hc
  ·cases hc
  ·split at hc
   ·rename_i h;exact absurd hc h
   ·rename_i h;exact Decidable.not_not.1 h
 intro f hf
 obtain⟨i,hi,rfl⟩:=List.mem_iff_getElem.1 hf
 have:=GC _ _ 0 hfrom i (Nat.zero_le _) (by omega)
 have hge:(QD ns).getD i default=(QD ns)[i]:=by rw[List.getD_eq_getElem?_getD,List.getElem?_eq_getElem hi];rfl
 have hk:=Mo ns i
 unfold Wa at this
 rw[hge]at this hk
 obtain⟨h1,h2,h3,h4⟩:=LP this
 have hn:(QD ns)[i].name.length≤12:=by
  unfold WJ at h1
  simp only[Bool.and_eq_true,decide_eq_true_eq]at h1
  exact h1.1.1.2
 exact⟨⟨h2.1,by omega⟩,⟨h3.1,by omega⟩,⟨h4,by omega⟩,hn⟩
theorem JI(n:Nat):(Q04 n).length≤10:=FU 9 n
theorem EZ{f:Fd}(h:SbOk f):(ND f).length≤34:=by
 have h1:=JI f.kids.toNat
 have h2:=JI f.name.length
 have h3:=h.name
 simp only[ND,List.length_append,Cg];omega
theorem BO:∀{l:List Fd},(∀f∈l,SbOk f)→(sbL l).length≤34*l.length
 |[],_=>by simp[sbL]
 |f::l,h=>by
  have h1:=EZ (h f (List.mem_cons_self ..))
  have h2:=BO (l:=l) fun g hg=>h g (List.mem_cons_of_mem _ hg)
  rw[sbL,List.length_append,List.length_cons];omega
theorem HF(ns:List Int):(sbF (QD ns)).length≤600:=by
 have h1:=BO (F6 ns)
 have h2:=WK ns
 have h3:=JI (QD ns).length
 rw[sbF,List.length_append];omega
theorem Q07(x:Int):GV (wr .u32 x):=by
 unfold GV wr
 split
 ·rename_i h
  have h1:(0:Int)≤x:=h.1
  have h2:x≤(4294967295:Int):=h.2
  omega
 ·show(0:Int)≤(if(false&&decide (x%(2^32:Int)≥(2^31:Int)))=true then x%(2^32:Int)-(2^32:Int)else x%(2^32:Int))∧(if(false&&decide (x%(2^32:Int)≥(2^31:Int)))=true then x%(2^32:Int)-(2^32:Int)else x%(2^32:Int))<4294967296
  simp;omega
theorem Po(x:Int):-2147483648≤wr .i32 x∧wr .i32 x≤2147483647:=by
 unfold wr
 split
 ·rename_i h
  have h1:(-2147483648:Int)≤x:=h.1
  have h2:x≤(2147483647:Int):=h.2
  omega
 ·show(-2147483648:Int)≤(if(true&&decide (x%(2^32:Int)≥(2^31:Int)))=true then x%(2^32:Int)-(2^32:Int)else x%(2^32:Int))∧(if(true&&decide (x%(2^32:Int)≥(2^31:Int)))=true then x%(2^32:Int)-(2^32:Int)else x%(2^32:Int))≤(2147483647:Int)
  split<;>rename_i h3<;>simp at h3<;>omega
theorem OJ(g:Int){r:Int}(h:1≤r∧r≤20):PgG (pgM g r):=by
 have h9:=XL (a:=g) (n:=9) (by decide)
 have h2:=XL (a:=g) (n:=2) (by decide)
 have h3:=XL (a:=dv g 2) (n:=300) (by decide)
 have h4:=XL (a:=dv g 5) (n:=300) (by decide)
 have h5:=XL (a:=dv g 9) (n:=3000) (by decide)
 exact⟨⟨by show 0≤r;omega,by show r≤_;omega⟩,⟨by show 0≤r+wi g 9;omega,by show r+wi g 9≤_;omega⟩,⟨h2.1,by show wi g 2≤_;omega⟩,⟨h3.1,by show wi (dv g 2) 300≤_;omega⟩,⟨h4.1,by show wi (dv g 5) 300≤_;omega⟩,⟨h5.1,by show wi (dv g 9) 3000≤_;omega⟩,Q07 _⟩
theorem Uf(g:Int):∀(f:Nat) (left:Int),∀p∈Zk g f left,∃r,(1≤r∧r≤20)∧p=pgM g r
 |0,_,p,h=>nomatch h
 |f+1,left,p,h=>by
  rw[Zk]at h
  split at h
  ·rename_i hl
   have:=UB (g:=g) hl
   rcases List.mem_cons.1 h with rfl|h
   ·exact⟨_,⟨this.1,this.2.2⟩,rfl⟩
   ·exact Uf g f _ p h
  ·exact nomatch h
theorem J4(g:Int):∀(f:Nat) (left:Int),0≤left→left≤f→Xl (·.rows) (Zk g f left)=left∧left≤Xl (·.cells) (Zk g f left)
 |0,left,h1,h2=>by
  have:left=0:=by omega
  subst this;exact⟨rfl,Int.le_refl _⟩
 |f+1,left,h1,h2=>by
  by_cases hl:0<left
  ·have hs:=UB (g:=g) hl
   obtain⟨i1,i2⟩:=J4 g f (left-Xp g left) (by omega) (by omega)
   have h9:=XL (a:=g) (n:=9) (by decide)
   rw[Y3 hl]
   refine⟨?_,?_⟩
   ·show Xp g left+Xl (·.rows) _=left
    rw[i1];omega
   ·show left≤Xp g left+wi g 9+Xl (·.cells) _
    omega
  ·have:left=0:=by omega
   subst this
   rw[Ug hl];exact⟨rfl,Int.le_refl _⟩
theorem Jo(f:Pg→Int)(h:∀p,f (d2 p)=f p):∀l:List Pg,Xl f (l.map d2)=Xl f l
 |[]=>rfl
 |p::l=>by show f (d2 p)+Xl f (l.map d2)=_;rw[h,Jo f h l];rfl
theorem Ps{p:Pg}(h:PgG p):PgG (d2 p):=⟨h.n1,h.n2,⟨by show(0:Int)≤2;decide,by show(2:Int)≤1048576;decide⟩,h.n4,h.n5,h.n6,h.crc⟩
structure CkM(g:Int)(c:Ck):Prop where
 n1:0≤c.words∧c.words≤256
 n2:0≤c.size∧c.size≤9000
 crc:GV c.crc
 len:c.pages.length≤40
 pages:∀p∈c.pages,PgG p∧0<p.rows
 rows:Xl (·.rows) c.pages=nM g
 cells:nM g≤Xl (·.cells) c.pages
 dict:(∀p∈c.pages,p.enc=2)∨c.words=0∧c.size=0
theorem Iv(g:Int)(k:Nat):CkM g (XK g k)∧(XK g k).st=default:=by
 have hn:=U3 g
 have hr:=J4 g 40 (nM g) (by omega) (by omega)
 have hm:=Uf g 40 (nM g)
 have hl:=XY g 40 (nM g)
 have h1:=XL (a:=g) (n:=257) (by decide)
 have h2:=XL (a:=dv g 13) (n:=9000) (by decide)
 have hg:∀p∈Zk g 40 (nM g),PgG p∧0<p.rows:=fun p hp=>by
  obtain⟨r,h,rfl⟩:=hm p hp
  exact⟨OJ g h,show 0<r by omega⟩
 unfold XK
 split
 ·refine⟨⟨⟨h1.1,by show wi g 257≤_;omega⟩,⟨h2.1,by show wi (dv g 13) 9000≤_;omega⟩,Q07 _,by rw[List.length_map];exact hl,fun p hp=>?_,(Jo (·.rows) (fun _=>rfl) _).trans hr.1,?_,.inl fun p hp=>?_⟩,rfl⟩
  ·obtain⟨q,hq,rfl⟩:=List.mem_map.1 hp
   exact⟨Ps (hg q hq).1,(hg q hq).2⟩
  ·show nM g≤Xl (·.cells) ((Zk g 40 (nM g)).map d2)
   rw[Jo (·.cells) (fun _=>rfl)];exact hr.2
  ·obtain⟨q,hq,rfl⟩:=List.mem_map.1 hp;rfl
 ·exact⟨⟨⟨Int.le_refl _,by show(0:Int)≤256;decide⟩,⟨Int.le_refl _,by show(0:Int)≤9000;decide⟩,⟨Int.le_refl _,by show(0:Int)<4294967296;decide⟩,hl,hg,hr.1,hr.2,.inr ⟨rfl,rfl⟩⟩,rfl⟩
theorem Ls(k:Int){v:Vl}(h:I64 v.n):VlG k (Qo k v):=by
 unfold Qo VlG
 split
 ·rename_i h1
  have:=XL (a:=v.n) (n:=2) (by decide)
  exact .inl ⟨h1,by show wi v.n 2=0∨wi v.n 2=1;omega,rfl⟩
 ·split
  ·rename_i h1 h2;exact .inr (.inl ⟨h2,Po _,rfl⟩)
  ·split
   ·rename_i h1 h2 h3;exact .inr (.inr (.inl ⟨h3,h,rfl⟩))
   ·rename_i h1 h2 h3;exact .inr (.inr (.inr ⟨⟨h1,h2,h3⟩,rfl,by show(v.s.take 100).length≤100;rw[List.length_take];omega⟩))
structure CkN(g kd:Int)(c:Ck):Prop where
 m:CkM g c
 st:c.st=default∨c.known=true∧(0≤c.st.nulls∧c.st.nulls≤nM g)∧c.st.has=true∧c.st.mn=c.st.mx∧VlG kd c.st.mn
theorem Iu(g:Int)(k:Nat)(kd:Int){l:List Vl}(hl:∀v∈l,I64 v.n)(a:Nat):CkN g kd (QA g k kd l a).1:=by
 have h0:=Iv g k
 have hn:=U3 g
 unfold QA
 split
 ·rename_i h
  have hw:=XL (a:=g) (n:=nM g+1) (by omega)
  refine⟨⟨h0.1.n1,h0.1.n2,h0.1.crc,h0.1.len,h0.1.pages,h0.1.rows,h0.1.cells,h0.1.dict⟩,.inr ⟨h.1,⟨hw.1,by show wi g (nM g+1)≤_;omega⟩,rfl,rfl,?_⟩⟩
  refine Ls kd ?_
  have hm:=Nat.mod_lt a h.2
  rw[List.getD_eq_getElem?_getD,List.getElem?_eq_getElem hm]
  exact hl _ (List.getElem_mem hm)
 ·exact⟨h0.1,.inl h0.2⟩
theorem MJ(g:Int){l:List Vl}(hl:∀v∈l,I64 v.n):∀(ks:List Int) (k a i:Nat),i<ks.length→CkN g (ks.getD i 0) ((QZ g l ks k a).1.getD i default)
 |[],k,a,i,h=>by simp at h
 |kd::ks,k,a,0,_=>Iu g k kd hl a
 |kd::ks,k,a,i+1,h=>MJ g hl ks (k+1) _ i (by simpa using h)
theorem Vr(ks:List Int)(l:List Vl):∀(gs:List Int) (a:Nat),∀r∈(Ze ks l gs a).1,∃g a',r=⟨nM g,(QZ g l ks 0 a').1⟩
 |[],a,r,h=>nomatch h
 |g::gs,a,r,h=>by
  rw[Ze]at h
  rcases List.mem_cons.1 h with rfl|h
  ·exact⟨g,a,rfl⟩
  ·exact Vr ks l gs _ r h
theorem Vs(ks:List Int)(l:List Vl):∀(gs:List Int) (a:Nat),(Ze ks l gs a).1.length=gs.length
 |[],a=>rfl
 |g::gs,a=>by rw[Ze,List.length_cons,Vs ks l gs,List.length_cons]
theorem J5(ks:List Int)(l:List Vl):∀(gs:List Int) (a:Nat),(gs.length:Int)≤Z5 (Ze ks l gs a).1∧Z5 (Ze ks l gs a).1≤40*(gs.length:Int)
 |[],a=>⟨Int.le_refl 0,Int.le_refl 0⟩
 |g::gs,a=>by
  have ih:=J5 ks l gs (QZ g l ks 0 a).2
  have:=U3 g
  rw[Ze,List.length_cons]
  show _≤nM g+Z5 _∧nM g+Z5 _≤_
  omega
theorem CkN.g{g kd:Int}{c:Ck}(h:CkN g kd c):CkG kd c:=by
 have hn:=U3 g
 obtain⟨hm,hs⟩:=h
 refine⟨⟨hm.n1.1,by have:=hm.n1.2;omega⟩,⟨hm.n2.1,by have:=hm.n2.2;omega⟩,hm.crc,by have:=hm.len;omega,fun p hp=>(hm.pages p hp).1,fun hk=>?_,fun hk=>?_,fun hk hh=>?_,fun hk hh=>?_⟩
 ·rcases hs with h|⟨h,_⟩
  ·exact h
  ·rw[hk]at h;cases h
 ·rcases hs with h|⟨_,h,_⟩
  ·rw[h];exact⟨Int.le_refl _,by show(0:Int)≤1048576;decide⟩
  ·exact⟨h.1,by omega⟩
 ·rcases hs with h|⟨_,_,h,_⟩
  ·rw[h];exact⟨rfl,rfl⟩
  ·rw[hh]at h;cases h
 ·rcases hs with h|⟨_,_,_,h1,h2⟩
  ·rw[h]at hh;cases hh
  ·exact⟨h2,h1▸h2⟩
theorem VA:∀s:List UInt8,Op.bytesLess s s=false
 |[]=>rfl
 |a::s=>by
  have:=VA s
  unfold Op.bytesLess
  simp[this]
theorem MH(kd:Int)(v:Vl):0≤Fs kd v v:=by
 unfold Fs
 split
 ·unfold Io
  rw[VA,UT];decide
 ·unfold In
  rw[if_neg (Int.lt_irrefl _),if_neg (Int.lt_irrefl _)];decide
theorem CkN.w{g kd:Int}{c:Ck}(h:CkN g kd c):W2 kd (nM g) c=true:=by
 obtain⟨hm,hs⟩:=h
 have hn:=U3 g
 have h1:c.pages.all (fun p=>decide (p.rows≠0))=true:=List.all_eq_true.2 fun p hp=>decide_eq_true (by have:=(hm.pages p hp).2;omega)
 have h2:(c.pages.all (fun p=>decide (p.enc=2))||decide (c.words=0∧c.size=0))=true:=by
  rcases hm.dict with h|h
  ·rw[List.all_eq_true.2 fun p hp=>decide_eq_true (h p hp)];rfl
  ·rw[decide_eq_true h,Bool.or_true]
 have h3:(decide (c.st.nulls≤Xl (·.cells) c.pages)&&decide (0≤Fs kd c.st.mx c.st.mn))=true:=by
  have hc:=hm.cells
  rcases hs with h|⟨_,h,_,h4,_⟩
  ·rw[h,decide_eq_true (show(default:Sta).nulls≤_ from by show(0:Int)≤_;omega),decide_eq_true (show 0≤Fs kd (default:Sta).mx (default:Sta).mn from MH kd _)];rfl
  ·rw[h4,decide_eq_true (by omega),decide_eq_true (MH kd _)];rfl
 unfold W2
 rw[h1,h2,h3,decide_eq_true hm.rows,decide_eq_true hm.n1.2]
 simp
theorem Cf(ns gs:List Int){l:List Vl}(hl:∀v∈l,I64 v.n):MtG (W6 ns gs l):=by
 have hs:=J5 (XZ (QD ns)) l (gs.take 4) 0
 have h4:(gs.take 4).length≤4:=by rw[List.length_take];omega
 refine⟨F6 ns,by have:=WK ns;show(QD ns).length≤40;omega,Gd ns,by have:=HF ns;show(sbF (QD ns)).length≤2000;omega,⟨by show 0≤Z5 (Ze (XZ (QD ns)) l (gs.take 4) 0).1;omega,by show Z5 (Ze (XZ (QD ns)) l (gs.take 4) 0).1≤_;omega⟩,by show(Ze (XZ (QD ns)) l (gs.take 4) 0).1.length≤200;rw[Vs];omega,fun r hr=>?_⟩
 obtain⟨g,a,rfl⟩:=Vr _ _ _ _ r hr
 have hn:=U3 g
 exact⟨⟨by show 0≤nM g;omega,by show nM g≤_;omega⟩,Wp ..,fun i hi=>(MJ g hl _ 0 a i (by rw[Wp]at hi;exact hi)).g⟩
theorem Xu{x:Int}(h:Vd x):Vc x:=⟨h.1,Int.lt_of_le_of_lt h.2 (by show(1048576:Int)<128^9;decide)⟩
theorem Lm(ns gs:List Int){l:List Vl}(hl:∀v∈l,I64 v.n):MtB (W6 ns gs l):=by
 have hg:=Cf ns gs hl
 have h4:(gs.take 4).length≤4:=by rw[List.length_take];omega
 refine⟨F7 ns,fun f hf=>by
  obtain⟨h1,h2,h3,h4⟩:=F6 ns f hf
  exact⟨⟨h1.1,by omega⟩,⟨h2.1,by omega⟩,h3.1,by omega⟩,Xu hg.n,by have:=hg.len;omega,fun r hr=>?_⟩
 have hr2:=hg.groups r hr
 refine⟨Xu hr2.n,?_,fun c hc=>?_⟩
 ·rw[hr2.len];exact Nat.le_of_eq (List.length_map ..)
 ·obtain⟨i,hi,rfl⟩:=List.mem_iff_getElem.1 hc
  have h:=hr2.chunks i hi
  rw[show r.chunks.getD i default=r.chunks[i] from by rw[List.getD_eq_getElem?_getD,List.getElem?_eq_getElem hi];rfl]at h
  refine⟨Xu h.n1,Xu h.n2,h.crc,?_,fun p hp=>?_,by have:=h.len;omega⟩
  ·cases hk:r.chunks[i].known with
   |false=>rw[h.st0 hk];exact⟨Int.le_refl _,by show(0:Int)<128^9;decide⟩
   |true=>exact Xu (h.nulls hk)
  ·have:=h.pages p hp
   exact⟨Xu this.n1,Xu this.n2,Xu this.n3,Xu this.n4,Xu this.n5,Xu this.n6,this.crc⟩
theorem Ll(ns gs:List Int){l:List Vl}(hl:∀v∈l,I64 v.n):MtS (W6 ns gs l):=by
 have hg:=Cf ns gs hl
 have hb:=Lm ns gs hl
 have h0:=WK ns
 have hk:(QP (QD ns)).length≤(QD ns).length:=Zs _ _ _
 refine⟨by show(QD ns).length≤1000000;omega,by have:=hg.len;omega,fun g hgm=>⟨?_,fun c hc=>?_⟩⟩
 ·have:=(hb.groups g hgm).len
  have h1:(QP (W6 ns gs l).s).length≤(QD ns).length:=hk
  omega
 ·have:=((hb.groups g hgm).chunks c hc).len
  omega
structure TurnOk(m:Mt):Prop where
 g:MtG m
 one:∀g∈m.groups,∃c cs p ps,g.chunks=c::cs∧c.pages=p::ps
 few:∀g∈m.groups,∀c∈g.chunks,Xl (·.cells) c.pages<5000
 low:∀g∈m.groups,∀c∈g.chunks,c.pages.length≤40∧ ∀p∈c.pages,p.rows≤20
 bytes:MtB m
 whole:W0 m=true
 sl:(sbF m.s).length≤600
 gl:m.groups.length≤4
theorem Ly{d k:Nat}{l:List Fd}(h:Fo d k l):0<k→ ∃i,i<l.length∧(l.getD i default).kind≠0:=by
 induction h with
 |nil=>intro h;omega
 |leaf hd hf hk h0 h ih=>intro _;exact⟨0,Nat.succ_pos _,hk⟩
 |group hd hf hk hm hp h1 h2 ih1 ih2=>
  intro _
  obtain⟨i,hi,h⟩:=ih1 hp
  refine⟨i+1,by simp;omega,?_⟩
  simp only[List.getD_eq_getElem?_getD,List.getElem?_cons_succ]at h ⊢
  rw[List.getElem?_append_left hi];exact h
theorem E0(ns:List Int):0<(XZ (QD ns)).length:=by
 obtain⟨f,l,k,hs,hf,hk,hr,hm,hp,h⟩:=Ce ns
 obtain⟨i,hi,h1⟩:=Ly h hp
 have h2:=(D8 (fs:=QD ns) (ps:=Qu (QD ns)) (i:=i+1) (n:=(QD ns).length) (by rw[hs];simp;omega) (by rw[hs];exact h1)).2
 have h3:(XZ (QD ns)).length=(QP (QD ns)).length:=List.length_map ..
 have h4:(Z7 (QD ns) (Qu (QD ns)) (i+1)).length<(QP (QD ns)).length:=h2
 omega
theorem UH(g:Int):∀(f:Nat) (left:Int),Xl (·.cells) (Zk g f left)≤28*(f:Int)
 |0,_=>Int.le_refl 0
 |f+1,left=>by
  rw[Zk]
  split
  ·rename_i hl
   have h1:=UB (g:=g) hl
   have h2:=XL (a:=g) (n:=9) (by decide)
   have h3:=UH g f (left-Xp g left)
   show Xp g left+wi g 9+Xl (·.cells) _≤_
   omega
  ·show(0:Int)≤_;omega
structure Few(c:Ck):Prop where
 cells:Xl (·.cells) c.pages<5000
 one:0<c.pages.length
 len:c.pages.length≤40
 low:∀p∈c.pages,p.rows≤20
theorem Bq(g:Int)(k:Nat):Few (XK g k):=by
 have h1:=UH g 40 (nM g)
 have h2:0<(Zk g 40 (nM g)).length:=by rw[show(40:Nat)=39+1 from rfl,Y3 (by have:=U3 g;omega)];exact Nat.succ_pos _
 have h3:=XY g 40 (nM g)
 have h4:∀p∈Zk g 40 (nM g),p.rows≤20:=fun p hp=>by
  obtain⟨r,h,rfl⟩:=Uf g 40 (nM g) p hp
  exact h.2
 unfold XK
 split
 ·refine⟨?_,by rw[List.length_map];exact h2,by rw[List.length_map];exact h3,fun p hp=>?_⟩
  ·show Xl (·.cells) ((Zk g 40 (nM g)).map d2)<5000
   rw[Jo (·.cells) (fun _=>rfl)];omega
  ·obtain⟨q,hq,rfl⟩:=List.mem_map.1 hp
   exact h4 q hq
 ·refine⟨?_,h2,h3,h4⟩
  show Xl (·.cells) (Zk g 40 (nM g))<5000
  omega
theorem Bp(g:Int)(k:Nat)(kd:Int)(l:List Vl)(a:Nat):Few (QA g k kd l a).1:=by
 have h:=Bq g k
 unfold QA
 split
 ·exact⟨h.1,h.2,h.3,h.4⟩
 ·exact h
theorem Jb(g:Int)(l:List Vl):∀(ks:List Int) (k a:Nat),∀c∈(QZ g l ks k a).1,Few c
 |[],_,_,c,h=>nomatch h
 |kd::ks,k,a,c,h=>by
  rw[QZ]at h
  rcases List.mem_cons.1 h with rfl|h
  ·exact Bp ..
  ·exact Jb g l ks _ _ c h
theorem G0:∀{a b:List UInt8},eqb a b=true↔a=b
 |[],[]=>by simp[eqb]
 |[],_::_=>by simp[eqb]
 |_::_,[]=>by simp[eqb]
 |x::a,y::b=>by
  rw[eqb,Bool.and_eq_true,G0 (a:=a) (b:=b),List.cons.injEq,←UInt8.toNat_inj]
  exact⟨fun h=>⟨Nat.eq_of_beq_eq_true h.1,h.2⟩,fun h=>⟨by rw[h.1];exact Nat.beq_refl _,h.2⟩⟩
theorem WH{α:Type}{f:α→α→Bool}(h:∀a b,f a b=true↔a=b):∀{l m:List α},Xc f l m=true↔l=m
 |[],[]=>by simp[Xc]
 |[],_::_=>by simp[Xc]
 |_::_,[]=>by simp[Xc]
 |a::l,b::m=>by rw[Xc,Bool.and_eq_true,h,WH h,List.cons.injEq]
theorem CR(a b:Fd):KH a b=true↔a=b:=by
 obtain⟨a1,a2,a3,a4⟩:=a
 obtain⟨b1,b2,b3,b4⟩:=b
 simp[KH,G0]
theorem CQ(a b:Pg):G6 a b=true↔a=b:=by
 obtain⟨a1,a2,a3,a4,a5,a6,a7⟩:=a
 obtain⟨b1,b2,b3,b4,b5,b6,b7⟩:=b
 simp[G6]
theorem CN(a b:Vl):Q03 a b=true↔a=b:=by
 obtain⟨a1,a2⟩:=a
 obtain⟨b1,b2⟩:=b
 simp[Q03,G0]
theorem CO(a b:Sta):CG a b=true↔a=b:=by
 obtain⟨a1,a2,a3,a4⟩:=a
 obtain⟨b1,b2,b3,b4⟩:=b
 simp[CG,CN]
theorem CS(a b:Ck):KL a b=true↔a=b:=by
 obtain⟨a1,a2,a3,a4,a5,a6⟩:=a
 obtain⟨b1,b2,b3,b4,b5,b6⟩:=b
 simp[KL,CO,WH CQ,and_assoc]
theorem CP(a b:Rw):Ks a b=true↔a=b:=by
 obtain⟨a1,a2⟩:=a
 obtain⟨b1,b2⟩:=b
 simp[Ks,WH CS]
theorem Kv(a b:Mt):M2 a b=true↔a=b:=by
 obtain⟨a1,a2,a3⟩:=a
 obtain⟨b1,b2,b3⟩:=b
 simp[M2,WH CR,WH CP,and_assoc]
theorem Yp{a b:Mt}(h:a≠b):M2 a b=false∧M2 b a=false:=by
 constructor
 ·cases hb:M2 a b with
  |false=>rfl
  |true=>exact absurd ((Kv a b).1 hb) h
 ·cases hb:M2 b a with
  |false=>rfl
  |true=>exact absurd ((Kv b a).1 hb).symm h
theorem Mn(a:Mt):M2 a a=true:=(Kv a a).2 rfl
theorem WS(x:Int):wr .i64 (x+1)≠x:=by
 have e1:(2:Int)^64=18446744073709551616:=by decide
 have e2:(2:Int)^(64-1)=9223372036854775808:=by decide
 unfold wr
 split
 ·omega
 ·simp only[IntKind.wrap,IntKind.signed,IntKind.bits,e1,e2]
  split<;>omega
theorem BF(x:Int):wr .u32 (x+1)≠x:=by
 have e1:(2:Int)^32=4294967296:=by decide
 unfold wr
 split
 ·omega
 ·simp only[IntKind.wrap,IntKind.signed,IntKind.bits,e1,Bool.false_and]
  omega
def tuR(m:Mt)(i:Nat)(r:Rw):Mt:={m with groups:=m.groups.set i r}
def tuC(m:Mt)(i k:Nat)(c:Ck):Mt:=tuR m i {(m.groups.getD i default)with chunks:=(m.groups.getD i default).chunks.set k c}
def tuP(m:Mt)(i k j:Nat)(p:Pg):Mt:=tuC m i k {((m.groups.getD i default).chunks.getD k default)with pages:=((m.groups.getD i default).chunks.getD k default).pages.set j p}
theorem Vt{α:Type}(l:List α){i:Nat}(h:i<l.length)(x d:α):(l.set i x).getD i d=x:=by
 rw[List.getD_eq_getElem?_getD,List.getElem?_set_self h];rfl
theorem EU{α:Type}(l:List α){i:Nat}(h:i<l.length)(d:α):l.set i (l.getD i d)=l:=by
 rw[List.getD_eq_getElem?_getD,List.getElem?_eq_getElem h];exact List.set_getElem_self h
theorem EL{m:Mt}{i:Nat}(hi:i<m.groups.length){r:Rw}(h:m.groups.getD i default≠r):m≠tuR m i r:=fun e=>h (by
 have:=congrArg (fun m:Mt=>m.groups.getD i default) e
 exact this.trans (Vt _ hi _ _))
theorem Kp{m:Mt}{i k:Nat}(hi:i<m.groups.length)(hk:k<(m.groups.getD i default).chunks.length){c:Ck}(h:(m.groups.getD i default).chunks.getD k default≠c):m≠tuC m i k c:=EL hi fun e=>h (by
 have:=congrArg (fun r:Rw=>r.chunks.getD k default) e
 exact this.trans (Vt _ hk _ _))
theorem DP{m:Mt}{i k j:Nat}(hi:i<m.groups.length)(hk:k<(m.groups.getD i default).chunks.length)(hj:j<((m.groups.getD i default).chunks.getD k default).pages.length){p:Pg}(h:((m.groups.getD i default).chunks.getD k default).pages.getD j default≠p):m≠tuP m i k j p:=Kp hi hk fun e=>h (by
 have:=congrArg (fun r:Ck=>r.pages.getD j default) e
 exact this.trans (Vt _ hj _ _))
theorem UO{α:Type}{l:List α}{i:Nat}(h:i<l.length)(d:α):l.getD i d∈l:=by
 rw[List.getD_eq_getElem?_getD,List.getElem?_eq_getElem h];exact List.getElem_mem h
theorem N9{m:Mt}(hm:MtS m){i:Nat}{r:Rw}(hr:RwS r):MtS (tuR m i r):=⟨hm.s,by show(m.groups.set i r).length≤_;rw[List.length_set];exact hm.len,fun g hg=>by
 rcases List.mem_or_eq_of_mem_set hg with h|rfl
 ·exact hm.groups g h
 ·exact hr⟩
theorem KY{m:Mt}(hm:MtS m){i k:Nat}(hi:i<m.groups.length){c:Ck}(hc:c.pages.length≤1000000):MtS (tuC m i k c):=N9 hm ⟨by
 show((m.groups.getD i default).chunks.set k c).length≤_
 rw[List.length_set];exact(hm.groups _ (UO hi _)).1,fun x hx=>by
 rcases List.mem_or_eq_of_mem_set hx with h|rfl
 ·exact(hm.groups _ (UO hi _)).2 x h
 ·exact hc⟩
theorem C6(ig:Nat)(r:Rw):∀(l:List Rw) (k i:Nat),k+i=ig→mkr ig k (l.set i r)=(mkr ig k l).set i (r,true)
 |[],k,i,_=>by rw[List.set_nil];rfl
 |c::t,k,0,h=>by
  rw[List.set_cons_zero,mkr,mkr,List.set_cons_zero,show Nat.beq k ig=true from by rw[show k=ig by omega];exact Nat.beq_refl _]
 |c::t,k,i+1,h=>by rw[List.set_cons_succ,mkr,mkr,List.set_cons_succ,C6 ig r t (k+1) i (by omega)]
theorem C8(kg:Nat)(c:Ck):∀(l:List Ck) (k i:Nat),k+i=kg→mkd true kg k (l.set i c)=(mkd true kg k l).set i (c,true)
 |[],k,i,_=>by rw[List.set_nil];rfl
 |d::t,k,0,h=>by
  rw[List.set_cons_zero,mkd,mkd,List.set_cons_zero,show Nat.beq k kg=true from by rw[show k=kg by omega];exact Nat.beq_refl _];rfl
 |d::t,k,i+1,h=>by rw[List.set_cons_succ,mkd,mkd,List.set_cons_succ,C8 kg c t (k+1) i (by omega)]
theorem Gl(ks:List Int)(l:List Vl):∀(gs:List Int) (a:Nat),∀r∈(Ze ks l gs a).1,r.chunks.length=ks.length
 |[],_,r,h=>nomatch h
 |g::gs,a,r,h=>by
  rw[Ze]at h
  rcases List.mem_cons.1 h with rfl|h
  ·exact Wp ..
  ·exact Gl ks l gs _ r h
structure SamOk(m:Mt)(n q:Nat):Prop where
 s:MtS m
 len:m.groups.length=n
 four:n≤4
 pos:0<q
 most:q≤1000000
 ck:∀g∈m.groups,g.chunks.length=q
 pg:∀g∈m.groups,∀c∈g.chunks,0<c.pages.length∧c.pages.length≤40
theorem E1(ns gs:List Int){l:List Vl}(hl:∀v∈l,I64 v.n):SamOk (W6 ns gs l) (gs.take 4).length (QP (QD ns)).length:=by
 have hk:(XZ (QD ns)).length=(QP (QD ns)).length:=List.length_map ..
 refine⟨Ll ns gs hl,Vs _ _ _ _,by rw[List.length_take];omega,by rw[←hk];exact E0 ns,?_,fun g hg=>?_,fun r hr c hc=>?_⟩
 ·have h1:(QP (QD ns)).length≤(QD ns).length:=Zs _ _ _
  have:=WK ns;omega
 ·rw[←hk];exact Gl _ _ _ _ g hg
 ·obtain⟨g,a,rfl⟩:=Vr _ _ _ _ r hr
  have:=Jb g l _ 0 a c hc
  exact⟨this.one,this.len⟩
theorem EI{a:Int}{n:Nat}(h:0<n):∃i:Nat,i<n∧wi a n=i:=by
 have:=XL (a:=a) (n:=n) (by omega)
 exact⟨(wi a n).toNat,by omega,by omega⟩
def ZA[Syms](H:Heap)(x x':AVal):Prop:=∀(ι:Inj) (w:World) (v:Value),RelH ι H w→RelV ι x v→RelV (WR w) x' v
def Uu[Syms](H:Heap):List AVal→List AVal→Prop
 |[],[]=>True
 |a::l,b::m=>ZA H a b∧Uu H l m
 |_,_=>False
theorem Uu.rel[Syms]{ι:Inj}{H:Heap}{w:World}(hH:RelH ι H w):∀{xs ys:List AVal} {vs:List Value},Uu H xs ys→QE ι xs vs→QE (WR w) ys vs
 |[],[],vs,_,h=>by rw[h.unnil];exact .nil _
 |[],_::_,vs,h,_=>h.elim
 |_::_,[],vs,h,_=>h.elim
 |a::xs,b::ys,vs,h,hr=>by
  obtain⟨v,vs',rfl,h1,h2⟩:=hr.uncons
  exact .cons (h.1 ι w v hH h1) (h.2.rel hH h2)
theorem Uu.at[Syms]{H:Heap}:∀{xs ys:List AVal},Uu H xs ys→xs.length=ys.length∧ ∀(i:Nat) (x y:AVal),xs[i]?=some x→ys[i]?=some y→ZA H x y
 |[],[],_=>⟨rfl,fun i x y h=>by simp at h⟩
 |[],_::_,h=>h.elim
 |_::_,[],h=>h.elim
 |a::xs,b::ys,h=>by
  obtain⟨h1,h2⟩:=h.2.at
  refine⟨by simp[h1],fun i x y hx hy=>?_⟩
  cases i with
  |zero=>simp at hx hy;subst hx hy;exact h.1
  |succ i=>simp at hx hy;exact h2 i x y hx hy
theorem ZA.imm[Syms]{H:Heap}{x:AVal}(h:x.imm=true):ZA H x x:=fun ι w v hH hv=>(hv.imm (κ:=ι) (fun _ _ h=>h) h).mono (Kb hH)
theorem ZA.agg[Syms]{H:Heap}{xs ys:List AVal}(h:Uu H xs ys):ZA H (.agg xs) (.agg ys):=fun ι w v hH hv=>by
 obtain⟨vs,rfl,hl⟩:=hv.of_agg
 exact .mk_agg (h.rel hH hl)
theorem Uu.imm[Syms]{H:Heap}:∀{xs:List AVal},(∀x∈xs,x.flat=true)→Uu H xs xs
 |[],_=>trivial
 |x::xs,h=>⟨fun ι w v hH hv=>(hv.flat (κ:=ι) (fun _ _ h=>h) (h x (List.mem_cons_self ..))).mono (Kb hH),Uu.imm fun y hy=>h y (List.mem_cons_of_mem _ hy)⟩
theorem ZA.slice[Syms]{H:Heap}{n len sz:Nat}{rows rows':List (List AVal)}{ro:Bool}{c:Option Nat}(hb:H.get n=some (.cells rows ro))(hlen:len=rows.length)(hl:rows'.length=rows.length)(hz:∀r∈rows',r.length=sz)
 (hr:∀(k:Nat) (r r':List AVal),rows[k]?=some r→rows'[k]?=some r'→Uu H r r'):ZA H (.slice n 0 len sz c) (.vs sz rows'):=by
 subst hlen
 intro ι w v hH hv
 obtain⟨L,hL,hB⟩:=hH.blk n _ hb
 cases hv with
 |slice _ _ _ _ _ L' a k h hs ha hll hp hm hc=>
  rw[hL]at h
  cases h
  rcases ha with h0|h0
  ·have hl0:rows=[]:=List.eq_nil_of_length_eq_zero (by omega)
   subst hl0
   obtain rfl:rows'=[]:=List.eq_nil_of_length_eq_zero hl
   exact .vz sz _ _ hm (fun h=>nomatch h)
  ·subst h0
   obtain⟨cs,et,fz,c1,c2,c3,c4,c5⟩:=hB
   have hat:∀(k:Nat),k<rows'.length→ ∃r r',rows[k]?=some r∧rows'[k]?=some r':=fun k hk=>
    ⟨_,_,List.getElem?_eq_getElem (by omega),List.getElem?_eq_getElem hk⟩
   have key:RelV (WR w) (.vs sz rows') (.slice (some ⟨L.g,L.base+0*L.size,none⟩) rows'.length k):=by
    refine .vs sz rows' L.g (L.base+0*L.size) k cs (KQ c1) (by omega) hm (by rw[hl];rw[hs]at *;omega) (fun j row hr'=>hz _ (List.mem_of_getElem? hr')) (fun k j v hk hj hv=>?_) (fun k j row x v hr' hj hv=>?_)
    ·obtain⟨r,r',h1,h2⟩:=hat k hk
     obtain⟨q1,q2⟩:=c4 k r h1
     have hjr:j<r.length:=by rw[q1,hs];exact hj
     obtain⟨v',p1,p2,_⟩:=q2 j _ (List.getElem?_eq_getElem hjr)
     rw[hs]at p1 hv
     have:L.base+0*sz+k*sz+j=L.base+k*sz+j:=by omega
     rw[this,p1]at hv
     cases hv
     exact p2
    ·have hk:k<rows'.length:=(List.getElem?_eq_some_iff.1 hr').1
     obtain⟨r,r',h1,h2⟩:=hat k hk
     rw[hr']at h2
     cases h2
     obtain⟨g1,g2⟩:=(hr k r row h1 hr').at
     have hjr:j<r.length:=by rw[g1];exact(List.getElem?_eq_some_iff.1 hj).1
     obtain⟨v',p1,p2,p3⟩:=(c4 k r h1).2 j _ (List.getElem?_eq_getElem hjr)
     rw[hs]at p1 hv
     have:L.base+0*sz+k*sz+j=L.base+k*sz+j:=by omega
     rw[this,p1]at hv
     cases hv
     exact g2 j _ x (List.getElem?_eq_getElem hjr) hj ι w v hH p3
   rwa [hl]at key
theorem I2[Syms]{P:Program}{f:FuncId}{args args':List AVal}{b:Bool}{H:Heap}{nx:Nat}(ha:Uu H args args')(h:XI P f args' [] 0 fun v H' _=>v= .bool b∧H'=[]):KV P f args H nx (.bool b) H nx:=by
 intro ι w vs hvs hH hb
 refine(h.2 (WR w) w vs (ha.rel hH hvs) (EE w) (fun n L hn=>nomatch hn)).mono ?_
 rintro e w' ⟨v',H',nx',r,κ,⟨rfl,rfl⟩,rfl,hr,hH',hst,_⟩
 have same:∀g,g<w.heap.size→w'.heap[g]?=w.heap[g]?:=fun g hg=>hst.same g hg fun⟨n,b,L,h1,_⟩=>by rw[Heap.get_nil]at h1;cases h1
 refine⟨r,ι,rfl,by cases hr;exact .bool b,⟨fun n b hn=>?_,hH.inj,fun g cs hg=>?_⟩,⟨⟨Inj.le_refl ι,hst.os,hst.tape,hst.output,hst.size,fun g hg _=>same g hg,fun _ h=>.inl h,fun _ _ h=>.inl h⟩,Nat.le_refl _,fun _ _ h=>.inl h⟩,fun n L hn=>⟨(hb n L hn).1,Nat.lt_of_lt_of_le (hb n L hn).2 hst.size⟩⟩
 ·obtain⟨L,h1,h2⟩:=hH.blk n b hn
  exact⟨L,h1,h2.keep (Inj.le_refl ι) (same _ (hb n L h1).2)⟩
 ·obtain⟨⟨et,z,h1⟩,h2⟩:=hH.fz g cs hg
  have hg':g<w.heap.size:=by
   rcases Nat.lt_or_ge g w.heap.size with h|h
   ·exact h
   ·rw[Array.getElem?_eq_none h]at h1;cases h1
  exact⟨⟨et,z,(same g hg').trans h1⟩,h2⟩
def OP[Syms](S:SpecI):CallT:=fun _ args H nx K=>∃args',Uu H args args'∧S args' fun v=>(∃b,v= .bool b)∧K v H nx
theorem CV[Syms]{P:Program}{n:Nat}{S:SpecI}{d:CallT}(hS:Zi P n S)(hd:d.det P):(Qe n (OP S) d).det P:=by
 intro f args H nx K h
 unfold Qe at h
 cases hf:Nat.beq f n with
 |true=>
  rw[hf]at h
  have:=Nat.eq_of_beq_eq_true hf
  subst this
  obtain⟨args',ha,hs⟩:=h
  obtain⟨h1,v,h2,⟨⟨b,rfl⟩,h3⟩,h4⟩:=hS args' _ hs
  exact⟨.bool b,H,nx,h4.1,I2 ha h4,h3⟩
 |false=>rw[hf]at h;exact hd f args H nx K h
theorem Q01(p:Pg):(encP p).length=7:=rfl
theorem Ig(p:Ck):(encC p).length=11:=rfl
theorem Ie(p:Rw):(encR p).length=2:=rfl
theorem JS{α:Type}{enc:α→List AVal}{sz:Nat}(h:∀a,(enc a).length=sz)(l:List α):∀r∈l.map enc,r.length=sz:=fun r hr=>by
 obtain⟨a,_,rfl⟩:=List.mem_map.1 hr
 exact h a
theorem F5(kg:Nat):∀(l:List Ck) (k i:Nat),(mkd true kg k l)[i]?=(l[i]?).map fun c=>(c,Nat.beq (k+i) kg)
 |[],k,i=>rfl
 |d::t,k,0=>rfl
 |d::t,k,i+1=>by
  rw[mkd,List.getElem?_cons_succ,List.getElem?_cons_succ,F5 kg t,show k+1+i=k+(i+1) by omega]
theorem F4(kg:Nat):∀(l:List Rw) (k i:Nat),(mkr kg k l)[i]?=(l[i]?).map fun c=>(c,Nat.beq (k+i) kg)
 |[],k,i=>rfl
 |d::t,k,0=>rfl
 |d::t,k,i+1=>by
  rw[mkr,List.getElem?_cons_succ,List.getElem?_cons_succ,F4 kg t,show k+1+i=k+(i+1) by omega]
def X8(n:Nat)(c:CkO):List AVal:=match c.2 with
 |false=>encC c.1
 |true=>[.int .i64 c.1.words,.int .i64 c.1.size,.int .u32 c.1.crc,.slice n 0 c.1.pages.length 7 none,.bool c.1.known,.int .i64 c.1.st.nulls,.bool c.1.st.has,.int .i64 c.1.st.mn.n,.str c.1.st.mn.s,.int .i64 c.1.st.mx.n,.str c.1.st.mx.s]
def ZO(n:Nat)(r:RwO):List AVal:=match r.2 with
 |false=>encR r.1
 |true=>[.int .i64 r.1.n,.slice n 0 r.1.chunks.length 11 none]
theorem LH:encCo=X8 9:=by funext ⟨c,b⟩;cases b<;>rfl
theorem LG:encRo=ZO 7:=by funext ⟨c,b⟩;cases b<;>rfl
theorem X7(n:Nat)(ρ:Nat→Nat)(l:List CkO):(l.map (X8 n)).map (AVal.renL ρ)=l.map (X8 (ρ n)):=by
 rw[List.map_map]
 refine List.map_congr_left fun c _=>?_
 obtain⟨c,b⟩:=c
 cases b with
 |false=>exact Yk ρ (fC [c] (encC c) (by simp))
 |true=>simp only[Function.comp,X8,AVal.renL,AVal.ren]
theorem X5(n:Nat)(ρ:Nat→Nat)(l:List RwO):(l.map (ZO n)).map (AVal.renL ρ)=l.map (ZO (ρ n)):=by
 rw[List.map_map]
 refine List.map_congr_left fun c _=>?_
 obtain⟨c,b⟩:=c
 cases b with
 |false=>exact Yk ρ (fR [c] (encR c) (by simp))
 |true=>simp only[Function.comp,ZO,AVal.renL,AVal.ren]
theorem Lv[Syms]{H:Heap}{m:Mt}{C:List Ck}{P:List Pg}{n3 n7 n9 ig kg:Nat}
 (h3:H.get n3=some (.cells ((mkr ig 0 m.groups).map (ZO n7)) false)) (h7:H.get n7=some (.cells ((mkd true kg 0 C).map (X8 n9)) false)) (h9:H.get n9=some (.cells (P.map encP) false))
 (hC:(m.groups.getD ig default).chunks=C) (hP:(C.getD kg default).pages=P):ZA H (.agg [.vs 4 (m.s.map encF),.int .i64 m.n,.slice n3 0 m.groups.length 2 none]) (.agg (Qv m)):=by
 have f1:∀k z,ZA H (.int k z) (.int k z):=fun k z=>ZA.imm rfl
 have f2:∀z,ZA H (.bool z) (.bool z):=fun z=>ZA.imm rfl
 have f3:∀z,ZA H (.str z) (.str z):=fun z=>ZA.imm rfl
 have l3:((mkr ig 0 m.groups).map (ZO n7)).length=m.groups.length:=by rw[List.length_map,VM]
 have l7:((mkd true kg 0 C).map (X8 n9)).length=C.length:=by rw[List.length_map,YR]
 refine ZA.agg ⟨ZA.imm rfl,f1 _ _,ZA.slice h3 l3.symm (by rw[List.length_map,l3]) (JS Ie _) (fun k r r' hr hr'=>?_),trivial⟩
 rw[List.getElem?_map,F4]at hr
 rw[List.getElem?_map]at hr'
 obtain⟨g,hg,rfl⟩:=Option.map_eq_some_iff.1 hr'
 rw[hg]at hr
 cases hr
 by_cases hk:k=ig
 ·subst hk
  have hgd:m.groups.getD k default=g:=by rw[List.getD_eq_getElem?_getD,hg];rfl
  rw[hgd]at hC
  subst hC
  rw[Nat.zero_add,Nat.beq_refl]
  refine⟨f1 _ _,ZA.slice h7 l7.symm (by rw[List.length_map,l7]) (JS Ig _) (fun k2 r2 r2' hr2 hr2'=>?_),trivial⟩
  rw[List.getElem?_map,F5]at hr2
  rw[List.getElem?_map]at hr2'
  obtain⟨c,hc,rfl⟩:=Option.map_eq_some_iff.1 hr2'
  rw[hc]at hr2
  cases hr2
  by_cases hk2:k2=kg
  ·subst hk2
   have hcd:g.chunks.getD k2 default=c:=by rw[List.getD_eq_getElem?_getD,hc];rfl
   rw[hcd]at hP
   subst hP
   rw[Nat.zero_add,Nat.beq_refl]
   refine⟨f1 _ _,f1 _ _,f1 _ _,ZA.slice h9 (by rw[List.length_map]) rfl (JS Q01 _) (fun k3 r3 r3' hr3 hr3'=>?_),f2 _,f1 _ _,f2 _,f1 _ _,f3 _,f1 _ _,f3 _,trivial⟩
   rw[hr3]at hr3'
   cases hr3'
   exact Uu.imm (fP _ _ (List.mem_of_getElem? hr3))
  ·rw[Nat.zero_add,QL hk2]
   exact Uu.imm (fC [c] (encC c) (by simp))
 ·rw[Nat.zero_add,QL hk]
  exact Uu.imm (fR [g] (encR g) (by simp))
end Go.Proofs.Ytajieadpaeggcaa
