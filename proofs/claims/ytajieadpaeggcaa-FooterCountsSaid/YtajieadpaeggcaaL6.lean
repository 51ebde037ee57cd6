/-
  A file's description with one number that may not be. Plain. A front of bytes that are read ends too early. Plain. A file's description with one number that may not be. The law's own. A varint,a number's bytes behind bytes. The document's. What a file says of itself,as bytes:numbers,truths,values. The document's. A chunk's bytes. The document's. A schema's bytes. The document's. What a file says of itself,as bytes. The document's.
-/
import Derived.Test.YtajieadpaeggcaaL5
import Derived.Test.YtajieadpaeggcaaL4
import Derived.Test.YtajieadpaeggcaaL1
set_option linter.unusedVariables false
set_option linter.unusedSimpArgs false
namespace Go.Proofs.Ytajieadpaeggcaa
open Go Go.Av
def Y9(w n:Int)(c:Ck)(p:Pg)(ps:List Pg):Ck:=
 if w=2 then{c with pages:={p with rows:=p.rows+1}::ps}else
 if w=3 then{c with pages:={p with rows:=0}::ps}else
 if w=4 then{c with words:=257+n}else
 if w=5 then{c with words:=1+n,pages:={p with enc:=0}::ps}else
 if w=6 then{c with known:=true,st:=⟨5000,false,default,default⟩}else
 if w=7 then{c with pages:={p with vlen:=1048577+n}::ps}else
 if w=8 then{c with pages:=ps}else c
def Sd(w n:Int)(g:Rw):Rw:=
 match g.chunks with
 |[]=>g
 |c::cs=>match c.pages with
  |[]=>g
  |p::ps=>⟨if w=1 then 0 else g.n,Y9 w n c p ps::cs⟩
def XM(w n:Int)(m:Mt):Mt:=
 match m.groups with
 |[]=>{m with n:=m.n+1+n}
 |g::gs=>if w=0 then{m with n:=m.n+1+n}else{m with groups:=Sd w n g::gs}
structure TurnOk(m:Mt):Prop where
 g:MtG m
 one:∀g∈m.groups,∃c cs p ps,g.chunks=c::cs∧c.pages=p::ps
 few:∀g∈m.groups,∀c∈g.chunks,X4 (·.cells) c.pages<5000
 low:∀g∈m.groups,∀c∈g.chunks,c.pages.length≤40∧ ∀p∈c.pages,p.rows≤20
 bytes:MtB m
 whole:Zz m=true
 sl:(sbF m.s).length≤600
 gl:m.groups.length≤4
theorem Ro{d k:Nat}{l:List Fd}(h:Fo d k l):0<k→ ∃i,i<l.length∧(l.getD i default).kind≠0:=by
 induction h with
 |nil=>intro h;omega
 |leaf hd hf hk h0 h ih=>intro _;exact⟨0,Nat.succ_pos _,hk⟩
 |group hd hf hk hm hp h1 h2 ih1 ih2=>
  intro _
  obtain⟨i,hi,h⟩:=ih1 hp
  refine⟨i+1,by simp;omega,?_⟩
  simp only[List.getD_eq_getElem?_getD,List.getElem?_cons_succ]at h ⊢
  rw[List.getElem?_append_left hi];exact h
theorem Lj(ns:List Int):0<(QR (QW ns)).length:=by
 obtain⟨f,l,k,hs,hf,hk,hr,hm,hp,h⟩:=I5 ns
 obtain⟨i,hi,h1⟩:=Ro h hp
 have h2:=(Cs (fs:=QW ns) (ps:=Qf (QW ns)) (i:=i+1) (n:=(QW ns).length) (by rw[hs];simp;omega) (by rw[hs];exact h1)).2
 have h3:(QR (QW ns)).length=(Qu (QW ns)).length:=List.length_map ..
 have h4:(Zh (QW ns) (Qf (QW ns)) (i+1)).length<(Qu (QW ns)).length:=h2
 omega
theorem KO(g:Int):∀(f:Nat) (left:Int),X4 (·.cells) (ZX g f left)≤28*(f:Int)
 |0,_=>Int.le_refl 0
 |f+1,left=>by
  rw[ZX]
  split
  ·rename_i hl
   have h1:=GZ (g:=g) hl
   have h2:=Yp (a:=g) (n:=9) (by decide)
   have h3:=KO g f (left-YF g left)
   show YF g left+wi g 9+X4 (·.cells) _≤_
   omega
  ·show(0:Int)≤_;omega
structure Few(c:Ck):Prop where
 cells:X4 (·.cells) c.pages<5000
 one:0<c.pages.length
 len:c.pages.length≤40
 low:∀p∈c.pages,p.rows≤20
theorem Hc(g:Int)(k:Nat):Few (Wl g k):=by
 have h1:=KO g 40 (nM g)
 have h2:0<(ZX g 40 (nM g)).length:=by rw[show(40:Nat)=39+1 from rfl,V1 (by have:=US g;omega)];exact Nat.succ_pos _
 have h3:=WL g 40 (nM g)
 have h4:∀p∈ZX g 40 (nM g),p.rows≤20:=fun p hp=>by
  obtain⟨r,h,rfl⟩:=K9 g 40 (nM g) p hp
  exact h.2
 unfold Wl
 split
 ·refine⟨?_,by rw[List.length_map];exact h2,by rw[List.length_map];exact h3,fun p hp=>?_⟩
  ·show X4 (·.cells) ((ZX g 40 (nM g)).map d2)<5000
   rw[GY (·.cells) (fun _=>rfl)];omega
  ·obtain⟨q,hq,rfl⟩:=List.mem_map.1 hp
   exact h4 q hq
 ·refine⟨?_,h2,h3,h4⟩
  show X4 (·.cells) (ZX g 40 (nM g))<5000
  omega
theorem Hb(g:Int)(k:Nat)(kd:Int)(l:List Vl)(a:Nat):Few (ZF g k kd l a).1:=by
 have h:=Hc g k
 unfold ZF
 split
 ·exact⟨h.1,h.2,h.3,h.4⟩
 ·exact h
theorem GI(g:Int)(l:List Vl):∀(ks:List Int) (k a:Nat),∀c∈(Z7 g l ks k a).1,Few c
 |[],_,_,c,h=>nomatch h
 |kd::ks,k,a,c,h=>by
  rw[Z7]at h
  rcases List.mem_cons.1 h with rfl|h
  ·exact Hb ..
  ·exact GI g l ks _ _ c h
theorem MX{α:Type}{l:List α}(h:0<l.length):∃x t,l=x::t:=by
 cases l with
 |nil=>cases h
 |cons x t=>exact⟨x,t,rfl⟩
theorem EO(ns gs:List Int){l:List Vl}(hl:∀v∈l,I64 v.n):TurnOk (KU ns gs l):=by
 have key:∀r∈(KU ns gs l).groups,∀c∈r.chunks,Few c:=fun r hr c hc=>by
  obtain⟨g,a,rfl⟩:=V4 _ _ _ _ r hr
  exact GI g l _ 0 a c hc
 refine⟨Bd ns gs hl,fun r hr=>?_,fun r hr c hc=>(key r hr c hc).cells,fun r hr c hc=>⟨(key r hr c hc).len,(key r hr c hc).low⟩,Rc ns gs hl,Rb ns gs hl,Cq ns,?_⟩
 ·have h1:r.chunks.length=(QR (QW ns)).length:=((Bd ns gs hl).groups r hr).len
  obtain⟨c,cs,hc⟩:=MX (l:=r.chunks) (by rw[h1];exact Lj ns)
  obtain⟨p,ps,hp⟩:=MX (key r hr c (by rw[hc];exact List.mem_cons_self ..)).one
  exact⟨c,cs,p,ps,hc,hp⟩
 ·show(Zf _ _ _ _).1.length≤4
  rw[Uj,List.length_take];omega
theorem Gn(w n:Int)(c:Ck)(p:Pg)(ps:List Pg)(hp:c.pages=p::ps)(K:Pg→Prop)(hK:∀q∈c.pages,K q)(h2:K {p with rows:=p.rows+1})(h3:K {p with rows:=0})(h5:K {p with enc:=0})(h7:K {p with vlen:=1048577+n}∨w≠7):∀q∈(Y9 w n c p ps).pages,K q:=by
 rw[hp]at hK
 unfold Y9
 repeat' split
 all_goals intro q hq
 all_goals(try(rw[hp]at hq))
 all_goals(first|exact hK q hq|(rcases List.mem_cons.1 hq with rfl|hq<;>first|assumption|exact h7.resolve_right (fun k=>k (by assumption))|exact hK q (List.mem_cons_of_mem _ hq))|exact hK q (List.mem_cons_of_mem _ hq))
theorem K2(w n:Int)(c:Ck)(p:Pg)(ps:List Pg)(hp:c.pages=p::ps):(Y9 w n c p ps).pages.length≤c.pages.length:=by
 unfold Y9
 rw[hp]
 repeat' split
 all_goals(first|exact Nat.le_refl _|(rw[hp];exact Nat.le_refl _)|exact Nat.le_succ _)
theorem Gm(w n:Int)(c:Ck)(p:Pg)(ps:List Pg)(hn:0≤n∧n<9)(h:0≤c.words∧c.words≤1048576):0≤(Y9 w n c p ps).words∧(Y9 w n c p ps).words≤1048576:=by
 unfold Y9
 repeat' split
 all_goals(try exact h)
 ·show 0≤257+n∧257+n≤1048576;omega
 ·show 0≤1+n∧1+n≤1048576;omega
theorem K1(w n:Int)(c:Ck)(p:Pg)(ps:List Pg):(Y9 w n c p ps).size=c.size∧(Y9 w n c p ps).crc=c.crc∧((Y9 w n c p ps).known=c.known∧(Y9 w n c p ps).st=c.st∨(Y9 w n c p ps).known=true∧(Y9 w n c p ps).st=⟨5000,false,default,default⟩):=by
 unfold Y9
 repeat' split
 all_goals first|exact⟨rfl,rfl,.inl ⟨rfl,rfl⟩⟩|exact⟨rfl,rfl,.inr ⟨rfl,rfl⟩⟩
theorem Pp{k w n:Int}{c:Ck}{p:Pg}{ps:List Pg}(h:CkG k c)(hp:c.pages=p::ps)(hn:0≤n∧n<9)(hr:p.rows≤20)(hw:w≠7):CkG k (Y9 w n c p ps):=by
 have hpg:PgG p:=h.pages p (by rw[hp];exact List.mem_cons_self ..)
 obtain⟨s1,s2,s3⟩:=K1 w n c p ps
 have hw1:=Gm w n c p ps hn h.n1
 have hl:=K2 w n c p ps hp
 have hpp:=Gn w n c p ps hp PgG h.pages ⟨⟨by have:=hpg.n1.1;show 0≤p.rows+1;omega,by show p.rows+1≤1048576;omega⟩,hpg.n2,hpg.n3,hpg.n4,hpg.n5,hpg.n6,hpg.crc⟩ ⟨⟨Int.le_refl _,by show(0:Int)≤1048576;decide⟩,hpg.n2,hpg.n3,hpg.n4,hpg.n5,hpg.n6,hpg.crc⟩ ⟨hpg.n1,hpg.n2,⟨Int.le_refl _,by show(0:Int)≤1048576;decide⟩,hpg.n4,hpg.n5,hpg.n6,hpg.crc⟩ (.inr hw)
 have hlen:=h.len
 generalize Y9 w n c p ps=d at *
 rcases s3 with⟨s3,s4⟩|⟨s3,s4⟩
 ·exact⟨hw1,by rw[s1];exact h.n2,by rw[s2];exact h.crc,by omega,hpp,fun hk=>by rw[s4];exact h.st0 (by rw[←s3];exact hk),fun hk=>by rw[s4];exact h.nulls (by rw[←s3];exact hk),fun hk hh=>by rw[s4]at hh ⊢;exact h.has0 (by rw[←s3];exact hk) hh,fun hk hh=>by rw[s4]at hh ⊢;exact h.has1 (by rw[←s3];exact hk) hh⟩
 ·exact⟨hw1,by rw[s1];exact h.n2,by rw[s2];exact h.crc,by omega,hpp,fun hk=>(by rw[s3]at hk;cases hk),fun _=>(by rw[s4];exact⟨by show(0:Int)≤5000;decide,by show(5000:Int)≤1048576;decide⟩),fun _ _=>(by rw[s4];exact⟨rfl,rfl⟩),fun _ hh=>(by rw[s4]at hh;cases hh)⟩
theorem V2{x:Int}(h:0≤x)(h2:x≤9000000):Wb x:=⟨h,Int.lt_of_le_of_lt h2 (by decide)⟩
theorem Pq{w n:Int}{c:Ck}{p:Pg}{ps:List Pg}(h:CkB c)(hp:c.pages=p::ps)(hn:0≤n∧n<9)(hr:p.rows≤20)(hw0:c.words≤1048576):CkB (Y9 w n c p ps):=by
 have hpg:PgB p:=h.pages p (by rw[hp];exact List.mem_cons_self ..)
 obtain⟨s1,s2,s3⟩:=K1 w n c p ps
 have hw1:=Gm w n c p ps hn ⟨h.n1.1,hw0⟩
 have hl:=K2 w n c p ps hp
 have hpp:=Gn w n c p ps hp PgB h.pages ⟨V2 (by have:=hpg.n1.1;show 0≤p.rows+1;omega) (by show p.rows+1≤9000000;omega),hpg.n2,hpg.n3,hpg.n4,hpg.n5,hpg.n6,hpg.crc⟩ ⟨V2 (Int.le_refl _) (by show(0:Int)≤9000000;decide),hpg.n2,hpg.n3,hpg.n4,hpg.n5,hpg.n6,hpg.crc⟩ ⟨hpg.n1,hpg.n2,V2 (Int.le_refl _) (by show(0:Int)≤9000000;decide),hpg.n4,hpg.n5,hpg.n6,hpg.crc⟩ (.inl ⟨hpg.n1,hpg.n2,hpg.n3,hpg.n4,hpg.n5,V2 (by show 0≤1048577+n;omega) (by show 1048577+n≤9000000;omega),hpg.crc⟩)
 have hlen:=h.len
 generalize Y9 w n c p ps=d at *
 refine⟨V2 hw1.1 (by omega),by rw[s1];exact h.n2,by rw[s2];exact h.crc,?_,hpp,by omega⟩
 rcases s3 with⟨s3,s4⟩|⟨s3,s4⟩
 ·rw[s4];exact h.nulls
 ·rw[s4];exact V2 (by show(0:Int)≤5000;decide) (by show(5000:Int)≤9000000;decide)
theorem W0{m:Mt}(h:TurnOk m)(w n:Int):XM w n m={m with n:=m.n+1+n}∧(m.groups=[]∨w=0)∨w≠0∧ ∃g gs c cs p ps,m.groups=g::gs∧g.chunks=c::cs∧c.pages=p::ps∧XM w n m={m with groups:=⟨if w=1 then 0 else g.n,Y9 w n c p ps::cs⟩::gs}:=by
 obtain⟨s,mn,gs⟩:=m
 cases gs with
 |nil=>exact .inl ⟨rfl,.inl rfl⟩
 |cons g gs=>
  by_cases hw:w=0
  ·exact .inl ⟨by unfold XM;simp only[if_pos hw],.inr hw⟩
  ·obtain⟨c,cs,p,ps,hc,hp⟩:=h.one g (List.mem_cons_self ..)
   refine .inr ⟨hw,g,gs,c,cs,p,ps,rfl,hc,hp,?_⟩
   unfold XM Sd
   simp only[if_neg hw,hc,hp]
theorem DV{m:Mt}(h:Zz m=true):Zd m.groups=m.n∧m.n≤200:=by
 unfold Zz at h
 rw[Bool.and_eq_true]at h
 have:=of_decide_eq_true h.2
 omega
theorem Pm{m:Mt}(h:TurnOk m){w n:Int}(hn:0≤n∧n<9)(hw:w≠7):MtG (XM w n m):=by
 have hg:=h.g
 have hwn:=DV h.whole
 rcases W0 h w n with⟨e,_⟩|⟨hw0,g,gs,c,cs,p,ps,h1,h2,h3,e⟩
 ·rw[e]
  exact⟨hg.sb,hg.s40,hg.chk,hg.sl,⟨by have:=hg.n.1;show 0≤m.n+1+n;omega,by show m.n+1+n≤1048576;omega⟩,hg.len,hg.groups⟩
 ·rw[e]
  have hgm:g∈m.groups:=by rw[h1];exact List.mem_cons_self ..
  have hcm:c∈g.chunks:=by rw[h2];exact List.mem_cons_self ..
  have hg1:=hg.groups g hgm
  refine⟨hg.sb,hg.s40,hg.chk,hg.sl,hg.n,by have:=hg.len;rw[h1]at this;exact this,fun r hr=>?_⟩
  rcases List.mem_cons.1 hr with rfl|hr
  ·have hl:=hg1.len
   rw[h2]at hl
   refine⟨?_,hl,fun i hi=>?_⟩
   ·show Wc (if w=1 then 0 else g.n)
    split
    ·exact⟨Int.le_refl _,by show(0:Int)≤1048576;decide⟩
    ·exact hg1.n
   ·have hci:=hg1.chunks i (by rw[h2];exact hi)
    rw[h2]at hci
    cases i with
    |zero=>exact Pp hci h3 hn ((h.low g hgm c hcm).2 p (by rw[h3];exact List.mem_cons_self ..)) hw
    |succ i=>exact hci
  ·exact hg.groups r (by rw[h1];exact List.mem_cons_of_mem _ hr)
theorem Po{m:Mt}(h:TurnOk m){w n:Int}(hn:0≤n∧n<9):MtB (XM w n m):=by
 have hg:=h.g
 have hb:=h.bytes
 have hwn:=DV h.whole
 rcases W0 h w n with⟨e,_⟩|⟨hw0,g,gs,c,cs,p,ps,h1,h2,h3,e⟩
 ·rw[e]
  exact⟨hb.fs,hb.sb,V2 (by have:=hg.n.1;show 0≤m.n+1+n;omega) (by show m.n+1+n≤9000000;omega),hb.len,hb.groups⟩
 ·rw[e]
  have hgm:g∈m.groups:=by rw[h1];exact List.mem_cons_self ..
  have hcm:c∈g.chunks:=by rw[h2];exact List.mem_cons_self ..
  have hg1:=hb.groups g hgm
  refine⟨hb.fs,hb.sb,hb.n,by have:=hb.len;rw[h1]at this;exact this,fun r hr=>?_⟩
  rcases List.mem_cons.1 hr with rfl|hr
  ·refine⟨?_,by have:=hg1.len;rw[h2]at this;exact this,fun d hd=>?_⟩
   ·show Wb (if w=1 then 0 else g.n)
    split
    ·exact V2 (Int.le_refl _) (by show(0:Int)≤9000000;decide)
    ·exact hg1.n
   ·rcases List.mem_cons.1 hd with rfl|hd
    ·have hw1:Wc c.words:=by
      have:=(hg.groups g hgm).chunks 0 (by rw[h2];exact Nat.succ_pos _)
      rw[h2]at this;exact this.n1
     exact Pq (hg1.chunks c hcm) h3 hn ((h.low g hgm c hcm).2 p (by rw[h3];exact List.mem_cons_self ..)) hw1.2
    ·exact hg1.chunks d (by rw[h2];exact List.mem_cons_of_mem _ hd)
  ·exact hb.groups r (by rw[h1];exact List.mem_cons_of_mem _ hr)
theorem Pn{m:Mt}(h:TurnOk m)(w n:Int):∀g∈(XM w n m).groups,g.chunks.length=(Qu (XM w n m).s).length:=by
 have hg:∀g∈m.groups,g.chunks.length=(Qu m.s).length:=fun g hgm=>((h.g.groups g hgm).len).trans (List.length_map ..)
 rcases W0 h w n with⟨e,_⟩|⟨hw0,g,gs,c,cs,p,ps,h1,h2,h3,e⟩
 ·rw[e];exact hg
 ·rw[e]
  intro r hr
  rcases List.mem_cons.1 hr with rfl|hr
  ·have:=hg g (by rw[h1];exact List.mem_cons_self ..)
   rw[h2]at this;exact this
  ·exact hg r (by rw[h1];exact List.mem_cons_of_mem _ hr)
theorem El{k n0 w n:Int}{c:Ck}{p:Pg}{ps:List Pg}(hs:Zg k n0 c=true)(hp:c.pages=p::ps)(hc:X4 (·.cells) c.pages<5000)(hr:0≤p.rows)(hn:0≤n∧n<9)(hw:w=2∨w=3∨w=4∨w=5∨w=6∨w=8):Zg k n0 (Y9 w n c p ps)=false:=by
 unfold Zg at hs
 simp only[Bool.and_eq_true,decide_eq_true_eq,List.all_eq_true]at hs
 obtain⟨⟨⟨⟨h1,h2⟩,h3⟩,h4⟩,h5⟩:=hs
 have hp0:p.rows≠0:=h1 p (by rw[hp];exact List.mem_cons_self ..)
 rw[hp]at h2
 have h2:p.rows+X4 (·.rows) ps=n0:=h2
 rcases hw with rfl|rfl|rfl|rfl|rfl|rfl
 ·have:¬X4 (·.rows) ({p with rows:=p.rows+1}::ps)=n0:=by show ¬p.rows+1+X4 (·.rows) ps=n0;omega
  show Zg k n0 {c with pages:={p with rows:=p.rows+1}::ps}=false
  unfold Zg
  simp only[decide_eq_false this,Bool.and_false,Bool.false_and]
 ·show Zg k n0 {c with pages:={p with rows:=0}::ps}=false
  unfold Zg
  simp only[List.all_cons,ne_eq,not_true_eq_false,decide_false,Bool.false_and]
 ·have:¬257+n≤256:=by omega
  show Zg k n0 {c with words:=257+n}=false
  unfold Zg
  simp only[decide_eq_false this,Bool.and_false,Bool.false_and]
 ·have h6:¬(1+n=0∧c.size=0):=by omega
  have h7:¬((0:Int)=2):=by decide
  show Zg k n0 {c with words:=1+n,pages:={p with enc:=0}::ps}=false
  unfold Zg
  simp only[List.all_cons,decide_eq_false h7,decide_eq_false h6,Bool.false_and,Bool.or_false,Bool.and_false]
 ·have:¬(5000:Int)≤X4 (·.cells) c.pages:=by omega
  show Zg k n0 {c with known:=true,st:=⟨5000,false,default,default⟩}=false
  unfold Zg
  simp only[decide_eq_false this,Bool.false_and,Bool.not_true,Bool.or_false,Bool.and_false]
 ·have:¬X4 (·.rows) ps=n0:=by omega
  show Zg k n0 {c with pages:=ps}=false
  unfold Zg
  simp only[decide_eq_false this,Bool.and_false,Bool.false_and]
theorem IOq{m:Mt}(h:TurnOk m)(hne:m.groups≠[]){w n:Int}(hn:0≤n∧n<9)(hw:0≤w∧w<9)(h7:w≠7):Zz (XM w n m)=false:=by
 have hwn:=DV h.whole
 rcases W0 h w n with⟨e,_⟩|⟨hw0,g,gs,c,cs,p,ps,h1,h2,h3,e⟩
 ·rw[e]
  have:¬(Zd m.groups=m.n+1+n∧Zd m.groups≤200):=by omega
  unfold Zz
  simp only[decide_eq_false this,Bool.and_false]
 ·rw[e]
  have hgm:g∈m.groups:=by rw[h1];exact List.mem_cons_self ..
  have hcm:c∈g.chunks:=by rw[h2];exact List.mem_cons_self ..
  have hwh:=h.whole
  unfold Zz at hwh ⊢
  simp only[List.all_cons]
  by_cases h11:w=1
  ·simp only[if_pos h11,ne_eq,not_true_eq_false,decide_false,Bool.false_and]
  ·simp only[if_neg h11]
   rw[h1]at hwh
   simp only[List.all_cons,Bool.and_eq_true]at hwh
   have hs:=hwh.1.1.2
   have hl:=(h.g.groups g hgm).len
   rw[h2]at hs hl
   obtain⟨k,ks,hk⟩:=MX (l:=QR m.s) (by rw[←hl];exact Nat.succ_pos _)
   rw[hk,Zn,Bool.and_eq_true]at hs
   have hpr:0≤p.rows:=by
    have:=(h.g.groups g hgm).chunks 0 (by rw[h2];exact Nat.succ_pos _)
    rw[h2]at this
    exact(this.pages p (by show p∈c.pages;rw[h3];exact List.mem_cons_self ..)).n1.1
   have hf:=El (w:=w) (n:=n) hs.1 h3 (h.few g hgm c hcm) hpr hn (by omega)
   rw[hk,Zn,hf]
   simp only[Bool.false_and,Bool.and_false]
theorem EF{m:Mt}(h:TurnOk m)(hne:m.groups≠[]){w n:Int}(hn:0≤n∧n<9)(hw:0≤w∧w<9)(h7:w≠7):YQ (mtB (XM w n m))=(mt0,10):=by
 have:=Li (Pm h hn h7) []
 rw[List.append_nil]at this
 show GB (WM ⟨mtB (XM w n m),0⟩)=_
 rw[this,G4,if_pos (IOq h hne hn hw h7)]
theorem OP{k:Int}{c:Ck}(h1:c.st.mn.s.length≤100)(h2:c.st.mx.s.length≤100)(h40:c.pages.length≤40):(ckB k c).length≤2836:=by
 have e1:=Wt [c.words,c.size]
 have e2:=Wt [(c.pages.length:Int)]
 have e3:=Ch c.pages
 simp only[List.length_cons,List.length_nil]at e1 e2
 have h4:(if c.known=true then stB k c.st else[]).length≤232:=by
  split
  ·have h5:=Wt [c.st.nulls]
   simp only[List.length_cons,List.length_nil]at h5
   unfold stB
   have h6:(if c.st.has=true then vlB k c.st.mn++vlB k c.st.mx else[]).length≤220:=by
    split
    ·have:=Hx (k:=k) h1
     have:=Hx (k:=k) h2
     rw[List.length_append];omega
    ·simp
   rw[List.length_append,List.length_append,Ie];omega
  ·simp
 unfold ckB
 simp only[List.length_append,XH,Ie]
 omega
theorem Cp{m:Mt}(hs:(sbF m.s).length≤600)(hg:m.groups.length≤4)(hc:∀g∈m.groups,g.chunks.length≤40∧ ∀c∈g.chunks,(c.st.mn.s.length≤100∧c.st.mx.s.length≤100)∧c.pages.length≤40):(mtB m).length≤500000:=by
 have hr:(XP (QR m.s) m.groups).length≤113460*m.groups.length:=by
  refine BZ _ _ _ fun r hr=>?_
  obtain⟨h1,h2⟩:=hc r hr
  have e1:=Wt [r.n]
  simp only[List.length_cons,List.length_nil]at e1
  have e2:=CW (QR m.s) r.chunks fun i _ hi=>by
   have hm:r.chunks.getD i default∈r.chunks:=by rw[List.getD_eq_getElem?_getD,List.getElem?_eq_getElem hi];exact List.getElem_mem hi
   exact OP (h2 _ hm).1.1 (h2 _ hm).1.2 (h2 _ hm).2
  rw[rwB,List.length_append];omega
 have h1:=Wt [((sbF m.s).length:Int)]
 have h3:=Wt [m.n,(m.groups.length:Int)]
 simp only[List.length_cons,List.length_nil]at h1 h3
 unfold mtB
 simp only[List.length_append]
 omega
theorem RE{k:Int}{c:Ck}(h:CkG k c):c.st.mn.s.length≤100∧c.st.mx.s.length≤100:=by
 cases hk:c.known with
 |false=>rw[h.st0 hk];exact⟨Nat.zero_le _,Nat.zero_le _⟩
 |true=>
  cases hh:c.st.has with
  |false=>obtain⟨h1,h2⟩:=h.has0 hk hh;rw[h1,h2];exact⟨Nat.zero_le _,Nat.zero_le _⟩
  |true=>obtain⟨h1,h2⟩:=h.has1 hk hh;exact⟨Hw h1,Hw h2⟩
theorem Pk{m:Mt}(h:TurnOk m)(w n:Int):(mtB (XM w n m)).length≤500000:=by
 have hk:(QR m.s).length≤40:=by
  have h1:(QR m.s).length=(Qu m.s).length:=List.length_map ..
  have h2:(Qu m.s).length≤m.s.length:=Zu _ _ _
  have:=h.g.s40;omega
 have key:∀g∈m.groups,g.chunks.length≤40∧ ∀c∈g.chunks,(c.st.mn.s.length≤100∧c.st.mx.s.length≤100)∧c.pages.length≤40:=fun g hg=>by
  have hl:=(h.g.groups g hg).len
  refine⟨by omega,fun c hc=>⟨?_,(h.low g hg c hc).1⟩⟩
  obtain⟨i,hi,rfl⟩:=List.mem_iff_getElem.1 hc
  have:=(h.g.groups g hg).chunks i hi
  rw[show g.chunks.getD i default=g.chunks[i] from by rw[List.getD_eq_getElem?_getD,List.getElem?_eq_getElem hi];rfl]at this
  exact RE this
 rcases W0 h w n with⟨e,_⟩|⟨hw0,g,gs,c,cs,p,ps,h1,h2,h3,e⟩
 ·rw[e];exact Cp h.sl h.gl key
 ·rw[e]
  refine Cp h.sl (by have:=h.gl;rw[h1]at this;exact this) fun r hr=>?_
  have hgm:g∈m.groups:=by rw[h1];exact List.mem_cons_self ..
  rcases List.mem_cons.1 hr with rfl|hr
  ·obtain⟨k1,k2⟩:=key g hgm
   refine⟨by rw[h2]at k1;exact k1,fun d hd=>?_⟩
   rcases List.mem_cons.1 hd with rfl|hd
   ·obtain⟨q1,q2⟩:=k2 c (by rw[h2];exact List.mem_cons_self ..)
    have hpl:=K2 w n c p ps h3
    obtain⟨_,_,s3⟩:=K1 w n c p ps
    refine⟨?_,by omega⟩
    rcases s3 with⟨_,s4⟩|⟨_,s4⟩
    ·rw[s4];exact q1
    ·rw[s4];exact⟨Nat.zero_le _,Nat.zero_le _⟩
   ·exact k2 d (by rw[h2];exact List.mem_cons_of_mem _ hd)
  ·exact key r (by rw[h1];exact List.mem_cons_of_mem _ hr)
structure Rd{α:Type}(R:BR→α×BR):Prop where
 stick:∀r:BR,r.e≠0→(R r).2.e=r.e
 front:∀(b t:List UInt8) (v:α) (r:List UInt8),R ⟨b++t,0⟩=(v,⟨r,0⟩)→(∃r',r=r'++t∧R ⟨b,0⟩=(v,⟨r',0⟩))∨(R ⟨b,0⟩).2.e=8
def XJ{α:Type}(v:α):BR→α×BR:=fun r=>(v,r)
def QI{α β:Type}(R:BR→α×BR)(S:α→BR→β×BR):BR→β×BR:=fun r=>S (R r).1 (R r).2
def F6{α:Type}(d:α)(R:BR→α×BR):BR→α×BR:=fun r=>if r.e≠0 then(d,r)else R r
theorem Z4{α:Type}(v:α):Rd (XJ v):=⟨fun _ _=>rfl,fun b t v' r h=>.inl ⟨b,by unfold XJ at h;injection h with h1 h2;injection h2 with h2 h3;exact h2.symm,by unfold XJ at h ⊢;injection h with h1 h2;rw[h1]⟩⟩
theorem Qj{α β:Type}{R:BR→α×BR}{S:α→BR→β×BR}(h1:Rd R)(h2:∀v,Rd (S v)):Rd (QI R S):=by
 refine⟨fun r hr=>?_,fun b t v r h=>?_⟩
 ·have e:=h1.stick r hr
  show(S (R r).1 (R r).2).2.e=r.e
  rw[(h2 _).stick _ (by rw[e];exact hr),e]
 ·have h:S (R ⟨b++t,0⟩).1 (R ⟨b++t,0⟩).2=(v,⟨r,0⟩):=h
  have h0:(R ⟨b++t,0⟩).2.e=0:=by
   rcases Classical.em ((R ⟨b++t,0⟩).2.e=0)with k|k
   ·exact k
   ·have:=(h2 (R ⟨b++t,0⟩).1).stick _ k
    rw[h]at this;exact absurd this.symm k
  generalize hq:R ⟨b++t,0⟩=q at *
  obtain⟨v1,b1,e1⟩:=q
  have h0:e1=0:=h0
  subst h0
  rcases h1.front b t v1 b1 hq with⟨r',rfl,k⟩|k
  ·rcases(h2 v1).front r' t v r h with⟨r2,k1,k2⟩|k2
   ·exact .inl ⟨r2,k1,by show S (R ⟨b,0⟩).1 (R ⟨b,0⟩).2=_;rw[k];exact k2⟩
   ·exact .inr (by show(S (R ⟨b,0⟩).1 (R ⟨b,0⟩).2).2.e=8;rw[k];exact k2)
  ·refine .inr ?_
   show(S (R ⟨b,0⟩).1 (R ⟨b,0⟩).2).2.e=8
   rw[(h2 _).stick _ (by rw[k];decide),k]
theorem Uh{α:Type}(d:α){R:BR→α×BR}(h:Rd R):Rd (F6 d R):=by
 refine⟨fun r hr=>by unfold F6;rw[if_pos hr],fun b t v r hh=>?_⟩
 have e:∀c:List UInt8,F6 d R ⟨c,0⟩=R ⟨c,0⟩:=fun c=>if_neg (fun k=>k rfl)
 rw[e]at hh ⊢
 exact h.front b t v r hh
theorem Ig{α:Type}(v:α)(x:Int):Rd (fun r=>(v,Qs r x)):=by
 refine⟨fun r hr=>by show(Qs r x).e=r.e;unfold Qs;rw[if_neg hr],fun b t v' r h=>?_⟩
 have e:∀c:List UInt8,Qs ⟨c,0⟩ x=⟨c,x⟩:=fun c=>if_pos rfl
 simp only[e]at h ⊢
 injection h with h1 h2
 injection h2 with h2 h3
 subst h1 h2 h3
 exact .inl ⟨b,rfl,rfl⟩
theorem YP(n:Nat):Rd (QC n):=by
 refine⟨fun r hr=>?_,fun b t v r h=>?_⟩
 ·have e:(if r.b.length<n then Qs r 8 else r)=r:=by
   split
   ·unfold Qs;rw[if_neg hr]
   ·rfl
  unfold QC
  rw[e,if_pos hr]
 ·by_cases hl:b.length<n
  ·refine .inr ?_
   unfold QC
   rw[if_pos (show(⟨b,0⟩:BR).b.length<n from hl),show Qs ⟨b,0⟩ 8=⟨b,8⟩ from rfl,if_pos (show(8:Int)≠0 by decide)]
  ·have e:∀c:List UInt8,¬c.length<n→QC n ⟨c,0⟩=(c.take n,⟨c.drop n,0⟩):=fun c hc=>by
    unfold QC
    rw[if_neg (show ¬(⟨c,0⟩:BR).b.length<n from hc),if_neg (fun k=>k rfl)]
   rw[e _ (by rw[List.length_append];omega)]at h
   rw[e _ hl]
   injection h with h1 h2
   injection h2 with h2 h3
   refine .inl ⟨b.drop n,?_,?_⟩
   ·rw[←h2,List.drop_append_of_le_length (by omega)]
   ·rw[←h1,List.take_append_of_le_length (by omega)]
theorem Kh:∀(b t:List UInt8) (k v:Nat),(QN (b++t) k v).2.2=0→(QN b k v=QN (b++t) k v∧(QN b k v).2.1≤k+b.length)∨(QN b k v).2.2=8
 |[],t,k,v,_=>.inr rfl
 |x::b,t,k,v,h=>by
  rw[List.cons_append,QN]at h
  rw[List.cons_append,QN,QN]
  split at h
  ·cases h
  ·rename_i h1
   rw[if_neg h1]
   split at h
   ·rename_i h2
    rw[if_pos h2]
    split at h
    ·cases h
    ·rename_i h3
     rw[if_neg h3]
     exact .inl ⟨by rw[if_neg h1,if_pos h2],by show k+1≤_;rw[List.length_cons];omega⟩
   ·rename_i h2
    rw[if_neg h2]
    rcases Kh b t (k+1) _ h with⟨h4,h5⟩|h4
    ·refine .inl ⟨by rw[if_neg h1,if_neg h2];exact h4,?_⟩
     rw[List.length_cons];omega
    ·exact .inr h4
theorem Vg(most:Nat)(w:Int)(hw:w≠0):Rd (Qx most w):=by
 refine⟨fun r hr=>by unfold Qx;rw[if_pos hr],fun b t v r h=>?_⟩
 have e:∀c:List UInt8,Qx most w ⟨c,0⟩=if(QC (QN c 0 0).2.1 (X2 most w ⟨c,0⟩)).2.e≠0 then(0,(QC (QN c 0 0).2.1 (X2 most w ⟨c,0⟩)).2)else((QN c 0 0).1,(QC (QN c 0 0).2.1 (X2 most w ⟨c,0⟩)).2):=fun c=>if_neg (fun k=>k rfl)
 have hbad:∀(c:List UInt8) (x:Int),x≠0→X2 most w ⟨c,0⟩=⟨c,x⟩→(Qx most w ⟨c,0⟩).2.e=x:=by
  intro c x hx hc
  rw[e,hc]
  have:=(YP (QN c 0 0).2.1).stick ⟨c,x⟩ hx
  rw[if_pos (by rw[this];exact hx)];exact this
 have hg:(QN (b++t) 0 0).2.2=0:=by
  rcases Classical.em ((QN (b++t) 0 0).2.2=0)with k|k
  ·exact k
  ·have h1:X2 most w ⟨b++t,0⟩=⟨b++t,(QN (b++t) 0 0).2.2⟩:=by
    unfold X2
    rw[if_neg (fun hh=>k hh.1)];rfl
   have:=hbad _ _ k h1
   rw[h]at this;exact absurd this.symm k
 have hm:¬most<(QN (b++t) 0 0).1:=by
  intro k
  have h1:X2 most w ⟨b++t,0⟩=⟨b++t,w⟩:=by
   unfold X2
   rw[if_pos ⟨hg,k⟩]
   show Qs (Qs ⟨b++t,0⟩ (QN (b++t) 0 0).2.2) w=_
   rw[hg];rfl
  have:=hbad _ _ hw h1
  rw[h]at this;exact absurd this.symm hw
 have hok:∀c:List UInt8,QN c 0 0=QN (b++t) 0 0→X2 most w ⟨c,0⟩=⟨c,0⟩:=by
  intro c hc
  unfold X2
  rw[show QN (⟨c,0⟩:BR).b 0 0=QN (b++t) 0 0 from hc,if_neg (fun hh=>hm hh.2),hg];rfl
 rcases Kh b t 0 0 hg with⟨k1,k2⟩|k
 ·rw[e,hok _ rfl]at h
  rw[e,hok _ k1,k1]
  rw[k1]at k2
  generalize QN (b++t) 0 0=q at *
  have hst:∀c:List UInt8,q.2.1≤c.length→QC q.2.1 ⟨c,0⟩=(c.take q.2.1,⟨c.drop q.2.1,0⟩):=fun c hc=>by
   unfold QC
   rw[if_neg (show ¬(⟨c,0⟩:BR).b.length<q.2.1 from Nat.not_lt.2 hc),if_neg (fun k=>k rfl)]
  rw[hst _ (by rw[List.length_append];omega),if_neg (fun k=>k rfl)]at h
  rw[hst _ (by omega),if_neg (fun k=>k rfl)]
  injection h with h1 h2
  injection h2 with h2 h3
  exact .inl ⟨b.drop q.2.1,by rw[←h2,List.drop_append_of_le_length (by omega)],by rw[h1]⟩
 ·refine .inr (hbad b 8 (by decide) ?_)
  unfold X2
  rw[if_neg (fun hh=>by rw[show(QN (⟨b,0⟩:BR).b 0 0).2.2=8 from k]at hh;exact absurd hh.1 (by decide)),show(QN (⟨b,0⟩:BR).b 0 0).2.2=8 from k];rfl
theorem WO(n:Nat):Rd (Z0 n):=Qj (R:=QC n) (S:=fun v=>XJ (leV v)) (YP n) fun v=>Z4 _
theorem ZI:Rd plainR:=Vg 1048576 14 (by decide)
theorem U7:Rd truthR:=by
 have:truthR=QI (Z0 1) fun v r=>if 1<v then(0,Qs r 10)else(v,r):=by
  funext r;rfl
 rw[this]
 refine Qj (WO 1) fun v=>?_
 by_cases h:1<v
 ·simp only[if_pos h];exact Ig 0 10
 ·simp only[if_neg h];exact Z4 v
theorem Mi(k:Int):Rd (Ym k):=by
 by_cases h1:k=1
 ·subst h1
  exact Qj (R:=truthR) (S:=fun v=>XJ (⟨(v:Nat),[]⟩:Vl)) U7 fun v=>Z4 _
 by_cases h2:k=2
 ·subst h2
  exact Qj (R:=Z0 4) (S:=fun v=>XJ (⟨wr .i32 (v:Nat),[]⟩:Vl)) (WO 4) fun v=>Z4 _
 by_cases h3:k=3
 ·subst h3
  exact Qj (R:=Z0 8) (S:=fun v=>XJ (⟨wr .i64 (v:Nat),[]⟩:Vl)) (WO 8) fun v=>Z4 _
 have:Ym k=QI (Qx 100 5) fun n=>QI (QC n) fun t=>XJ (⟨0,t⟩:Vl):=by
  funext r;exact DY ⟨h1,h2,h3⟩ r
 rw[this]
 exact Qj (Vg _ _ (by decide)) fun n=>Qj (YP n) fun t=>Z4 _
theorem HV:Rd pageR:=
 Qj (R:=plainR) (S:=fun a=>QI plainR fun b=>QI plainR fun c=>QI plainR fun d=>QI plainR fun e=>QI plainR fun f=>QI (Z0 4) fun g=>XJ (⟨a,b,c,d,e,f,g⟩:Pg)) ZI fun a=>Qj ZI fun b=>Qj ZI fun c=>Qj ZI fun d=>Qj ZI fun e=>Qj ZI fun f=>Qj (WO 4) fun g=>Z4 _
theorem Uc:∀(k:Nat) (s:List Pg),Rd fun r=>ZC k r s
 |0,s=>Z4 s
 |k+1,s=>Uh s (Qj (R:=pageR) (S:=fun p r=>ZC k r (s++[p])) HV fun p=>Uc k _)
theorem Tp:Rd ckR0:=
 Qj (R:=plainR) (S:=fun a=>QI plainR fun b=>QI (Z0 4) fun c=>XJ (a,b,c)) ZI fun a=>Qj ZI fun b=>Qj (WO 4) fun c=>Z4 _
theorem I8(k:Int):Rd (YC k):=by
 have:YC k=QI truthR fun t=>if t≠1 then XJ (false,default)else QI plainR fun n=>QI truthR fun h=>if h≠1 then XJ (true,(⟨n,false,default,default⟩:Sta))else QI (Ym k) fun a=>QI (Ym k) fun b=>XJ (true,(⟨n,true,a,b⟩:Sta)):=by
  funext r
  unfold YC QI
  dsimp only
  split
  ·rfl
  ·dsimp only
   split<;>rfl
 rw[this]
 refine Qj U7 fun t=>?_
 by_cases h:t≠1
 ·rw[if_pos h];exact Z4 _
 ·rw[if_neg h]
  refine Qj ZI fun n=>Qj U7 fun t2=>?_
  by_cases h:t2≠1
  ·rw[if_pos h];exact Z4 _
  ·rw[if_neg h]
   exact Qj (Mi k) fun a=>Qj (Mi k) fun b=>Z4 _
theorem CX(k:Int):Rd (Zl k):=by
 have e:Zl k=QI ckR0 (fun a=>QI (Qx 200 4) fun n=>QI (fun r=>ZC n r []) fun p=>QI (YC k) fun q=>XJ (⟨a.1,a.2.1,a.2.2,p,q.1,q.2⟩:Ck)):=by
  funext r;simp only[Zl,QI,XJ]
 rw[e]
 exact Qj (R:=ckR0) (S:=fun a=>QI (Qx 200 4) fun n=>QI (fun r=>ZC n r []) fun p=>QI (YC k) fun q=>XJ (⟨a.1,a.2.1,a.2.2,p,q.1,q.2⟩:Ck)) Tp fun a=>Qj (Vg _ _ (by decide)) fun n=>Qj (Uc n []) fun p=>Qj (I8 k) fun q=>Z4 _
theorem VE:∀(ks:List Int) (s:List Ck),Rd fun r=>Z6 ks r s
 |[],s=>Z4 s
 |k::ks,s=>Uh s (Qj (R:=Zl k) (S:=fun p r=>Z6 ks r (s++[p])) (CX k) fun p=>VE ks _)
theorem CF(ks:List Int):Rd (Ze ks):=
 Qj (R:=plainR) (S:=fun a=>QI (fun r=>Z6 ks r []) fun c=>XJ (⟨a,c⟩:Rw)) ZI fun a=>Qj (VE ks []) fun c=>Z4 _
theorem WC(ks:List Int):∀(k:Nat) (s:List Rw),Rd fun r=>Z3 ks k r s
 |0,s=>Z4 s
 |k+1,s=>Uh s (Qj (R:=Ze ks) (S:=fun p r=>Z3 ks k r (s++[p])) (CF ks) fun p=>WC ks k _)
section
set_option maxRecDepth 100000
set_option maxHeartbeats 4000000
abbrev cTn:CallT:=Q6 13 (BN G_wi) Q7
theorem It[Syms]:cTn.det Try.prog:=UD DU Q3
noncomputable def plTn:Nat→Nat→Pl:=XG [(14,7),(14,10),(14,12),(14,14),(14,16),(14,18),(14,20),(14,22),(14,24)] (Qz plt)
abbrev rowX(a b c:Int)(v:AVal)(k:Bool)(t:Sta):List AVal:=[.int .i64 a,.int .i64 b,.int .u32 c,v,.bool k,.int .i64 t.nulls,.bool t.has,.int .i64 t.mn.n,.str t.mn.s,.int .i64 t.mx.n,.str t.mx.s]
def tn0(w n':Int)(m:Mt)(g:Rw)(c:Ck):St:=⟨[(1,.int .i64 w),(2,.int .i64 n'),(3,.ptr 0 0 0),(6,.ptr 1 0 0),(7,.ptr 2 0 0),(8,.ptr 4 0 0)],[(0,some (.cells [QT m] false)),(1,some (.cells [QE .nils 0 .nils] false)),(2,some (.cells [encR g] false)),(4,some (.cells [rowX c.words c.size c.crc (.slice 3 0 c.pages.length 7 none) c.known c.st] false)),(3,some (.cells (c.pages.map encP) false))],5⟩
theorem JI:∀l:List AVal,Ww l l
 |[]=>trivial
 |a::l=>⟨.refl a,JI l⟩
def tnS(m:Mt)(g:Rw)(c:Ck):St:=⟨[(3,.ptr 0 0 0),(6,.ptr 1 0 0),(7,.ptr 2 0 0),(8,.ptr 4 0 0)],[(0,some (.cells [QT m] false)),(1,some (.cells [QE .nils 0 .nils] false)),(2,some (.cells [encR g] false)),(4,some (.cells [encC c] false))],5⟩
theorem CI{n:Nat}{rows:List (List AVal)}:∀l:List AVal,FzL n rows l l
 |[]=>trivial
 |a::l=>⟨.same a,CI l⟩
theorem KE{α:Type}{l:List α}{n:Nat}(h:n=l.length):(l.drop 0).take n=l:=by subst h;rw[List.drop_zero,List.take_length]
theorem Gp[Syms]{N nx off len:Nat}{cap:Option Nat}{en:Env}{H:Heap}{m:Mt}{g:Rw}{c:Ck}{grow:List AVal}{rows:List (List AVal)}{w1 z1 r1 u1 n1 n2:Int}{k1 a1:Bool}{s1 s2:List UInt8}(hn:QG 0 nx [0,1,2,3,4]=true)(h3:en.get 3= .ptr 0 0 0)(h6:en.get 6= .ptr 1 0 0)(h7:en.get 7= .ptr 2 0 0)(h8:en.get 8= .ptr 4 0 0)
 (H0:H.get 0=some (.cells [QT m] false)) (H1:H.get 1=some (.cells [QE .nils 0 .nils] false)) (H2:H.get 2=some (.cells [grow] false)) (hg:Ww grow (encR g))
 (H3:H.get 4=some (.cells [[.int .i64 w1,.int .i64 z1,.int .u32 r1,.slice 3 off len 7 cap,.bool k1,.int .i64 u1,.bool a1,.int .i64 n1,.str s1,.int .i64 n2,.str s2]] false)) (H4:H.get 3=some (.cells rows false))
 (hc:(⟨w1,z1,r1,c.pages,k1,⟨u1,a1,⟨n1,s1⟩,⟨n2,s2⟩⟩⟩:Ck)=c) {full:List Pg} (hrows:rows=full.map encP) (hfull:(full.drop off).take len=c.pages) (hln:off+len≤full.length):Reb 0 N ⟨en,H,nx⟩ (tnS m g c):=by
 have hf:Qm rows:=hrows▸fP full
 have hlen:off+len≤rows.length:=by rw[hrows,List.length_map];exact hln
 have hr:(rows.drop off).take len=c.pages.map encP:=by rw[hrows,←hfull,List.map_take,List.map_drop]
 have hrow:encC c=[.int .i64 w1,.int .i64 z1,.int .u32 r1,.vs 7 (c.pages.map encP),.bool k1,.int .i64 u1,.bool a1,.int .i64 n1,.str s1,.int .i64 n2,.str s2]:=by
  conv=>lhs;rw[←hc]
  rfl
 by_cases hl:len=0
 ·subst hl
  rw[List.take_zero]at hr
  rw[←hr]at hrow
  refine Q0 [0,1,2,3,4] hn ⟨by rw[h3];exact .refl _,by rw[h6];exact .refl _,by rw[h7];exact .refl _,by rw[h8];exact .refl _,trivial⟩
   ⟨⟨by decide,_,H0,QM (row':=QT m) (JI _) (eM m)⟩,⟨by decide,_,H1,.refl _⟩,⟨by decide,_,H2,QM hg (eR g)⟩,⟨by decide,_,H3,QM (hrow▸?_) (eC c)⟩,trivial⟩
  exact⟨.refl _,.refl _,.refl _,.zero _ _ rfl,.refl _,.refl _,.refl _,.refl _,.refl _,.refl _,.refl _,trivial⟩
 ·have hs:FzV 3 rows (.slice 3 off len 7 none) (.vs 7 (c.pages.map encP)):=by
   have:=FzV.sl (n:=3) (rows:=rows) off len 7 none (by omega) hlen
   rwa [hr]at this
  refine(Q0 (e3:=[(3,.ptr 0 0 0),(6,.ptr 1 0 0),(7,.ptr 2 0 0),(8,.ptr 4 0 0)]) (H3:=[(0,some (.cells [QT m] false)),(1,some (.cells [QE .nils 0 .nils] false)),(2,some (.cells [encR g] false)),(4,some (.cells [[.int .i64 w1,.int .i64 z1,.int .u32 r1,.slice 3 off len 7 none,.bool k1,.int .i64 u1,.bool a1,.int .i64 n1,.str s1,.int .i64 n2,.str s2]] false)),(3,some (.cells rows false))]) [0,1,2,3,4] hn ⟨by rw[h3];exact .refl _,by rw[h6];exact .refl _,by rw[h7];exact .refl _,by rw[h8];exact .refl _,trivial⟩
   ⟨⟨by decide,_,H0,QM (row':=QT m) (JI _) (eM m)⟩,⟨by decide,_,H1,.refl _⟩,⟨by decide,_,H2,QM hg (eR g)⟩,⟨by decide,_,H3,QB (row':=[.int .i64 w1,.int .i64 z1,.int .u32 r1,.slice 3 off len 7 cap,.bool k1,.int .i64 u1,.bool a1,.int .i64 n1,.str s1,.int .i64 n2,.str s2]) (row:=[.int .i64 w1,.int .i64 z1,.int .u32 r1,.slice 3 off len 7 none,.bool k1,.int .i64 u1,.bool a1,.int .i64 n1,.str s1,.int .i64 n2,.str s2]) ⟨.refl _,.refl _,.refl _,.cap _ _ _ _ _,.refl _,.refl _,.refl _,.refl _,.refl _,.refl _,.refl _,trivial⟩⟩,⟨by decide,_,H4,Qb hf⟩,trivial⟩).trans ?_
  refine QV (n:=3) rfl hf ⟨.same _,.same _,.same _,.same _,trivial⟩
   ⟨⟨by decide,_,rfl,.same _⟩,⟨by decide,_,rfl,.same _⟩,⟨by decide,_,rfl,.same _⟩,⟨by decide,_,rfl,.cells _ [encC c] false rfl (fun j r r' h h'=>?_)⟩,trivial⟩
  cases j with
  |zero=>
   cases h;cases h'
   rw[hrow]
   exact⟨.same _,.same _,.same _,hs,.same _,.same _,.same _,.same _,.same _,.same _,.same _,trivial⟩
  |succ j=>simp at h
theorem Sy{ρ:Nat→Nat}{row row':List AVal}{rows:List (List AVal)}(h:Ww row' (AVal.renL ρ row))(hf:Qm rows):WkB (.cells (row'::rows) false) ((Blk.cells (row::rows) false).ren ρ):=by
 have e:(Blk.cells (row::rows) false).ren ρ= .cells (AVal.renL ρ row::rows) false:=by
  have:=Jn ρ (ro:=false) hf
  simp only[Blk.ren,List.map_cons]at this ⊢
  injection this with h1 h2
  rw[h1]
 rw[e]
 refine .each _ _ _ rfl fun k r r' h1 h2=>?_
 cases k with
 |zero=>
  cases h1;cases h2
  exact⟨h.at.1.symm,h.at.2⟩
 |succ k=>
  have h1:rows[k]?=some r:=h1
  have h2:rows[k]?=some r':=h2
  rw[h1]at h2;cases h2
  exact⟨rfl,fun j x x' g1 g2=>by rw[g1]at g2;cases g2;exact .refl _⟩
theorem Zr[Syms]{N nx k G C lenG lenC:Nat}{capG capC:Option Nat}{e:Env}{H:Heap}{s:List Fd}{mn gn:Int}{c:Ck}{cs:List Ck}{gs:List Rw}{rG rC R Q:List (List AVal)}{rs:List ResultVar}{V:AVal}(h6:e.get 6= .ptr k 0 0)(Hk:H.get k=some (.cells [[.vs 4 (s.map encF),.int .i64 mn,.slice G 0 lenG 2 capG]] false))(HG:H.get G=some (.cells rG false))(hG:rG=[.int .i64 gn,.slice C 0 lenC 11 capC]::R)(HC:H.get C=some (.cells rC false))(hC:rC=encC c::Q)
 (hR:R=gs.map encR) (hQ:Q=cs.map encC) (hlG:lenG=gs.length+1) (hlC:lenC=cs.length+1) (hn:QG 0 nx [k,G,C]=true) (hV:V= .agg (QT ⟨s,mn,⟨gn,c::cs⟩::gs⟩))
 (hrs:Zc (Qn tys) ⟨[(6,.ptr 0 0 0)],[(0,some (.cells [QT ⟨s,mn,⟨gn,c::cs⟩::gs⟩] false))],3⟩ rs=some (.agg (QT ⟨s,mn,⟨gn,c::cs⟩::gs⟩))):
 ∃s3,Reb 0 N ⟨e,H,nx⟩ s3∧ ∃v,Zc (Qn tys) s3 rs=some v∧Vt (fun v H _=>v=V∧H=[]) v s3.heap s3.nx:=by
 subst hR hQ hG hC hlG hlC hV
 refine⟨_,?_,_,hrs,[],fun n b h=>(by rw[Heap.get_nil]at h;cases h),rfl,rfl⟩
 refine(Q0 (e3:=[(6,.ptr 0 0 0)]) (H3:=[(0,some (.cells [[.vs 4 (s.map encF),.int .i64 mn,.slice 1 0 (gs.length+1) 2 none]] false)),(1,some (.cells ([.int .i64 gn,.slice 2 0 (cs.length+1) 11 none]::gs.map encR) false)),(2,some (.cells ((c::cs).map encC) false))]) [k,G,C] hn ⟨by rw[h6];exact .refl _,trivial⟩
  ⟨⟨show 0<3 by decide,_,Hk,QB (row':=[.vs 4 (s.map encF),.int .i64 mn,.slice G 0 (gs.length+1) 2 capG]) (row:=[.vs 4 (s.map encF),.int .i64 mn,.slice 1 0 (gs.length+1) 2 none]) ⟨.refl _,.refl _,.cap _ _ _ _ _,trivial⟩⟩,⟨show 1<3 by decide,_,HG,?_⟩,⟨show 2<3 by decide,_,HC,Qb (rows:=(c::cs).map encC) (fC _)⟩,trivial⟩).trans ?_
 ·exact Sy (row:=[.int .i64 gn,.slice 2 0 (cs.length+1) 11 none]) ⟨.refl _,.cap _ _ _ _ _,trivial⟩ (fR gs)
 have hC:FzV 2 ((c::cs).map encC) (.slice 2 0 (cs.length+1) 11 none) (.vs 11 ((c::cs).map encC)):=by
  have:=FzV.sl (n:=2) (rows:=(c::cs).map encC) 0 (cs.length+1) 11 none (Nat.succ_pos _) (by simp)
  rwa [KE (by simp)]at this
 have hG:FzV 1 ((⟨gn,c::cs⟩::gs:List Rw).map encR) (.slice 1 0 (gs.length+1) 2 none) (.vs 2 ((⟨gn,c::cs⟩::gs:List Rw).map encR)):=by
  have:=FzV.sl (n:=1) (rows:=(⟨gn,c::cs⟩::gs:List Rw).map encR) 0 (gs.length+1) 2 none (Nat.succ_pos _) (by simp)
  rwa [KE (by simp)]at this
 refine Reb.trans (s':=⟨[(6,.ptr 0 0 0)],[(0,some (.cells [[.vs 4 (s.map encF),.int .i64 mn,.slice 1 0 (gs.length+1) 2 none]] false)),(1,some (.cells ((⟨gn,c::cs⟩::gs:List Rw).map encR) false))],3⟩) ?_ ?_
 ·refine QV (n:=2) rfl (fC (c::cs)) ⟨.same _,trivial⟩ ⟨⟨by decide,_,rfl,.same _⟩,⟨by decide,_,rfl,.cells _ _ false rfl (fun j r r' h h'=>?_)⟩,trivial⟩
  cases j with
  |zero=>
   cases h;cases h'
   exact⟨.same _,hC,trivial⟩
  |succ j=>
   have h1:(gs.map encR)[j]?=some r:=h
   have h2:(gs.map encR)[j]?=some r':=h'
   rw[h1]at h2;cases h2
   exact CI _
 ·refine QV (n:=1) rfl (fR (⟨gn,c::cs⟩::gs)) ⟨.same _,trivial⟩ ⟨⟨by decide,_,rfl,.cells _ [QT ⟨s,mn,⟨gn,c::cs⟩::gs⟩] false rfl (fun j r r' h h'=>?_)⟩,trivial⟩
  cases j with
  |zero=>
   cases h;cases h'
   exact⟨.same _,.same _,hG,trivial⟩
  |succ j=>simp at h
theorem tlC(c:Ck)(cs:List Ck):List.take ((List.map encC (c::cs)).length-1) (List.drop 1 (List.map encC (c::cs)))=cs.map encC:=by
 rw[List.map_cons,List.drop_one,List.tail_cons,List.take_of_length_le (by simp)]
theorem tlR(c:Rw)(cs:List Rw):List.take ((List.map encR (c::cs)).length-1) (List.drop 1 (List.map encR (c::cs)))=cs.map encR:=by
 rw[List.map_cons,List.drop_one,List.tail_cons,List.take_of_length_le (by simp)]
theorem len0:∀(a:Rw) (l:List Rw),((((a::l).length:Nat):Int)=0)=False:=fun a l=>eq_false (by rw[List.length_cons];omega)
theorem Q0f:∀(a:Rw) (l:List Rw),((((List.map encR (a::l)).length:Nat):Int)=0)=False:=fun a l=>eq_false (by rw[List.length_map,List.length_cons];omega)
theorem Q0d:∀(a:Pg) (l:List Pg),((List.map encP (a::l)).length=0)=False:=fun a l=>eq_false (by rw[List.length_map,List.length_cons];omega)
theorem Q0e:((([]:List Rw).length:Nat):Int)=0:=rfl
theorem B7(n:Nat):(0:Int)<((n+1:Nat):Int):=by omega
theorem Cj(n:Nat):(1:Int)≤((n+1:Nat):Int):=by omega
theorem Ot[Syms]{N n nx:Nat}{e:Env}{H:Heap}{row' row:List AVal}{rs:List ResultVar}{V:AVal}(hk:e.get 6= .ptr n 0 0)(Hn:H.get n=some (.cells [row'] false))(hrow:Ww row' row)(hf:∀x∈row,x.flat=true)
 (hn:QG 0 nx [n]=true) (hrs:Zc (Qn tys) ⟨[(6,.ptr 0 0 0)],[(0,some (.cells [row] false))],1⟩ rs=some (.agg row)) (hP:V= .agg row):
 ∃s3,Reb 0 N ⟨e,H,nx⟩ s3∧ ∃v,Zc (Qn tys) s3 rs=some v∧Vt (fun v H _=>v=V∧H=[]) v s3.heap s3.nx:=
 ⟨⟨[(6,.ptr 0 0 0)],[(0,some (.cells [row] false))],1⟩,Q0 [n] hn ⟨by rw[hk];exact .refl _,trivial⟩ ⟨⟨Nat.lt_succ_self _,_,Hn,QM hrow hf⟩,trivial⟩,_,hrs,[],fun n b h=>(by rw[Heap.get_nil]at h;cases h),hP.symm,rfl⟩
theorem SB[Syms](m:Mt)(w n:Int)(hm:TurnOk m)(hw:I64 w)(hn:I64 n):
 fnT cTn cTn (Qv fns) (Qn tys) plTn 100 14 [.agg (QT m),.int .i64 w,.int .i64 n] [] 0 (Vt (fun v H _=>v= .agg (QT (XM (wi w 9) (wi n 9) m))∧H=[])):=by
 have hw9:=Yp (a:=w) (n:=9) (by decide)
 have hn9:=Yp (a:=n) (n:=9) (by decide)
 have hmn:Wc m.n:=hm.g.n
 obtain⟨s,mn,gs⟩:=m
 have hmn:0≤mn∧mn≤1048576:=hmn
 have hx1:=len0
 have hx2:=Q0e
 have hx3:=Q0f
 have hx4:=sqm
 rcases gs with _|⟨g,gs⟩
 · repeat' first|refine And.intro ?_ ?_|(intro h;try first|exact dzi|replace h:=cvi)
   all_goals try exact cz
   refine⟨n,9,rfl,by decide,?_⟩
   repeat' first|refine And.intro ?_ ?_|(intro h;try first|exact dzi|replace h:=cvi)
   all_goals try exact cz
   refine⟨w,9,rfl,by decide,?_⟩
   generalize wi w 9=w' at *
   generalize wi n 9=n' at *
   repeat' first|refine And.intro ?_ ?_|(intro h;try first|exact dzi|replace h:=cvi)
   all_goals try exact cz
   all_goals(try((with_reducible show(_:Int)≤_);first|(show(-9223372036854775808:Int)≤mn+1;omega)|(show mn+1≤(9223372036854775807:Int);omega)|(show(-9223372036854775808:Int)≤mn+1+n';omega)|(show mn+1+n'≤(9223372036854775807:Int);omega)))
   all_goals exact Ot (n:=1) (row:=QT ⟨s,mn+1+n',[]⟩) rfl rfl ⟨.refl _,.refl _,.refl _,trivial⟩ (eM _) (by exact rfl) rfl rfl
 ·by_cases h0:wi w 9=0
  · repeat' first|refine And.intro ?_ ?_|(intro h;try first|exact dzi|replace h:=cvi)
    all_goals try exact cz
    refine⟨n,9,rfl,by decide,?_⟩
    repeat' first|refine And.intro ?_ ?_|(intro h;try first|exact dzi|replace h:=cvi)
    all_goals try exact cz
    refine⟨w,9,rfl,by decide,?_⟩
    generalize wi w 9=w' at *
    generalize wi n 9=n' at *
    subst h0
    repeat' first|refine And.intro ?_ ?_|(intro h;try first|exact dzi|replace h:=cvi)
    all_goals try exact cz
    all_goals(try((with_reducible show(_:Int)≤_);first|(show(-9223372036854775808:Int)≤mn+1;omega)|(show mn+1≤(9223372036854775807:Int);omega)|(show(-9223372036854775808:Int)≤mn+1+n';omega)|(show mn+1+n'≤(9223372036854775807:Int);omega)))
    all_goals exact Ot (n:=1) (row:=QT ⟨s,mn+1+n',g::gs⟩) rfl rfl ⟨.refl _,.refl _,.refl _,trivial⟩ (eM _) (by exact rfl) rfl rfl
  ·obtain⟨c,cs,p,ps,hc,hp⟩:=hm.one g (List.mem_cons_self ..)
   obtain⟨gn,gc⟩:=g
   have hc:gc=c::cs:=hc
   subst hc
   obtain⟨c1,c2,c3,pg,c5,c6⟩:=c
   have hp:pg=p::ps:=hp
   subst hp
   have hpl:(p::ps).length≤200:=((hm.g.groups _ (List.mem_cons_self ..)).chunks 0 (Nat.succ_pos _)).len
   have hpg:PgG p:=((hm.g.groups _ (List.mem_cons_self ..)).chunks 0 (Nat.succ_pos _)).pages p (List.mem_cons_self ..)
   have hcl:cs.length≤40:=by
    have h1:(⟨c1,c2,c3,p::ps,c5,c6⟩::cs:List Ck).length=(QR s).length:=(hm.g.groups _ (List.mem_cons_self ..)).len
    have h2:s.length≤40:=hm.g.s40
    have h3:(Qu s).length≤s.length:=Zu _ _ _
    have h4:(QR s).length=(Qu s).length:=List.length_map ..
    rw[List.length_cons]at h1;omega
   have hgl:gs.length≤200:=by have h1:(_::gs:List Rw).length≤200:=hm.g.len;rw[List.length_cons]at h1;omega
   have hgn:Wc gn:=(hm.g.groups _ (List.mem_cons_self ..)).n
   have hq:asR (((asR (((List.map encR ((⟨gn,⟨c1,c2,c3,p::ps,c5,c6⟩::cs⟩:Rw)::gs)).getD 0 []).getD 1 .any)).getD 0 []).getD 3 .any)=(p::ps).map encP:=rfl
   clear hm hmn hc hp hx4 hx2
   have hx2:=hq
   have hx4:=Q0d
   repeat' first|refine And.intro ?_ ?_|(intro h;try first|exact dzi|replace h:=cvi)
   all_goals try exact cz
   refine⟨n,9,rfl,by decide,?_⟩
   repeat' first|refine And.intro ?_ ?_|(intro h;try first|exact dzi|replace h:=cvi)
   all_goals try exact cz
   refine⟨w,9,rfl,by decide,?_⟩
   repeat' first|refine And.intro ?_ ?_|(intro h;try first|exact dzi|replace h:=cvi)
   all_goals try exact cz
   all_goals(try exact B7 _)
   all_goals(try exact absurd (Nat.succ_pos _) h)
   ·exact Zv (enc:=encP) (z:=7) (fun _=>rfl) (p::ps)
   ·show(0+((p::ps).map encP).length)*56≤_;rw[List.length_map];omega
   ·show 0+((p::ps).map encP).length≤_;rw[List.length_map];omega
   refine⟨tn0 w (wi n 9) ⟨s,mn,⟨gn,⟨c1,c2,c3,p::ps,c5,c6⟩::cs⟩::gs⟩ ⟨gn,⟨c1,c2,c3,p::ps,c5,c6⟩::cs⟩ ⟨c1,c2,c3,p::ps,c5,c6⟩,?_,?_⟩
   ·exact Q0 [0,1,2,7,4] (by exact rfl) ⟨.refl _,.refl _,.refl _,.refl _,.refl _,.refl _,trivial⟩ ⟨⟨by decide,_,rfl,.refl _⟩,⟨by decide,_,rfl,.refl _⟩,⟨by decide,_,rfl,QB (row:=encR ⟨gn,⟨c1,c2,c3,p::ps,c5,c6⟩::cs⟩) ⟨.refl _,.refl _,trivial⟩⟩,⟨by decide,_,rfl,QB (row:=rowX c1 c2 c3 (.slice 3 0 (p::ps).length 7 none) c5 c6) ⟨.refl _,.refl _,.refl _,Q8 (by show 0+(List.map encP (p::ps)).length=(p::ps).length;rw[List.length_map,Nat.zero_add]),.refl _,.refl _,.refl _,.refl _,.refl _,.refl _,.refl _,trivial⟩⟩,⟨by decide,_,rfl,Q1 rfl (fP (p::ps))⟩,trivial⟩
   generalize wi n 9=n' at *
   clear hx2 hx3 hx1 hx4 hq hpl h0
   have hx1:∀c:Ck,List.take ((List.map encC (c::cs)).length-Int.toNat 1) (List.drop (Int.toNat 1) (List.map encC (c::cs)))=cs.map encC:=fun c=>tlC c cs
   have hx2:∀c:Rw,List.take ((List.map encR (c::gs)).length-Int.toNat 1) (List.drop (Int.toNat 1) (List.map encR (c::gs)))=gs.map encR:=fun c=>tlR c gs
   have hx3:=hx1
   have hx4:=hx2
   have f1:∀c:Ck,YD 11 (List.take ((List.map encC (c::cs)).length-1) (List.drop 1 (List.map encC (c::cs))))=true:=fun c=>by rw[tlC];exact Zv (enc:=encC) (z:=11) (fun _=>rfl) _
   have f2:∀c:Ck,1+(List.take ((List.map encC (c::cs)).length-1) (List.drop 1 (List.map encC (c::cs)))).length≤41:=fun c=>by rw[tlC,List.length_map];omega
   have f3:∀c:Rw,YD 2 (List.take ((List.map encR (c::gs)).length-1) (List.drop 1 (List.map encR (c::gs))))=true:=fun c=>by rw[tlR];exact Zv (enc:=encR) (z:=2) (fun _=>rfl) _
   have f4:∀c:Rw,1+(List.take ((List.map encR (c::gs)).length-1) (List.drop 1 (List.map encR (c::gs)))).length≤201:=fun c=>by rw[tlR,List.length_map];omega
   have f5:∀c:Ck,1+(List.take ((List.map encC (c::cs)).length-1) (List.drop 1 (List.map encC (c::cs)))).length=cs.length+1:=fun c=>by rw[tlC,List.length_map,Nat.add_comm]
   have f6:∀c:Rw,1+(List.take ((List.map encR (c::gs)).length-1) (List.drop 1 (List.map encR (c::gs)))).length=gs.length+1:=fun c=>by rw[tlR,List.length_map,Nat.add_comm]
   have f7:cs.length=0→[]=cs.map encC:=fun h=>by rw[List.eq_nil_of_length_eq_zero h];rfl
   have f8:gs.length=0→[]=gs.map encR:=fun h=>by rw[List.eq_nil_of_length_eq_zero h];rfl
   have f9:∀n:Nat,n=0→1=n+1:=fun n h=>by omega
   refine⟨w,9,rfl,by decide,?_⟩
   generalize wi w 9=w' at *
   obtain rfl|rfl|rfl|rfl|rfl|rfl|rfl|rfl:w'=1∨w'=2∨w'=3∨w'=4∨w'=5∨w'=6∨w'=7∨w'=8:=by omega
   · repeat' first|refine And.intro ?_ ?_|(intro h;try first|exact dzi|replace h:=cvi)
     all_goals try exact cz
     all_goals(try first|exact B7 _|exact Cj _)
     refine⟨tnS ⟨s,mn,⟨gn,⟨c1,c2,c3,p::ps,c5,c6⟩::cs⟩::gs⟩ ⟨0,⟨c1,c2,c3,p::ps,c5,c6⟩::cs⟩ ⟨c1,c2,c3,p::ps,c5,c6⟩,Gp (full:=(p::ps)) (by exact rfl) rfl rfl rfl rfl rfl rfl rfl ⟨.refl _,.refl _,trivial⟩ rfl rfl rfl rfl (KE rfl) (Nat.le_of_eq (Nat.zero_add _)),?_⟩
     repeat' first|refine And.intro ?_ ?_|(intro h;try first|exact dzi|replace h:=cvi)
     all_goals try exact cz
     ·exact f1 _
     ·exact Nat.le_trans (Nat.mul_le_mul_right _ (f2 _)) (by decide)
     ·exact Nat.le_trans (f2 _) (by decide)
     ·exact f3 _
     ·exact Nat.le_trans (Nat.mul_le_mul_right _ (f4 _)) (by decide)
     ·exact Nat.le_trans (f4 _) (by decide)
     ·exact Zr rfl rfl rfl rfl rfl rfl (f8 (by assumption)) (f7 (by assumption)) (f9 _ (by assumption)) (f9 _ (by assumption)) (by first|rfl|kernel_rfl) rfl rfl
     ·exact Zr rfl rfl rfl rfl rfl rfl (tlR _ _) (f7 (by assumption)) (f6 _) (f9 _ (by assumption)) (by first|rfl|kernel_rfl) rfl rfl
     ·exact f3 _
     ·exact Nat.le_trans (Nat.mul_le_mul_right _ (f4 _)) (by decide)
     ·exact Nat.le_trans (f4 _) (by decide)
     ·exact Zr rfl rfl rfl rfl rfl rfl (f8 (by assumption)) (tlC _ _) (f9 _ (by assumption)) (f5 _) (by first|rfl|kernel_rfl) rfl rfl
     ·exact Zr rfl rfl rfl rfl rfl rfl (tlR _ _) (tlC _ _) (f6 _) (f5 _) (by first|rfl|kernel_rfl) rfl rfl
   · repeat' first|refine And.intro ?_ ?_|(intro h;try first|exact dzi|replace h:=cvi)
     all_goals try exact cz
     all_goals(try first|exact B7 _|exact Cj _)
     have hw1:wr .i64 (p.rows+1)=p.rows+1:=wrI (by have:=hpg.n1.1;have:=hpg.n1.2;omega)
     refine⟨tnS ⟨s,mn,⟨gn,⟨c1,c2,c3,p::ps,c5,c6⟩::cs⟩::gs⟩ ⟨gn,⟨c1,c2,c3,p::ps,c5,c6⟩::cs⟩ ⟨c1,c2,c3,({p with rows:=p.rows+1}::ps),c5,c6⟩,Gp (full:=({p with rows:=p.rows+1}::ps)) (by exact rfl) rfl rfl rfl rfl rfl rfl rfl ⟨.refl _,.refl _,trivial⟩ rfl rfl rfl (congrArg (fun z=>[AVal.int .i64 z,.int .i64 p.cells,.int .i64 p.enc,.int .i64 p.rlen,.int .i64 p.dlen,.int .i64 p.vlen,.int .u32 p.crc]::ps.map encP) hw1) (KE rfl) (Nat.le_of_eq (Nat.zero_add _)),?_⟩
     repeat' first|refine And.intro ?_ ?_|(intro h;try first|exact dzi|replace h:=cvi)
     all_goals try exact cz
     ·exact f1 _
     ·exact Nat.le_trans (Nat.mul_le_mul_right _ (f2 _)) (by decide)
     ·exact Nat.le_trans (f2 _) (by decide)
     ·exact f3 _
     ·exact Nat.le_trans (Nat.mul_le_mul_right _ (f4 _)) (by decide)
     ·exact Nat.le_trans (f4 _) (by decide)
     ·exact Zr rfl rfl rfl rfl rfl rfl (f8 (by assumption)) (f7 (by assumption)) (f9 _ (by assumption)) (f9 _ (by assumption)) (by first|rfl|kernel_rfl) rfl rfl
     ·exact Zr rfl rfl rfl rfl rfl rfl (tlR _ _) (f7 (by assumption)) (f6 _) (f9 _ (by assumption)) (by first|rfl|kernel_rfl) rfl rfl
     ·exact f3 _
     ·exact Nat.le_trans (Nat.mul_le_mul_right _ (f4 _)) (by decide)
     ·exact Nat.le_trans (f4 _) (by decide)
     ·exact Zr rfl rfl rfl rfl rfl rfl (f8 (by assumption)) (tlC _ _) (f9 _ (by assumption)) (f5 _) (by first|rfl|kernel_rfl) rfl rfl
     ·exact Zr rfl rfl rfl rfl rfl rfl (tlR _ _) (tlC _ _) (f6 _) (f5 _) (by first|rfl|kernel_rfl) rfl rfl
   · repeat' first|refine And.intro ?_ ?_|(intro h;try first|exact dzi|replace h:=cvi)
     all_goals try exact cz
     all_goals(try first|exact B7 _|exact Cj _)
     refine⟨tnS ⟨s,mn,⟨gn,⟨c1,c2,c3,p::ps,c5,c6⟩::cs⟩::gs⟩ ⟨gn,⟨c1,c2,c3,p::ps,c5,c6⟩::cs⟩ ⟨c1,c2,c3,({p with rows:=0}::ps),c5,c6⟩,Gp (full:=({p with rows:=0}::ps)) (by exact rfl) rfl rfl rfl rfl rfl rfl rfl ⟨.refl _,.refl _,trivial⟩ rfl rfl rfl rfl (KE rfl) (Nat.le_of_eq (Nat.zero_add _)),?_⟩
     repeat' first|refine And.intro ?_ ?_|(intro h;try first|exact dzi|replace h:=cvi)
     all_goals try exact cz
     ·exact f1 _
     ·exact Nat.le_trans (Nat.mul_le_mul_right _ (f2 _)) (by decide)
     ·exact Nat.le_trans (f2 _) (by decide)
     ·exact f3 _
     ·exact Nat.le_trans (Nat.mul_le_mul_right _ (f4 _)) (by decide)
     ·exact Nat.le_trans (f4 _) (by decide)
     ·exact Zr rfl rfl rfl rfl rfl rfl (f8 (by assumption)) (f7 (by assumption)) (f9 _ (by assumption)) (f9 _ (by assumption)) (by first|rfl|kernel_rfl) rfl rfl
     ·exact Zr rfl rfl rfl rfl rfl rfl (tlR _ _) (f7 (by assumption)) (f6 _) (f9 _ (by assumption)) (by first|rfl|kernel_rfl) rfl rfl
     ·exact f3 _
     ·exact Nat.le_trans (Nat.mul_le_mul_right _ (f4 _)) (by decide)
     ·exact Nat.le_trans (f4 _) (by decide)
     ·exact Zr rfl rfl rfl rfl rfl rfl (f8 (by assumption)) (tlC _ _) (f9 _ (by assumption)) (f5 _) (by first|rfl|kernel_rfl) rfl rfl
     ·exact Zr rfl rfl rfl rfl rfl rfl (tlR _ _) (tlC _ _) (f6 _) (f5 _) (by first|rfl|kernel_rfl) rfl rfl
   · repeat' first|refine And.intro ?_ ?_|(intro h;try first|exact dzi|replace h:=cvi)
     all_goals try exact cz
     all_goals(try first|exact B7 _|exact Cj _)
     have hw1:wr .i64 (257+n')=257+n':=wrI (by omega)
     refine⟨tnS ⟨s,mn,⟨gn,⟨c1,c2,c3,p::ps,c5,c6⟩::cs⟩::gs⟩ ⟨gn,⟨c1,c2,c3,p::ps,c5,c6⟩::cs⟩ ⟨257+n',c2,c3,p::ps,c5,c6⟩,Gp (full:=(p::ps)) (by exact rfl) rfl rfl rfl rfl rfl rfl rfl ⟨.refl _,.refl _,trivial⟩ rfl rfl (congrArg (fun z=>(⟨z,c2,c3,p::ps,c5,c6⟩:Ck)) hw1) rfl (KE rfl) (Nat.le_of_eq (Nat.zero_add _)),?_⟩
     repeat' first|refine And.intro ?_ ?_|(intro h;try first|exact dzi|replace h:=cvi)
     all_goals try exact cz
     ·exact f1 _
     ·exact Nat.le_trans (Nat.mul_le_mul_right _ (f2 _)) (by decide)
     ·exact Nat.le_trans (f2 _) (by decide)
     ·exact f3 _
     ·exact Nat.le_trans (Nat.mul_le_mul_right _ (f4 _)) (by decide)
     ·exact Nat.le_trans (f4 _) (by decide)
     ·exact Zr rfl rfl rfl rfl rfl rfl (f8 (by assumption)) (f7 (by assumption)) (f9 _ (by assumption)) (f9 _ (by assumption)) (by first|rfl|kernel_rfl) rfl rfl
     ·exact Zr rfl rfl rfl rfl rfl rfl (tlR _ _) (f7 (by assumption)) (f6 _) (f9 _ (by assumption)) (by first|rfl|kernel_rfl) rfl rfl
     ·exact f3 _
     ·exact Nat.le_trans (Nat.mul_le_mul_right _ (f4 _)) (by decide)
     ·exact Nat.le_trans (f4 _) (by decide)
     ·exact Zr rfl rfl rfl rfl rfl rfl (f8 (by assumption)) (tlC _ _) (f9 _ (by assumption)) (f5 _) (by first|rfl|kernel_rfl) rfl rfl
     ·exact Zr rfl rfl rfl rfl rfl rfl (tlR _ _) (tlC _ _) (f6 _) (f5 _) (by first|rfl|kernel_rfl) rfl rfl
   · repeat' first|refine And.intro ?_ ?_|(intro h;try first|exact dzi|replace h:=cvi)
     all_goals try exact cz
     all_goals(try first|exact B7 _|exact Cj _)
     have hw1:wr .i64 (1+n')=1+n':=wrI (by omega)
     refine⟨tnS ⟨s,mn,⟨gn,⟨c1,c2,c3,p::ps,c5,c6⟩::cs⟩::gs⟩ ⟨gn,⟨c1,c2,c3,p::ps,c5,c6⟩::cs⟩ ⟨1+n',c2,c3,({p with enc:=0}::ps),c5,c6⟩,Gp (full:=({p with enc:=0}::ps)) (by exact rfl) rfl rfl rfl rfl rfl rfl rfl ⟨.refl _,.refl _,trivial⟩ rfl rfl (congrArg (fun z=>(⟨z,c2,c3,({p with enc:=0}::ps),c5,c6⟩:Ck)) hw1) rfl (KE rfl) (Nat.le_of_eq (Nat.zero_add _)),?_⟩
     repeat' first|refine And.intro ?_ ?_|(intro h;try first|exact dzi|replace h:=cvi)
     all_goals try exact cz
     ·exact f1 _
     ·exact Nat.le_trans (Nat.mul_le_mul_right _ (f2 _)) (by decide)
     ·exact Nat.le_trans (f2 _) (by decide)
     ·exact f3 _
     ·exact Nat.le_trans (Nat.mul_le_mul_right _ (f4 _)) (by decide)
     ·exact Nat.le_trans (f4 _) (by decide)
     ·exact Zr rfl rfl rfl rfl rfl rfl (f8 (by assumption)) (f7 (by assumption)) (f9 _ (by assumption)) (f9 _ (by assumption)) (by first|rfl|kernel_rfl) rfl rfl
     ·exact Zr rfl rfl rfl rfl rfl rfl (tlR _ _) (f7 (by assumption)) (f6 _) (f9 _ (by assumption)) (by first|rfl|kernel_rfl) rfl rfl
     ·exact f3 _
     ·exact Nat.le_trans (Nat.mul_le_mul_right _ (f4 _)) (by decide)
     ·exact Nat.le_trans (f4 _) (by decide)
     ·exact Zr rfl rfl rfl rfl rfl rfl (f8 (by assumption)) (tlC _ _) (f9 _ (by assumption)) (f5 _) (by first|rfl|kernel_rfl) rfl rfl
     ·exact Zr rfl rfl rfl rfl rfl rfl (tlR _ _) (tlC _ _) (f6 _) (f5 _) (by first|rfl|kernel_rfl) rfl rfl
   · repeat' first|refine And.intro ?_ ?_|(intro h;try first|exact dzi|replace h:=cvi)
     all_goals try exact cz
     all_goals(try first|exact B7 _|exact Cj _)
     refine⟨tnS ⟨s,mn,⟨gn,⟨c1,c2,c3,p::ps,c5,c6⟩::cs⟩::gs⟩ ⟨gn,⟨c1,c2,c3,p::ps,c5,c6⟩::cs⟩ ⟨c1,c2,c3,p::ps,true,⟨5000,false,default,default⟩⟩,Gp (full:=(p::ps)) (by exact rfl) rfl rfl rfl rfl rfl rfl rfl ⟨.refl _,.refl _,trivial⟩ rfl rfl rfl rfl (KE rfl) (Nat.le_of_eq (Nat.zero_add _)),?_⟩
     repeat' first|refine And.intro ?_ ?_|(intro h;try first|exact dzi|replace h:=cvi)
     all_goals try exact cz
     ·exact f1 _
     ·exact Nat.le_trans (Nat.mul_le_mul_right _ (f2 _)) (by decide)
     ·exact Nat.le_trans (f2 _) (by decide)
     ·exact f3 _
     ·exact Nat.le_trans (Nat.mul_le_mul_right _ (f4 _)) (by decide)
     ·exact Nat.le_trans (f4 _) (by decide)
     ·exact Zr rfl rfl rfl rfl rfl rfl (f8 (by assumption)) (f7 (by assumption)) (f9 _ (by assumption)) (f9 _ (by assumption)) (by first|rfl|kernel_rfl) rfl rfl
     ·exact Zr rfl rfl rfl rfl rfl rfl (tlR _ _) (f7 (by assumption)) (f6 _) (f9 _ (by assumption)) (by first|rfl|kernel_rfl) rfl rfl
     ·exact f3 _
     ·exact Nat.le_trans (Nat.mul_le_mul_right _ (f4 _)) (by decide)
     ·exact Nat.le_trans (f4 _) (by decide)
     ·exact Zr rfl rfl rfl rfl rfl rfl (f8 (by assumption)) (tlC _ _) (f9 _ (by assumption)) (f5 _) (by first|rfl|kernel_rfl) rfl rfl
     ·exact Zr rfl rfl rfl rfl rfl rfl (tlR _ _) (tlC _ _) (f6 _) (f5 _) (by first|rfl|kernel_rfl) rfl rfl
   · repeat' first|refine And.intro ?_ ?_|(intro h;try first|exact dzi|replace h:=cvi)
     all_goals try exact cz
     all_goals(try first|exact B7 _|exact Cj _)
     have hw1:wr .i64 (1048577+n')=1048577+n':=wrI (by omega)
     refine⟨tnS ⟨s,mn,⟨gn,⟨c1,c2,c3,p::ps,c5,c6⟩::cs⟩::gs⟩ ⟨gn,⟨c1,c2,c3,p::ps,c5,c6⟩::cs⟩ ⟨c1,c2,c3,({p with vlen:=1048577+n'}::ps),c5,c6⟩,Gp (full:=({p with vlen:=1048577+n'}::ps)) (by exact rfl) rfl rfl rfl rfl rfl rfl rfl ⟨.refl _,.refl _,trivial⟩ rfl rfl rfl (congrArg (fun z=>[AVal.int .i64 p.rows,.int .i64 p.cells,.int .i64 p.enc,.int .i64 p.rlen,.int .i64 p.dlen,.int .i64 z,.int .u32 p.crc]::ps.map encP) hw1) (KE rfl) (Nat.le_of_eq (Nat.zero_add _)),?_⟩
     repeat' first|refine And.intro ?_ ?_|(intro h;try first|exact dzi|replace h:=cvi)
     all_goals try exact cz
     ·exact f1 _
     ·exact Nat.le_trans (Nat.mul_le_mul_right _ (f2 _)) (by decide)
     ·exact Nat.le_trans (f2 _) (by decide)
     ·exact f3 _
     ·exact Nat.le_trans (Nat.mul_le_mul_right _ (f4 _)) (by decide)
     ·exact Nat.le_trans (f4 _) (by decide)
     ·exact Zr rfl rfl rfl rfl rfl rfl (f8 (by assumption)) (f7 (by assumption)) (f9 _ (by assumption)) (f9 _ (by assumption)) (by first|rfl|kernel_rfl) rfl rfl
     ·exact Zr rfl rfl rfl rfl rfl rfl (tlR _ _) (f7 (by assumption)) (f6 _) (f9 _ (by assumption)) (by first|rfl|kernel_rfl) rfl rfl
     ·exact f3 _
     ·exact Nat.le_trans (Nat.mul_le_mul_right _ (f4 _)) (by decide)
     ·exact Nat.le_trans (f4 _) (by decide)
     ·exact Zr rfl rfl rfl rfl rfl rfl (f8 (by assumption)) (tlC _ _) (f9 _ (by assumption)) (f5 _) (by first|rfl|kernel_rfl) rfl rfl
     ·exact Zr rfl rfl rfl rfl rfl rfl (tlR _ _) (tlC _ _) (f6 _) (f5 _) (by first|rfl|kernel_rfl) rfl rfl
   · repeat' first|refine And.intro ?_ ?_|(intro h;try first|exact dzi|replace h:=cvi)
     all_goals try exact cz
     all_goals(try first|exact B7 _|exact Cj _)
     refine⟨tnS ⟨s,mn,⟨gn,⟨c1,c2,c3,p::ps,c5,c6⟩::cs⟩::gs⟩ ⟨gn,⟨c1,c2,c3,p::ps,c5,c6⟩::cs⟩ ⟨c1,c2,c3,ps,c5,c6⟩,Gp (full:=(p::ps)) (by exact rfl) rfl rfl rfl rfl rfl rfl rfl ⟨.refl _,.refl _,trivial⟩ rfl rfl rfl rfl (List.take_length (l:=ps)) (by show 1+ps.length≤ps.length+1;omega),?_⟩
     repeat' first|refine And.intro ?_ ?_|(intro h;try first|exact dzi|replace h:=cvi)
     all_goals try exact cz
     ·exact f1 _
     ·exact Nat.le_trans (Nat.mul_le_mul_right _ (f2 _)) (by decide)
     ·exact Nat.le_trans (f2 _) (by decide)
     ·exact f3 _
     ·exact Nat.le_trans (Nat.mul_le_mul_right _ (f4 _)) (by decide)
     ·exact Nat.le_trans (f4 _) (by decide)
     ·exact Zr rfl rfl rfl rfl rfl rfl (f8 (by assumption)) (f7 (by assumption)) (f9 _ (by assumption)) (f9 _ (by assumption)) (by first|rfl|kernel_rfl) rfl rfl
     ·exact Zr rfl rfl rfl rfl rfl rfl (tlR _ _) (f7 (by assumption)) (f6 _) (f9 _ (by assumption)) (by first|rfl|kernel_rfl) rfl rfl
     ·exact f3 _
     ·exact Nat.le_trans (Nat.mul_le_mul_right _ (f4 _)) (by decide)
     ·exact Nat.le_trans (f4 _) (by decide)
     ·exact Zr rfl rfl rfl rfl rfl rfl (f8 (by assumption)) (tlC _ _) (f9 _ (by assumption)) (f5 _) (by first|rfl|kernel_rfl) rfl rfl
     ·exact Zr rfl rfl rfl rfl rfl rfl (tlR _ _) (tlC _ _) (f6 _) (f5 _) (by first|rfl|kernel_rfl) rfl rfl
def S_turned:SpecI:=fun args K=>∃m w n,args=[.agg (QT m),.int .i64 w,.int .i64 n]∧(TurnOk m∧I64 w∧I64 n)∧K (.agg (QT (XM (wi w 9) (wi n 9) m)))
theorem Q0r[Syms]:Zx Try.prog 14 S_turned:=by
 rintro args K ⟨m,w,n,rfl,⟨h1,h2,h3⟩,hk⟩
 exact⟨rfl,_,rfl,hk,XB.forget (Qg Qh Qi It It.ok Qt (SB m w n h1 h2 h3))⟩
end
section
set_option maxRecDepth 100000
set_option maxHeartbeats 4000000
def rpS(o:List UInt8)(x:Nat):St:=⟨[(0,.slice 0 0 o.length 1 none),(1,.int .u64 x)],[(0,some (.cells (o.map encB) false))],1⟩
theorem Ev[Syms]{N nx K len:Nat}{cap:Option Nat}{e:Env}{H:Heap}{o:List UInt8}{x:Nat}{z:Int}{rows:List (List AVal)}(h0:e.get 0= .slice K 0 len 1 cap)(h1:e.get 1= .int .u64 z)(hz:z=x)(HK:H.get K=some (.cells rows false))(hr:rows=o.map encB)(hl:len=o.length)(hn:QG 0 nx [K]=true):
 Reb 0 N ⟨e,H,nx⟩ (rpS o x):=by
 subst hr hl hz
 exact Q0 [K] hn ⟨by rw[h0];exact Q8 rfl,by rw[h1];exact .refl _,trivial⟩ ⟨⟨Nat.zero_lt_one,_,HK,Q1 rfl (fB _)⟩,trivial⟩
theorem PC[Syms](b:List UInt8)(hl:b.length≤1000000)(n:Nat)(hn:n<128^9):
 fnT Q7 Q7 (Qv fns) (Qn tys) (Qz plt) 100 50 [vB b,.int .u64 n] [] 0 (B9 (b++XI n)):=by
 have e:=XN encB 0 b
 have el:(ZZ b.length fun i=>encB (b.getD i 0)).length=b.length:=ZB _ _
 repeat' first|refine And.intro ?_ ?_|(intro h;try first|exact dz|replace h:=cv)
 all_goals try exact cz
 ·rw[e];exact Zv (enc:=encB) (z:=1) (fun _=>rfl) b
 all_goals(
  refine⟨fun m s=>∃(x f:Nat) (o:List UInt8),(x<128^(f+1)∧f<10∧m=f∧o++Wh f x=b++XI n∧o.length+f≤1000010)∧s=rpS o x,⟨_,rpS b n,?_,n,9,b,⟨Nat.lt_of_lt_of_le hn (Nat.pow_le_pow_right (by decide) (by decide)),by decide,rfl,rfl,by omega⟩,rfl⟩,?_⟩
  ·first|exact Ev (K:=0) rfl rfl rfl rfl (by have:b=[]:=List.eq_nil_of_length_eq_zero (by omega);subst this;rfl) (by omega) (by exact rfl)|exact Ev (K:=1) rfl rfl rfl rfl (by first|exact e|(show[]++_=_;exact e)) (by omega) (by exact rfl)
  rintro m s ⟨x,f,o,⟨hx,hf,rfl,ho,hol⟩,rfl⟩
  by_cases h0:x<128
  ·rw[R4 h0]at ho
   have hR:=Q04 o x h0
   repeat' first|refine And.intro ?_ ?_|(intro h;try first|exact dz|replace h:=cv)
   all_goals try exact cz
   exact⟨_,ZP (k:=4) (l:=o++[UInt8.ofNat x]) rfl rfl rfl hR (by simp),_,rfl,Wi ho⟩
  ·obtain⟨f,rfl⟩:∃f',m=f'+1:=by
    cases m with
    |zero=>exact absurd hx (by simp;omega)
    |succ q=>exact⟨q,rfl⟩
   rw[Wh,if_neg h0]at ho
   repeat' first|refine And.intro ?_ ?_|(intro h;try first|exact dz|replace h:=cv)
   all_goals try exact cz
   refine⟨_,rpS (o++[UInt8.ofNat (x%128+128)]) (x/128),Ev (K:=2) rfl rfl (shr7 x) rfl ?_ (by simp) (by exact rfl),⟨x/128,f,_,⟨?_,by omega,rfl,?_,?_⟩,rfl⟩,by omega⟩
   ·show List.take o.length (List.drop 0 (o.map encB))++[[.int .u8 _]]=_
    rw[List.drop_zero,List.take_of_length_le (by simp),List.map_append]
    exact congrArg (fun z=>o.map encB++[[.int .u8 z]]) (Q0a x)
   ·rw[Nat.div_lt_iff_lt_mul (by decide),←Nat.pow_succ];exact hx
   ·rw[←ho];simp
   ·simp;omega)
def S_rvput:SpecY:=fun args K=>∃b n,args=[vB b,.int .u64 (n:Nat)]∧b.length≤1000000∧n<128^9∧K (b++XI n)
theorem Mw[Syms]:JD Try.prog 50 S_rvput:=by
 rintro args K ⟨b,n,rfl,h,hn,hk⟩
 exact⟨_,hk,Qg Qh Qi Q3 Q9 Qt (PC b h n hn)⟩
def PZ(o:List UInt8)(n v i:Nat):St:=⟨[(0,.slice 0 0 o.length 1 none),(1,.int .i64 n),(2,.int .u64 v),(7,.int .i64 i)],[(0,some (.cells (o.map encB) false))],1⟩
theorem EC[Syms]{N nx K len:Nat}{cap:Option Nat}{e:Env}{H:Heap}{o:List UInt8}{n v i:Nat}{z:Int}{rows:List (List AVal)}(h0:e.get 0= .slice K 0 len 1 cap)(h1:e.get 1= .int .i64 n)(h2:e.get 2= .int .u64 v)(h7:e.get 7= .int .i64 z)(hz:z=i)(HK:H.get K=some (.cells rows false))(hr:rows=o.map encB)(hl:len=o.length)(hn:QG 0 nx [K]=true):
 Reb 0 N ⟨e,H,nx⟩ (PZ o n v i):=by
 subst hr hl hz
 exact Q0 [K] hn ⟨by rw[h0];exact Q8 rfl,by rw[h1];exact .refl _,by rw[h2];exact .refl _,by rw[h7];exact .refl _,trivial⟩ ⟨⟨Nat.zero_lt_one,_,HK,Q1 rfl (fB _)⟩,trivial⟩
theorem R0[Syms](b:List UInt8)(hl:b.length≤1000000)(n v:Nat)(hn:n≤8):
 fnT Q7 Q7 (Qv fns) (Qn tys) (Qz plt) 100 51 [vB b,.int .i64 n,.int .u64 v] [] 0 (B9 (b++leB n v)):=by
 have e:=XN encB 0 b
 have el:(ZZ b.length fun i=>encB (b.getD i 0)).length=b.length:=ZB _ _
 repeat' first|refine And.intro ?_ ?_|(intro h;try first|exact dz|replace h:=cv)
 all_goals try exact cz
 ·rw[e];exact Zv (enc:=encB) (z:=1) (fun _=>rfl) b
 all_goals(
  refine⟨fun m s=>∃(i:Nat),(i≤n∧m=n-i)∧s=PZ (b++leB i v) n v i,⟨_,PZ (b++leB 0 v) n v 0,?_,0,⟨by omega,rfl⟩,rfl⟩,?_⟩
  ·rw[show b++leB 0 v=b from List.append_nil b]
   first|exact EC (K:=0) rfl rfl rfl rfl rfl rfl (by have:b=[]:=List.eq_nil_of_length_eq_zero (by omega);subst this;rfl) (by omega) (by exact rfl)|exact EC (K:=1) rfl rfl rfl rfl rfl rfl (by first|exact e|(show[]++_=_;exact e)) (by omega) (by exact rfl)
  rintro m s ⟨i,⟨hi,rfl⟩,rfl⟩
  have hlen:(b++leB i v).length=b.length+i:=by rw[List.length_append,XH]
  by_cases h0:i<n
  · repeat' first|refine And.intro ?_ ?_|(intro h;try first|exact dz|replace h:=cv)
    all_goals try exact cz
    all_goals(try exact IL _)
    refine⟨_,PZ (b++leB (i+1) v) n v (i+1),EC (K:=2) rfl rfl rfl rfl (by omega) rfl ?_ (by simp[XH];omega) (by exact rfl),⟨i+1,⟨by omega,rfl⟩,rfl⟩,by omega⟩
    have hw:wr .u64 (8*wr .u64 (i:Int))=8*(i:Int):=by
     rw[Kx (n:=i) (by omega),show 8*(i:Int)=((8*i:Nat):Int) by omega,Kx (by omega)]
    rw[Cx i v,←List.append_assoc,hw]
    show List.take (b++leB i v).length (List.drop 0 ((b++leB i v).map encB))++[[.int .u8 _]]=_
    generalize b++leB i v=o
    rw[List.drop_zero,List.take_of_length_le (by simp),List.map_append]
    exact congrArg (fun z=>o.map encB++[[AVal.int .u8 z]]) (shrB v i (by omega))
  ·obtain rfl:i=n:=by omega
   repeat' first|refine And.intro ?_ ?_|(intro h;try first|exact dz|replace h:=cv)
   all_goals try exact cz
   exact⟨_,ZP (k:=6) (l:=b++leB i v) rfl rfl rfl rfl rfl,_,rfl,Wi rfl⟩)
def S_rcput:SpecY:=fun args K=>∃b n v,args=[vB b,.int .i64 (n:Nat),.int .u64 (v:Nat)]∧b.length≤1000000∧n≤8∧K (b++leB n v)
theorem MH[Syms]:JD Try.prog 51 S_rcput:=by
 rintro args K ⟨b,n,v,rfl,h,hn,hk⟩
 exact⟨_,hk,Qg Qh Qi Q3 Q9 Qt (R0 b h n v hn)⟩
end
section
set_option maxRecDepth 100000
set_option maxHeartbeats 4000000
def oneR(c:CallT):CallT:=fun f args H nx K=>∃v0 H0 nx0,c f args H nx (fun v H' nx'=>v=v0∧H'=H0∧nx'=nx0)∧K v0 H0 nx0
theorem NO[Syms]{P:Program}{c:CallT}(hc:c.ok P):(oneR c).det P:=by
 rintro f args H nx K ⟨v0,H0,nx0,h,hK⟩
 obtain⟨h1,h2⟩:=hc f args H nx _ h
 refine⟨v0,H0,nx0,h1,fun ι w vs ha hH hb=>(h2 ι w vs ha hH hb).mono ?_,hK⟩
 rintro e w' ⟨v,H',nx',r,κ,⟨rfl,rfl,rfl⟩,g1,g2,g3,g4,g5⟩
 exact⟨r,κ,g1,g2,g3,g4,g5⟩
abbrev TA:CallT:=Q6 50 (Ud S_rvput) Q7
theorem E2[Syms]:TA.det Try.prog:=Xl Mw Q3
theorem SO[Syms](b:List UInt8)(x:Int)(hx:Wb x)(hl:b.length≤1000000):
 fnT TA TA (Qv fns) (Qn tys) (Qz plt) 100 24 [vB b,.int .i64 x] [] 0 (B9 (b++nuB [x])):=by
 have hw:=wrU hx
 have hx0:0≤x:=hx.1
 have hx1:x<128^9:=hx.2
 repeat' first|refine And.intro ?_ ?_|(intro h;try first|exact dz|replace h:=cv)
 all_goals try exact cz
 refine⟨[vB b,.int .u64 (wr .u64 x)],⟨.imm _ rfl,.imm _ rfl,trivial⟩,b,x.toNat,congrArg (fun z=>[vB b,AVal.int .u64 z]) hw,hl,by omega,?_⟩
 rw[show b++XI x.toNat=b++nuB [x] from by rw[nuB,nuB,List.append_nil]]
 repeat' first|refine And.intro ?_ ?_|(intro h;try first|exact dz|replace h:=cv)
 all_goals try exact cz
 exact⟨_,ZP (k:=4) (l:=b++nuB [x]) rfl rfl rfl rfl rfl,_,rfl,Wi rfl⟩
def S_rnum19:SpecY:=fun args K=>∃b x,args=[vB b,.int .i64 x]∧(b.length≤1000000∧Wb x)∧K (b++nuB [x])
theorem JL[Syms]:JD Try.prog 24 S_rnum19:=by
 rintro args K ⟨b,x,rfl,⟨h,hx⟩,hk⟩
 exact⟨_,hk,Qg Qh Qi E2 E2.ok Qt (SO b x hx h)⟩
theorem SS[Syms]{Post:AVal→Heap→Nat→Prop}(o:List UInt8)(b:Bool)(hl:o.length≤1000000)(hP:Post (slB 1 (o++flB b)) [(1,oB (o++flB b))] 2):
 fnT Q7 Q7 (Qv fns) (Qn tys) (Qz plt) 100 52 [slB 0 o,.bool b] [(0,oB o)] 1 Post:=by
 have hr:∀z:UInt8,List.take o.length (List.drop 0 (o.map encB))++List.take 1 (List.drop 0 [[AVal.int .u8 (z.toNat:Nat)]])=(o++[z]).map encB:=fun z=>by
  rw[List.drop_zero,List.take_of_length_le (by simp),List.map_append];rfl
 cases b
 · repeat' first|refine And.intro ?_ ?_|(intro h;try first|exact dzq|replace h:=cvq)
   all_goals try exact cz
   exact Ou (k:=4) (K:=2) (by exact rfl) rfl rfl (hr 0) (by simp[flB]) rfl hP
 · repeat' first|refine And.intro ?_ ?_|(intro h;try first|exact dzq|replace h:=cvq)
   all_goals try exact cz
   exact Ou (k:=4) (K:=2) (by exact rfl) rfl rfl (hr 1) (by simp[flB]) rfl hP
theorem HT[Syms]:FL.ok Try.prog 52:=by
 rintro args H nx Post ⟨o,b,rfl,rfl,rfl,h1,h⟩
 exact Qg Qh Qi Q3 Q9 Qt (SS o b h1 h)
abbrev Tx:CallT:=Q6 50 (Ud S_rvput) (Q6 51 (Ud S_rcput) Q7)
theorem E1[Syms]:Tx.det Try.prog:=Xl Mw (Xl MH Q3)
noncomputable def plRv:Nat→Nat→Pl:=XG [(53,8)] (Qz plt)
theorem T6(x:Int):leB 1 (wr .u64 x).toNat=[UInt8.ofNat (wr .u8 x).toNat]:=by
 have h8:(wr .u8 x).toNat=(x%256).toNat:=by
  unfold wr
  split
  ·rename_i h1
   have h2:(0:Int)≤x:=h1.1
   have h3:x≤(255:Int):=h1.2
   omega
  ·show(if(false&&decide (x%(2^8:Int)≥(2^7:Int)))=true then x%(2^8:Int)-(2^8:Int)else x%(2^8:Int)).toNat=_
   simp
 have h64:(wr .u64 x).toNat%256=(x%256).toNat:=by
  unfold wr
  split
  ·rename_i h1
   have h2:(0:Int)≤x:=h1.1
   omega
  ·show(if(false&&decide (x%(2^64:Int)≥(2^63:Int)))=true then x%(2^64:Int)-(2^64:Int)else x%(2^64:Int)).toNat%256=_
   simp;omega
 rw[leB,leB,h8,h64]
theorem Nl[Syms](o:List UInt8)(k:Int)(v:Vl)(hl:o.length+(vlB k v).length≤1000000):
 fnT Tx Tx (Qv fns) (Qn tys) plRv 100 53 [vB o,.int .i64 k,.agg (ZU v)] [] 0 (B9 (o++vlB k v)):=by
 have hw:wr .u64 v.n=(((wr .u64 v.n).toNat:Nat):Int):=(Int.toNat_of_nonneg (IL _)).symm
 have hl0:o.length≤1000000:=by omega
 unfold vlB at hl ⊢
 by_cases h1:k=1
 ·subst h1
  rw[if_pos rfl]
  repeat' first|refine And.intro ?_ ?_|(intro h;try first|exact dzq|replace h:=cvq)
  all_goals try exact cz
  refine⟨[vB o,.int .i64 ((1:Nat):Int),.int .u64 (wr .u64 v.n)],⟨.imm _ rfl,.imm _ rfl,.imm _ rfl,trivial⟩,o,1,(wr .u64 v.n).toNat,congrArg (fun z=>[vB o,.int .i64 ((1:Nat):Int),AVal.int .u64 z]) hw,hl0,by omega,?_⟩
  rw[T6]
  repeat' first|refine And.intro ?_ ?_|(intro h;try first|exact dzq|replace h:=cvq)
  all_goals try exact cz
  exact⟨_,ZP (k:=6) (l:=o++[UInt8.ofNat (wr .u8 v.n).toNat]) (by exact rfl) rfl rfl rfl rfl,_,rfl,Wi rfl⟩
 rw[if_neg h1]at hl ⊢
 by_cases h2:k=2
 ·subst h2
  rw[if_pos rfl]at hl ⊢
  repeat' first|refine And.intro ?_ ?_|(intro h;try first|exact dzq|replace h:=cvq)
  all_goals try exact cz
  refine⟨[vB o,.int .i64 ((4:Nat):Int),.int .u64 (wr .u64 v.n)],⟨.imm _ rfl,.imm _ rfl,.imm _ rfl,trivial⟩,o,4,(wr .u64 v.n).toNat,congrArg (fun z=>[vB o,.int .i64 ((4:Nat):Int),AVal.int .u64 z]) hw,hl0,by omega,?_⟩
  repeat' first|refine And.intro ?_ ?_|(intro h;try first|exact dzq|replace h:=cvq)
  all_goals try exact cz
  exact⟨_,ZP (k:=6) (l:=o++leB 4 (wr .u64 v.n).toNat) (by exact rfl) rfl rfl rfl rfl,_,rfl,Wi rfl⟩
 rw[if_neg h2]at hl ⊢
 by_cases h3:k=3
 ·subst h3
  rw[if_pos rfl]at hl ⊢
  repeat' first|refine And.intro ?_ ?_|(intro h;try first|exact dzq|replace h:=cvq)
  all_goals try exact cz
  refine⟨[vB o,.int .i64 ((8:Nat):Int),.int .u64 (wr .u64 v.n)],⟨.imm _ rfl,.imm _ rfl,.imm _ rfl,trivial⟩,o,8,(wr .u64 v.n).toNat,congrArg (fun z=>[vB o,.int .i64 ((8:Nat):Int),AVal.int .u64 z]) hw,hl0,by omega,?_⟩
  repeat' first|refine And.intro ?_ ?_|(intro h;try first|exact dzq|replace h:=cvq)
  all_goals try exact cz
  exact⟨_,ZP (k:=6) (l:=o++leB 8 (wr .u64 v.n).toNat) (by exact rfl) rfl rfl rfl rfl,_,rfl,Wi rfl⟩
 rw[if_neg h3]at hl ⊢
 have hl2:o.length+(nuB [(v.s.length:Int)]).length+v.s.length≤1000000:=by rw[List.length_append]at hl;omega
 have hO:o++nuB [(v.s.length:Int)]++v.s=o++(nuB [(v.s.length:Int)]++v.s):=List.append_assoc ..
 have hvb:o++XI v.s.length=o++nuB [(v.s.length:Int)]:=by rw[nuB,nuB,List.append_nil,Int.toNat_natCast]
 have hsl:wr .u64 (v.s.length:Int)=((v.s.length:Nat):Int):=wrU ⟨by omega,by omega⟩
 rw[←hO]
 have hl3:(o++nuB [(v.s.length:Int)]).length+v.s.length≤1000000:=by rw[List.length_append];omega
 have hcall:∀K:List UInt8→Prop,K (o++nuB [(v.s.length:Int)])→S_rvput [vB o,.int .u64 (wr .u64 (v.s.length:Int))] K:=fun K hk=>⟨o,v.s.length,congrArg (fun z=>[vB o,AVal.int .u64 z]) hsl,hl0,by omega,hvb▸hk⟩
 generalize o++nuB [(v.s.length:Int)]=q at *
 repeat' first|refine And.intro ?_ ?_|(intro h;try first|exact dzq|replace h:=cvq)
 all_goals try exact cz
 refine⟨⟨[(6,slB 0 (q++v.s))],[(0,oB (q++v.s))],1⟩,?_,?_⟩
 · repeat' first|refine And.intro ?_ ?_|(intro h;try first|exact dzq|replace h:=cvq)
   all_goals try exact cz
   all_goals(refine⟨[vB o,.int .u64 (wr .u64 (v.s.length:Int))],⟨.imm _ rfl,.imm _ rfl,trivial⟩,?_⟩;refine hcall _ ?_)
   repeat' first|refine And.intro ?_ ?_|(intro h;try first|exact dzq|replace h:=cvq)
   all_goals try exact cz
   all_goals(try((with_reducible show _=true);show YD 1 (v.s.map encB)=true;exact Zv (enc:=encB) (z:=1) (fun _=>rfl) _))
   all_goals(try((with_reducible show(_:Nat)≤_);first|(show(q.length+(v.s.map encB).length)*1≤_;rw[List.length_map];omega)|(show q.length+(v.s.map encB).length≤_;rw[List.length_map];omega)))
   all_goals first
    |exact Exists.intro () (ZP (k:=6) (n:=3) (by exact rfl) rfl rfl (Iz q v.s) (IA q v.s))
    |exact Exists.intro () (ZP (k:=6) (n:=2) (by exact rfl) rfl rfl (Iz q v.s) (IA q v.s))
    |exact Exists.intro () (ZP (k:=6) (n:=4) (by exact rfl) rfl rfl (Iz q v.s) (IA q v.s))
    |exact Exists.intro () (ZP (k:=6) (n:=2) (by exact rfl) rfl rfl (apZ q (show v.s.length=0 from h)) (apZl q (show v.s.length=0 from h)))
    |exact Exists.intro () (ZP (k:=6) (n:=3) (by exact rfl) rfl rfl (apZ q (show v.s.length=0 from h)) (apZl q (show v.s.length=0 from h)))
    |exact Exists.intro () (ZP (k:=6) (n:=1) (by exact rfl) rfl rfl (apZ q (show v.s.length=0 from h)) (apZl q (show v.s.length=0 from h)))
 · repeat' first|refine And.intro ?_ ?_|(intro h;try first|exact dzq|replace h:=cvq)
   all_goals try exact cz
   exact⟨_,.refl _ _ _,_,rfl,Wi rfl⟩
def S_rvalue:SpecY:=fun args K=>∃o k v,args=[vB o,.int .i64 k,.agg (ZU v)]∧o.length+(vlB k v).length≤1000000∧K (o++vlB k v)
theorem D6[Syms]:JD Try.prog 53 S_rvalue:=by
 rintro args K ⟨o,k,v,rfl,h,hk⟩
 exact⟨_,hk,Qg Qh Qi E1 E1.ok Qt (Nl o k v h)⟩
end
section
set_option maxRecDepth 100000
set_option maxHeartbeats 4000000
abbrev cRk:CallT:=Q6 24 (Ud S_rnum19) (Q6 51 (Ud S_rcput) (Q6 53 (Ud S_rvalue) (Q6 52 (oneR (Q6 52 (QD FL) Q7)) Q7)))
abbrev cRk2:CallT:=Q6 24 (Ud S_rnum19) (Q6 51 (Ud S_rcput) (Q6 53 (Ud S_rvalue) (Q6 52 (QD FL) Q7)))
theorem RL[Syms]:cRk.det Try.prog:=Xl JL (Xl MH (Xl D6 (fun f args H nx K h=>by
 unfold Q6 at h
 cases hf:Nat.beq f 52 with
 |true=>rw[hf]at h;exact NO (Q4 HT Q9) f args H nx K h
 |false=>rw[hf]at h;exact h.elim)))
theorem RM[Syms]:cRk2.ok Try.prog:=Wr JL (Wr MH (Wr D6 (Q4 HT Q9)))
noncomputable def plRk:Nat→Nat→Pl:=XG [(25,2),(25,6),(25,10),(25,14)] (Qz plt)
def rkS(k:Int)(c:Ck)(o:List UInt8):St:=⟨[(0,slB 0 o),(1,.int .i64 k),(5,.ptr 1 0 0)],[(0,oB o),(1,some (.cells [encC c] false))],2⟩
def rkL(k:Int)(c:Ck)(o:List UInt8)(i:Nat):St:=⟨[(0,slB 0 o),(1,.int .i64 k),(5,.ptr 1 0 0),(7,.int .i64 i)],[(0,oB o),(1,some (.cells [encC c] false))],2⟩
def rkP(k:Int)(c:Ck)(o:List UInt8)(i:Nat)(p:Pg):St:=⟨[(0,slB 0 o),(1,.int .i64 k),(5,.ptr 1 0 0),(7,.int .i64 i),(8,.ptr 2 0 0)],[(0,oB o),(1,some (.cells [encC c] false)),(2,some (.cells [encP p] false))],3⟩
theorem PR[Syms]{N nx:Nat}{e:Env}{H:Heap}{k:Int}{c:Ck}{o:List UInt8}{i:Nat}{p:Pg}{row:List AVal}(hn:QG 0 nx [0,1,2]=true)(h0:e.get 0=slB 0 o)(h1:e.get 1= .int .i64 k)(h5:e.get 5= .ptr 1 0 0)(h7:e.get 7= .int .i64 i)(h8:e.get 8= .ptr 2 0 0)
 (H0:H.get 0=oB o) (H1:H.get 1=some (.cells [encC c] false)) (H2:H.get 2=some (.cells [row] false)) (hr:row=encP p):Reb 0 N ⟨e,H,nx⟩ (rkP k c o i p):=by
 subst hr
 exact Q0 [0,1,2] hn ⟨by rw[h0];exact .refl _,by rw[h1];exact .refl _,by rw[h5];exact .refl _,by rw[h7];exact .refl _,by rw[h8];exact .refl _,trivial⟩ ⟨⟨by decide,_,H0,Qb (fB _)⟩,⟨by decide,_,H1,.refl _⟩,⟨by decide,_,H2,Qb (Xe (eP p) QK)⟩,trivial⟩
theorem Ns[Syms]{N K B nx:Nat}{e:Env}{H:Heap}{len:Nat}{rows:List (List AVal)}{row:List AVal}{k:Int}{c:Ck}{o:List UInt8}{cap:Option Nat}(hn:QG 0 nx [K,B]=true)(h0:e.get 0= .slice K 0 len 1 cap)(h1:e.get 1= .int .i64 k)(h5:e.get 5= .ptr B 0 0)(hK:H.get K=some (.cells rows false))(hB:H.get B=some (.cells [row] false))(hrow:row=encC c)(hr:rows=o.map encB)(hl:len=o.length):Reb 0 N ⟨e,H,nx⟩ (rkS k c o):=by
 subst hr hl hrow
 exact Q0 [K,B] hn ⟨by rw[h0];exact Q8 rfl,by rw[h1];exact .refl _,by rw[h5];exact .refl _,trivial⟩ ⟨⟨Nat.succ_pos _,_,hK,Q1 rfl (fB _)⟩,⟨Nat.lt_succ_self _,_,hB,QM (row:=encC c) ⟨.refl _,.refl _,.refl _,.refl _,.refl _,.refl _,.refl _,.refl _,.refl _,.refl _,.refl _,trivial⟩ (eC c)⟩,trivial⟩
theorem IZ(ρ:Nat→Nat){rows:List (List AVal)}(hf:Qm rows):rows.map (AVal.renL ρ)=rows:=by
 rw[show rows.map (AVal.renL ρ)=rows.map id from List.map_congr_left fun r hr=>JN ρ (hf r hr),List.map_id]
def rkT(k:Int)(c:Ck)(o:List UInt8):St:=⟨[(0,slB 0 o),(1,.int .i64 k),(5,.ptr 1 0 0),(81,.bool c.st.has)],[(0,oB o),(1,some (.cells [encC c] false))],2⟩
theorem PQ[Syms]{N K nx:Nat}{ρ:Nat→Nat}{e:Env}{H:Heap}{len:Nat}{k:Int}{c:Ck}{o:List UInt8}{cap:Option Nat}(hn:QG 0 nx [K,1]=true)(h0:e.get 0= .slice K 0 len 1 cap)(h1:e.get 1= .int .i64 k)(h5:e.get 5= .ptr 1 0 0)(h81:e.get 81= .bool c.st.has)(hK:H.get K=some (.cells ((o.map encB).map (AVal.renL ρ)) false))(hB:H.get 1=some (.cells [encC c] false))(hl:len=o.length):Reb 0 N ⟨e,H,nx⟩ (rkT k c o):=by
 rw[IZ ρ (fB o)]at hK
 subst hl
 exact Q0 [K,1] hn ⟨by rw[h0];exact Q8 rfl,by rw[h1];exact .refl _,by rw[h5];exact .refl _,by rw[h81];exact .refl _,trivial⟩ ⟨⟨Nat.succ_pos _,_,hK,Q1 rfl (fB _)⟩,⟨Nat.lt_succ_self _,_,hB,.refl _⟩,trivial⟩
theorem HN[Syms]{N K nx:Nat}{e:Env}{H:Heap}{len:Nat}{rows:List (List AVal)}{k i1:Int}{c:Ck}{o:List UInt8}{i:Nat}{cap:Option Nat}(hn:QG 0 nx [K,1]=true)(h0:e.get 0= .slice K 0 len 1 cap)(h1:e.get 1= .int .i64 k)(h5:e.get 5= .ptr 1 0 0)(h7:e.get 7= .int .i64 i1)(hi:i1=i)
 (hK:H.get K=some (.cells rows false)) (hB:H.get 1=some (.cells [encC c] false)) (hr:rows=o.map encB) (hl:len=o.length):Reb 0 N ⟨e,H,nx⟩ (rkL k c o i):=by
 subst hr hl hi
 exact Q0 [K,1] hn ⟨by rw[h0];exact Q8 rfl,by rw[h1];exact .refl _,by rw[h5];exact .refl _,by rw[h7];exact .refl _,trivial⟩ ⟨⟨Nat.succ_pos _,_,hK,Q1 rfl (fB _)⟩,⟨Nat.lt_succ_self _,_,hB,.refl _⟩,trivial⟩
theorem Nz[Syms](o:List UInt8)(k:Int)(c:Ck)(hc:CkB c)(hl:o.length+(ckB k c).length≤1000000):
 fnT cRk cRk2 (Qv fns) (Qn tys) plRk 100 25 [vB o,.int .i64 k,.agg (encC c)] [] 0 (B9 (o++ckB k c)):=by
 have hw:=wrC hc.crc
 have hlen:(ckB k c).length=(nuB [c.words]).length+(nuB [c.size]).length+4+(nuB [(c.pages.length:Int)]).length+(Y6 c.pages).length+(flB c.known).length+(if c.known=true then stB k c.st else[]).length:=by
  unfold ckB;rw[Zq];simp only[List.length_append,XH]
 have hO:o++ckB k c=o++nuB [c.words]++nuB [c.size]++leB 4 c.crc.toNat++nuB [(c.pages.length:Int)]++Y6 c.pages++flB c.known++(if c.known=true then stB k c.st else[]):=by
  unfold ckB;rw[Zq];simp only[List.append_assoc]
 rw[hO]
 clear hO
 have hcall0:∀K:List UInt8→Prop,K (o++nuB [c.words])→S_rnum19 [vB o,.int .i64 c.words] K:=fun K hk=>⟨o,c.words,rfl,⟨by omega,hc.n1⟩,hk⟩
 have hl0:(o++nuB [c.words]).length=o.length+(nuB [c.words]).length:=List.length_append
 generalize hq0:o++nuB [c.words]=q0 at *
 have hcall1:∀K:List UInt8→Prop,K (q0++nuB [c.size])→S_rnum19 [vB q0,.int .i64 c.size] K:=fun K hk=>⟨q0,c.size,rfl,⟨by omega,hc.n2⟩,hk⟩
 have hl1:(q0++nuB [c.size]).length=q0.length+(nuB [c.size]).length:=List.length_append
 generalize hq1:q0++nuB [c.size]=q1 at *
 have hcall2:∀K:List UInt8→Prop,K (q1++leB 4 c.crc.toNat)→S_rcput [vB q1,.int .i64 ((4:Nat):Int),.int .u64 (wr .u64 c.crc)] K:=fun K hk=>⟨q1,4,c.crc.toNat,congrArg (fun z=>[vB q1,.int .i64 ((4:Nat):Int),AVal.int .u64 z]) hw,by omega,by omega,hk⟩
 have hl2:(q1++leB 4 c.crc.toNat).length=q1.length+4:=by rw[List.length_append,XH]
 generalize hq2:q1++leB 4 c.crc.toNat=q2 at *
 repeat' first|refine And.intro ?_ ?_|(intro h;try first|exact dzq|replace h:=cvq)
 all_goals try exact cz
 refine⟨[vB o,.int .i64 c.words],⟨.imm _ rfl,.imm _ rfl,trivial⟩,?_⟩
 refine hcall0 _ ?_
 repeat' first|refine And.intro ?_ ?_|(intro h;try first|exact dzq|replace h:=cvq)
 all_goals try exact cz
 refine⟨[vB q0,.int .i64 c.size],⟨.byt (rows:=q0.map encB) (ro:=true) (by kernel_rfl) rfl rfl,.imm _ rfl,trivial⟩,?_⟩
 refine hcall1 _ ?_
 repeat' first|refine And.intro ?_ ?_|(intro h;try first|exact dzq|replace h:=cvq)
 all_goals try exact cz
 refine⟨[vB q1,.int .i64 ((4:Nat):Int),.int .u64 (wr .u64 c.crc)],⟨.byt (rows:=q1.map encB) (ro:=false) (by kernel_rfl) rfl rfl,.imm _ rfl,.imm _ rfl,trivial⟩,?_⟩
 refine hcall2 _ ?_
 repeat' first|refine And.intro ?_ ?_|(intro h;try first|exact dzq|replace h:=cvq)
 all_goals try exact cz
 have hpl:=hc.len
 have hpn:Wb (c.pages.length:Int):=⟨by omega,by omega⟩
 have hcall3:∀K:List UInt8→Prop,K (q2++nuB [(c.pages.length:Int)])→S_rnum19 [vB q2,.int .i64 (((c.pages.map encP).length:Nat):Int)] K:=fun K hk=>⟨q2,(c.pages.length:Int),by rw[List.length_map],⟨by omega,hpn⟩,hk⟩
 have hl3:(q2++nuB [(c.pages.length:Int)]).length=q2.length+(nuB [(c.pages.length:Int)]).length:=List.length_append
 generalize hq3:q2++nuB [(c.pages.length:Int)]=q3 at *
 refine⟨[vB q2,.int .i64 (((c.pages.map encP).length:Nat):Int)],⟨.byt (rows:=q2.map encB) (ro:=false) (by kernel_rfl) rfl rfl,.imm _ rfl,trivial⟩,?_⟩
 refine hcall3 _ ?_
 repeat' first|refine And.intro ?_ ?_|(intro h;try first|exact dzq|replace h:=cvq)
 all_goals try exact cz
 refine⟨rkS k c q3,Ns (K:=0+1+10*RR+1) (B:=0) (by kernel_rfl) rfl rfl rfl (by kernel_rfl) (by kernel_rfl) rfl rfl rfl,?_⟩
 repeat' first|refine And.intro ?_ ?_|(intro h;try first|exact dzq|replace h:=cvq)
 all_goals try exact cz
 refine⟨fun m s=>∃i:Nat,(i≤c.pages.length∧m=c.pages.length-i)∧s=rkL k c (q3++Y6 (c.pages.take i)) i,⟨_,rkL k c (q3++Y6 (c.pages.take 0)) 0,HN (K:=0) (by exact rfl) rfl rfl rfl rfl rfl rfl rfl (by simp[Y6]) (by simp[Y6]),0,⟨by omega,rfl⟩,rfl⟩,?_⟩
 rintro m s ⟨i,⟨hi,rfl⟩,rfl⟩
 by_cases h1:i<c.pages.length
 ·have hpi:PgB (c.pages.getD i default):=by
   rw[List.getD_eq_getElem?_getD,List.getElem?_eq_getElem h1];exact hc.pages _ (List.getElem_mem h1)
  have hpt:=L9 h1
  have hpl2:=R6 c.pages (i+1)
  have hlo:(q3++Y6 (c.pages.take i)).length+(pgB (c.pages.getD i default)).length≤1000000:=by
   rw[hpt,List.length_append]at hpl2
   rw[List.length_append];omega
  have hO2:q3++Y6 (c.pages.take (i+1))=q3++Y6 (c.pages.take i)++nuB [(c.pages.getD i default).rows]++nuB [(c.pages.getD i default).cells]++nuB [(c.pages.getD i default).enc]++nuB [(c.pages.getD i default).rlen]++nuB [(c.pages.getD i default).dlen]++nuB [(c.pages.getD i default).vlen]++leB 4 (c.pages.getD i default).crc.toNat:=by
   rw[hpt,pgB,Zq,Zq (c.pages.getD i default).cells,Zq (c.pages.getD i default).enc,Zq (c.pages.getD i default).rlen,Zq (c.pages.getD i default).dlen];simp only[List.append_assoc]
  have hpgl:(pgB (c.pages.getD i default)).length=(nuB [(c.pages.getD i default).rows]).length+(nuB [(c.pages.getD i default).cells]).length+(nuB [(c.pages.getD i default).enc]).length+(nuB [(c.pages.getD i default).rlen]).length+(nuB [(c.pages.getD i default).dlen]).length+(nuB [(c.pages.getD i default).vlen]).length+4:=by
   rw[pgB,Zq,Zq (c.pages.getD i default).cells,Zq (c.pages.getD i default).enc,Zq (c.pages.getD i default).rlen,Zq (c.pages.getD i default).dlen];simp only[List.length_append,XH];omega
  have hwp:=wrC hpi.crc
  clear hpt hpl2
  generalize q3++Y6 (c.pages.take i)=q at *
  generalize hpe:c.pages.getD i default=p at *
  have hca:∀K:List UInt8→Prop,K (q++nuB [p.rows])→S_rnum19 [vB q,.int .i64 p.rows] K:=fun K hk=>⟨q,p.rows,rfl,⟨by omega,hpi.n1⟩,hk⟩
  have la:(q++nuB [p.rows]).length=q.length+(nuB [p.rows]).length:=List.length_append
  generalize q++nuB [p.rows]=a at *
  have hcb:∀K:List UInt8→Prop,K (a++nuB [p.cells])→S_rnum19 [vB a,.int .i64 p.cells] K:=fun K hk=>⟨a,p.cells,rfl,⟨by omega,hpi.n2⟩,hk⟩
  have lb:(a++nuB [p.cells]).length=a.length+(nuB [p.cells]).length:=List.length_append
  generalize a++nuB [p.cells]=b at *
  have hcc:∀K:List UInt8→Prop,K (b++nuB [p.enc])→S_rnum19 [vB b,.int .i64 p.enc] K:=fun K hk=>⟨b,p.enc,rfl,⟨by omega,hpi.n3⟩,hk⟩
  have lc:(b++nuB [p.enc]).length=b.length+(nuB [p.enc]).length:=List.length_append
  generalize b++nuB [p.enc]=d at *
  have hcd:∀K:List UInt8→Prop,K (d++nuB [p.rlen])→S_rnum19 [vB d,.int .i64 p.rlen] K:=fun K hk=>⟨d,p.rlen,rfl,⟨by omega,hpi.n4⟩,hk⟩
  have ld:(d++nuB [p.rlen]).length=d.length+(nuB [p.rlen]).length:=List.length_append
  generalize d++nuB [p.rlen]=e at *
  have hce:∀K:List UInt8→Prop,K (e++nuB [p.dlen])→S_rnum19 [vB e,.int .i64 p.dlen] K:=fun K hk=>⟨e,p.dlen,rfl,⟨by omega,hpi.n5⟩,hk⟩
  have le:(e++nuB [p.dlen]).length=e.length+(nuB [p.dlen]).length:=List.length_append
  generalize e++nuB [p.dlen]=f at *
  have hcf:∀K:List UInt8→Prop,K (f++nuB [p.vlen])→S_rnum19 [vB f,.int .i64 p.vlen] K:=fun K hk=>⟨f,p.vlen,rfl,⟨by omega,hpi.n6⟩,hk⟩
  have lf:(f++nuB [p.vlen]).length=f.length+(nuB [p.vlen]).length:=List.length_append
  generalize f++nuB [p.vlen]=g at *
  have hcg:∀K:List UInt8→Prop,K (g++leB 4 p.crc.toNat)→S_rcput [vB g,.int .i64 ((4:Nat):Int),.int .u64 (wr .u64 p.crc)] K:=fun K hk=>⟨g,4,p.crc.toNat,congrArg (fun z=>[vB g,.int .i64 ((4:Nat):Int),AVal.int .u64 z]) hwp,by omega,by omega,hk⟩
  generalize g++leB 4 p.crc.toNat=z at *
  have hlm:(List.map encP c.pages).length=c.pages.length:=List.length_map ..
  have hrow:(List.map encP c.pages).getD i []=encP p:=by rw[Wf encP default h1,hpe]
  repeat' first|refine And.intro ?_ ?_|(intro h;try first|exact dzq|replace h:=cvq)
  all_goals try exact czq
  ·show F1 true _ ((List.map encP c.pages).getD ((i:Nat):Int).toNat []) 0=true
   rw[Int.toNat_natCast,hrow];rfl
  refine⟨rkP k c q i p,PR (by exact rfl) rfl rfl rfl rfl rfl rfl rfl rfl ?_,?_⟩
  ·have hrow2:(asR (([encC c].getD 0 []).getD (0+3) .any)).getD ((i:Nat):Int).toNat []=encP p:=by rw[Int.toNat_natCast];exact hrow
   simp only[hrow2];rfl
  repeat' first|refine And.intro ?_ ?_|(intro h;try first|exact dzq|replace h:=cvq)
  all_goals try exact czq
  refine⟨[vB q,.int .i64 p.rows],⟨.byt (rows:=q.map encB) (ro:=true) (by kernel_rfl) rfl rfl,.imm _ rfl,trivial⟩,?_⟩
  refine hca _ ?_
  repeat' first|refine And.intro ?_ ?_|(intro h;try first|exact dzq|replace h:=cvq)
  all_goals try exact czq
  refine⟨[vB a,.int .i64 p.cells],⟨.byt (rows:=a.map encB) (ro:=true) (by kernel_rfl) rfl rfl,.imm _ rfl,trivial⟩,?_⟩
  refine hcb _ ?_
  repeat' first|refine And.intro ?_ ?_|(intro h;try first|exact dzq|replace h:=cvq)
  all_goals try exact czq
  refine⟨[vB b,.int .i64 p.enc],⟨.byt (rows:=b.map encB) (ro:=false) (by kernel_rfl) rfl rfl,.imm _ rfl,trivial⟩,?_⟩
  refine hcc _ ?_
  repeat' first|refine And.intro ?_ ?_|(intro h;try first|exact dzq|replace h:=cvq)
  all_goals try exact czq
  refine⟨[vB d,.int .i64 p.rlen],⟨.byt (rows:=d.map encB) (ro:=true) (by kernel_rfl) rfl rfl,.imm _ rfl,trivial⟩,?_⟩
  refine hcd _ ?_
  repeat' first|refine And.intro ?_ ?_|(intro h;try first|exact dzq|replace h:=cvq)
  all_goals try exact czq
  refine⟨[vB e,.int .i64 p.dlen],⟨.byt (rows:=e.map encB) (ro:=true) (by kernel_rfl) rfl rfl,.imm _ rfl,trivial⟩,?_⟩
  refine hce _ ?_
  repeat' first|refine And.intro ?_ ?_|(intro h;try first|exact dzq|replace h:=cvq)
  all_goals try exact czq
  refine⟨[vB f,.int .i64 p.vlen],⟨.byt (rows:=f.map encB) (ro:=false) (by kernel_rfl) rfl rfl,.imm _ rfl,trivial⟩,?_⟩
  refine hcf _ ?_
  repeat' first|refine And.intro ?_ ?_|(intro h;try first|exact dzq|replace h:=cvq)
  all_goals try exact czq
  refine⟨[vB g,.int .i64 ((4:Nat):Int),.int .u64 (wr .u64 p.crc)],⟨.byt (rows:=g.map encB) (ro:=false) (by kernel_rfl) rfl rfl,.imm _ rfl,.imm _ rfl,trivial⟩,?_⟩
  refine hcg _ ?_
  repeat' first|refine And.intro ?_ ?_|(intro h;try first|exact dzq|replace h:=cvq)
  all_goals try exact czq
  exact⟨_,rkL k c z (i+1),HN (K:=3+9*RR+1+9*RR+1) (by kernel_rfl) rfl rfl rfl rfl (by omega) (by kernel_rfl) (by kernel_rfl) rfl rfl,⟨i+1,⟨by omega,rfl⟩,by rw[hO2]⟩,by omega⟩
 ·obtain rfl:i=c.pages.length:=by omega
  rw[List.take_length]
  have hl4:(q3++Y6 c.pages).length=q3.length+(Y6 c.pages).length:=List.length_append
  generalize hq4:q3++Y6 c.pages=q4 at *
  have hl5:(q4++flB c.known).length=q4.length+(flB c.known).length:=List.length_append
  have hcall4:∀K:AVal→Heap→Nat→Prop,K (slB 1 (q4++flB c.known)) [(1,oB (q4++flB c.known))] 2→FL [slB 0 q4,.bool c.known] [(0,oB q4)] 1 K:=fun K hk=>⟨q4,c.known,rfl,rfl,rfl,by omega,hk⟩
  generalize hq5:q4++flB c.known=q5 at *
  have hlm:(List.map encP c.pages).length=c.pages.length:=List.length_map ..
  repeat' first|refine And.intro ?_ ?_|(intro h;try first|exact dzq|replace h:=cvq)
  all_goals try exact czq
  refine⟨[0],[slB 0 q4,.bool c.known],[(0,oB q4)],rfl,⟨.refl _,.refl _,trivial⟩,⟨⟨by decide,_,rfl,Qb (fB _)⟩,trivial⟩,?_⟩
  refine hcall4 _ ?_
  repeat' first|refine And.intro ?_ ?_|(intro h;try first|exact dzq|replace h:=cvq)
  all_goals try exact czq
  refine⟨rkS k c q5,Ns (K:=3) (B:=1) (by exact rfl) rfl rfl rfl (congrArg some (Jn _ (fB _))) rfl rfl rfl rfl,?_⟩
  have hsl:(stB k c.st).length=(nuB [c.st.nulls]).length+(flB c.st.has).length+(if c.st.has=true then vlB k c.st.mn++vlB k c.st.mx else[]).length:=by
   unfold stB;simp only[List.length_append]
  cases hk:c.known
  ·rw[hk]at hlen
   rw[if_neg (by decide),List.append_nil]
   have hx1:=hk
   have hx2:=hk
   have hx3:=hk
   have hx4:=hk
   repeat' first|refine And.intro ?_ ?_|(intro h;try first|exact ZD|replace h:=ZE)
   all_goals try exact cz
   exact⟨_,ZP (k:=6) (n:=0) (l:=q5) (by exact rfl) rfl rfl rfl rfl,_,rfl,Wi rfl⟩
  ·rw[hk]at hlen hl5
   rw[if_pos rfl]at hlen
   rw[if_pos rfl]
   have hx1:=hk
   have hx2:=hk
   have hx3:=hk
   have hx4:=hk
   repeat' first|refine And.intro ?_ ?_|(intro h;try first|exact ZD|replace h:=ZE)
   all_goals try exact cz
   have hO3:q5++stB k c.st=q5++nuB [c.st.nulls]++flB c.st.has++(if c.st.has=true then vlB k c.st.mn++vlB k c.st.mx else[]):=by unfold stB;simp only[List.append_assoc]
   rw[hO3]
   clear hO3
   have hl6:(q5++nuB [c.st.nulls]).length=q5.length+(nuB [c.st.nulls]).length:=List.length_append
   have hcall5:∀K:List UInt8→Prop,K (q5++nuB [c.st.nulls])→S_rnum19 [vB q5,.int .i64 c.st.nulls] K:=fun K hk=>⟨q5,c.st.nulls,rfl,⟨by omega,hc.nulls⟩,hk⟩
   generalize hq6:q5++nuB [c.st.nulls]=q6 at *
   have hl7:(q6++flB c.st.has).length=q6.length+(flB c.st.has).length:=List.length_append
   have hcall6:∀K:AVal→Heap→Nat→Prop,K (slB 1 (q6++flB c.st.has)) [(1,oB (q6++flB c.st.has))] 2→FL [slB 0 q6,.bool c.st.has] [(0,oB q6)] 1 K:=fun K hk=>⟨q6,c.st.has,rfl,rfl,rfl,by omega,hk⟩
   generalize hq7:q6++flB c.st.has=q7 at *
   repeat' first|refine And.intro ?_ ?_|(intro h;try first|exact ZD|replace h:=ZE)
   all_goals try exact cz
   refine⟨[vB q5,.int .i64 c.st.nulls],⟨.byt (rows:=q5.map encB) (ro:=true) (by kernel_rfl) rfl rfl,.imm _ rfl,trivial⟩,?_⟩
   refine hcall5 _ ?_
   repeat' first|refine And.intro ?_ ?_|(intro h;try first|exact ZD|replace h:=ZE)
   all_goals try exact cz
   refine⟨_,_,_,⟨[2+(0+1+1+1+1)*RR],[slB 0 q6,.bool c.st.has],[(0,oB q6)],by kernel_rfl,⟨by exact .refl _,by exact .refl _,trivial⟩,⟨⟨Nat.zero_lt_one,_,by kernel_rfl,Qb (fB _)⟩,trivial⟩,hcall6 _ ⟨rfl,rfl,rfl⟩⟩,?_⟩
   repeat' first|refine And.intro ?_ ?_|(intro h;try first|exact ZD|replace h:=ZE)
   all_goals try exact cz
   refine⟨rkT k c q7,PQ (cap:=none) (ρ:=rho [2+(0+1+1+1+1)*RR] (2+8*RR)) (K:=2+8*RR+1) (by kernel_rfl) (by kernel_rfl) rfl rfl rfl (by kernel_rfl) (by kernel_rfl) rfl,?_⟩
   cases hh:c.st.has
   ·rw[if_neg (by decide),List.append_nil]
    have hx1:=hh
    have hx2:=hh
    have hx3:=hh
    have hx4:=hh
    repeat' first|refine And.intro ?_ ?_|(intro h;try first|exact ZD|replace h:=ZE)
    all_goals try exact cz
    exact⟨_,ZP (k:=6) (n:=0) (l:=q7) (by exact rfl) rfl rfl rfl rfl,_,rfl,Wi rfl⟩
   ·rw[if_pos rfl]
    rw[hh,if_pos rfl]at hsl
    have hx1:=hh
    have hx2:=hh
    have hx3:=hh
    have hx4:=hh
    rw[hh]at hl7
    rw[List.length_append]at hsl
    rw[←List.append_assoc]
    have hl8:(q7++vlB k c.st.mn).length=q7.length+(vlB k c.st.mn).length:=List.length_append
    have hcall7:∀K:List UInt8→Prop,K (q7++vlB k c.st.mn)→S_rvalue [vB q7,.int .i64 k,.agg (ZU c.st.mn)] K:=fun K hk=>⟨q7,k,c.st.mn,rfl,by omega,hk⟩
    generalize hq8:q7++vlB k c.st.mn=q8 at *
    have hcall8:∀K:List UInt8→Prop,K (q8++vlB k c.st.mx)→S_rvalue [vB q8,.int .i64 k,.agg (ZU c.st.mx)] K:=fun K hk=>⟨q8,k,c.st.mx,rfl,by omega,hk⟩
    generalize hq9:q8++vlB k c.st.mx=q9 at *
    repeat' first|refine And.intro ?_ ?_|(intro h;try first|exact ZD|replace h:=ZE)
    all_goals try exact cz
    refine⟨[vB q7,.int .i64 k,.agg (ZU c.st.mn)],⟨.byt (rows:=q7.map encB) (ro:=true) (by kernel_rfl) rfl rfl,.imm _ rfl,.imm _ rfl,trivial⟩,?_⟩
    refine hcall7 _ ?_
    repeat' first|refine And.intro ?_ ?_|(intro h;try first|exact ZD|replace h:=ZE)
    all_goals try exact cz
    refine⟨[vB q8,.int .i64 k,.agg (ZU c.st.mx)],⟨.byt (rows:=q8.map encB) (ro:=false) (by kernel_rfl) rfl rfl,.imm _ rfl,.imm _ rfl,trivial⟩,?_⟩
    refine hcall8 _ ?_
    repeat' first|refine And.intro ?_ ?_|(intro h;try first|exact ZD|replace h:=ZE)
    all_goals try exact cz
    exact⟨_,ZP (k:=6) (n:=2+10*RR) (l:=q9) (cap:=none) (by kernel_rfl) rfl (by kernel_rfl) rfl rfl,_,rfl,Wi rfl⟩
def S_rchunk:SpecY:=fun args K=>∃o k c,args=[vB o,.int .i64 k,.agg (encC c)]∧(CkB c∧o.length+(ckB k c).length≤1000000)∧K (o++ckB k c)
theorem L2[Syms]:JD Try.prog 25 S_rchunk:=by
 rintro args K ⟨o,k,c,rfl,⟨h1,h2⟩,hk⟩
 exact⟨_,hk,Qg Qh Qi RL RM Qt (Nz o k c h1 h2)⟩
end
section
set_option maxRecDepth 100000
set_option maxHeartbeats 4000000
abbrev cRS:CallT:=Q6 50 (Ud S_rvput) Q7
theorem Iu[Syms]:cRS.det Try.prog:=Xl Mw Q3
def rsS(s:List Fd)(o:List UInt8)(i:Nat):St:=⟨[(0,vF s),(3,slB 0 o),(4,.int .i64 i)],[(0,oB o)],1⟩
theorem JJ[Syms]{N K nx:Nat}{e:Env}{H:Heap}{len:Nat}{cap:Option Nat}{rows:List (List AVal)}{s:List Fd}{o:List UInt8}{i:Nat}{i1:Int}(hn:QG 0 nx [K]=true)(h0:e.get 0=vF s)(h3:e.get 3= .slice K 0 len 1 cap)(h4:e.get 4= .int .i64 i1)(hi:i1=i)(hK:H.get K=some (.cells rows false))(hr:rows=o.map encB)(hl:len=o.length):Reb 0 N ⟨e,H,nx⟩ (rsS s o i):=by
 subst hr hl hi
 exact Q0 [K] hn ⟨by rw[h0];exact .refl _,by rw[h3];exact Q8 rfl,by rw[h4];exact .refl _,trivial⟩ ⟨⟨Nat.zero_lt_one,_,hK,Q1 rfl (fB _)⟩,trivial⟩
theorem wr8b{x:Int}(h:0≤x∧x<256):wr .u8 x=(((UInt8.ofNat (x.toNat%256)).toNat:Nat):Int):=by
 have:=wr8m x.toNat
 rwa [Int.toNat_of_nonneg h.1]at this
noncomputable def plRs:Nat→Nat→Pl:=XG [(23,5),(23,7)] (Qz plt)
theorem Q0s[Syms](s:List Fd)(hl:(sbF s).length≤1000000)(hl2:s.length≤100000)(hk:∀f∈s,(0≤f.rep∧f.rep<256)∧(0≤f.kind∧f.kind<256)∧0≤f.kids∧f.kids<1000000):
 fnT cRS cRS (Qv fns) (Qn tys) plRs 100 23 [vF s] [] 0 (B9 (sbF s)):=by
 have hw:wr .u64 (s.length:Int)=((s.length:Nat):Int):=wrU (by omega)
 have hlF:(sbF s).length=(XI s.length).length+(sbL s).length:=by rw[sbF,List.length_append]
 refine⟨[vB [],.int .u64 (wr .u64 (s.length:Int))],⟨.nil _ encB 0,.imm _ rfl,trivial⟩,[],s.length,congrArg (fun z=>[vB [],AVal.int .u64 z]) hw,by simp,by omega,?_⟩
 refine⟨fun m t=>∃i:Nat,(i≤s.length∧m=s.length-i)∧t=rsS s (XI s.length++sbL (s.take i)) i,⟨_,rsS s (XI s.length++sbL (s.take 0)) 0,JJ (K:=0) rfl rfl rfl rfl rfl rfl (by simp[sbL]) (by simp[sbL]),0,⟨by omega,rfl⟩,rfl⟩,?_⟩
 rintro m t ⟨i,⟨hi,rfl⟩,rfl⟩
 by_cases h1:i<s.length
 ·have hst:=Ni h1
  have hli1:=SH s (i+1)
  obtain⟨hr0,hk0,hc0,hc1⟩:(0≤(s.getD i default).rep∧(s.getD i default).rep<256)∧(0≤(s.getD i default).kind∧(s.getD i default).kind<256)∧0≤(s.getD i default).kids∧(s.getD i default).kids<1000000:=by
   rw[List.getD_eq_getElem?_getD,List.getElem?_eq_getElem h1];exact hk _ (List.getElem_mem h1)
  have hwr:=wr8b hr0
  have hwk:=wr8b hk0
  have hwc:wr .u64 (s.getD i default).kids=(((s.getD i default).kids.toNat:Nat):Int):=wrU (by omega)
  have hL:(FU (s.getD i default)).length=1+(1+((XI (s.getD i default).kids.toNat).length+((XI (s.getD i default).name.length).length+(s.getD i default).name.length))):=by
   simp only[FU,List.length_append,XH]
  have hT:(XI s.length++sbL (s.take i)).length+(FU (s.getD i default)).length≤1000000:=by
   rw[hst,List.length_append]at hli1
   rw[List.length_append];omega
  have hwn:wr .u64 ((s.getD i default).name.length:Int)=(((s.getD i default).name.length:Nat):Int):=wrU (by omega)
  have hend:XI s.length++sbL (s.take (i+1))=(XI s.length++sbL (s.take i))++[UInt8.ofNat ((s.getD i default).rep.toNat%256),UInt8.ofNat ((s.getD i default).kind.toNat%256)]++XI (s.getD i default).kids.toNat++XI (s.getD i default).name.length++(s.getD i default).name:=by
   rw[hst,FU];simp only[leB,List.append_assoc,List.cons_append,List.nil_append]
  clear hli1 hst
  generalize XI s.length++sbL (s.take i)=o at *
  have ha:List.take o.length (List.drop 0 (o.map encB))++[[AVal.int .u8 (wr .u8 (s.getD i default).rep)],[AVal.int .u8 (wr .u8 (s.getD i default).kind)]]=(o++[UInt8.ofNat ((s.getD i default).rep.toNat%256),UInt8.ofNat ((s.getD i default).kind.toNat%256)]).map encB:=by
   rw[List.drop_zero,List.take_of_length_le (by simp),List.map_append,hwr,hwk];rfl
  have hl1:(o++[UInt8.ofNat ((s.getD i default).rep.toNat%256),UInt8.ofNat ((s.getD i default).kind.toNat%256)]).length=o.length+2:=by simp
  generalize o++[UInt8.ofNat ((s.getD i default).rep.toNat%256),UInt8.ofNat ((s.getD i default).kind.toNat%256)]=q1 at *
  repeat' first|refine And.intro ?_ ?_|(intro h;try first|exact dz|replace h:=cv)
  all_goals try exact cz
  refine⟨rsS s q1 i,?_,?_⟩
  · repeat' first|refine And.intro ?_ ?_|(intro h;try first|exact dz|replace h:=cv)
    all_goals try exact cz
    all_goals exact Exists.intro () (JJ (K:=2) (by exact rfl) rfl rfl rfl rfl rfl ha hl1.symm)
  have hcall1:∀K:List UInt8→Prop,K (q1++XI (s.getD i default).kids.toNat)→S_rvput [vB q1,.int .u64 (wr .u64 (s.getD i default).kids)] K:=fun K hk=>⟨q1,(s.getD i default).kids.toNat,congrArg (fun z=>[vB q1,AVal.int .u64 z]) hwc,by omega,by omega,hk⟩
  have hl2:(q1++XI (s.getD i default).kids.toNat).length=q1.length+(XI (s.getD i default).kids.toNat).length:=List.length_append
  generalize q1++XI (s.getD i default).kids.toNat=q2 at *
  have hcall2:∀K:List UInt8→Prop,K (q2++XI (s.getD i default).name.length)→S_rvput [vB q2,.int .u64 (wr .u64 ((s.getD i default).name.length:Int))] K:=fun K hk=>⟨q2,(s.getD i default).name.length,congrArg (fun z=>[vB q2,AVal.int .u64 z]) hwn,by omega,by omega,hk⟩
  have hl3:(q2++XI (s.getD i default).name.length).length=q2.length+(XI (s.getD i default).name.length).length:=List.length_append
  generalize q2++XI (s.getD i default).name.length=q3 at *
  repeat' first|refine And.intro ?_ ?_|(intro h;try first|exact dz|replace h:=cv)
  all_goals try exact cz
  refine⟨[vB q1,.int .u64 (wr .u64 (s.getD i default).kids)],⟨.byt (rows:=q1.map encB) (ro:=true) (by kernel_rfl) rfl rfl,.imm _ rfl,trivial⟩,?_⟩
  refine hcall1 _ ?_
  repeat' first|refine And.intro ?_ ?_|(intro h;try first|exact dz|replace h:=cv)
  all_goals try exact cz
  refine⟨[vB q2,.int .u64 (wr .u64 ((s.getD i default).name.length:Int))],⟨.byt (rows:=q2.map encB) (ro:=false) (by kernel_rfl) rfl rfl,.imm _ rfl,trivial⟩,?_⟩
  refine hcall2 _ ?_
  repeat' first|refine And.intro ?_ ?_|(intro h;try first|exact dz|replace h:=cv)
  all_goals try exact cz
  ·show YD 1 ((s.getD i default).name.map encB)=true
   exact Zv (enc:=encB) (z:=1) (fun _=>rfl) _
  all_goals(try((with_reducible show(_:Nat)≤_);first|(show(q3.length+((s.getD i default).name.map encB).length)*1≤_;rw[List.length_map];omega)|(show(q3.length+((s.getD i default).name.map encB).length)≤_;rw[List.length_map];omega)))
  ·have hnm:(s.getD i default).name=[]:=List.eq_nil_of_length_eq_zero h
   rw[hnm,List.append_nil]at hend
   refine⟨rsS s q3 i,JJ (K:=1+15*RR) (by kernel_rfl) rfl rfl rfl rfl (by kernel_rfl) rfl rfl,?_⟩
   repeat' first|refine And.intro ?_ ?_|(intro h;try first|exact dz|replace h:=cv)
   all_goals try exact cz
   exact⟨_,rsS s q3 (i+1),JJ (K:=0) (by exact rfl) rfl rfl rfl (by omega) rfl rfl rfl,⟨i+1,⟨by omega,rfl⟩,by rw[hend]⟩,by omega⟩
  ·refine⟨rsS s (q3++(s.getD i default).name) i,JJ (K:=1+15*RR+1) (by kernel_rfl) rfl rfl rfl rfl (by kernel_rfl) (Iz q3 (s.getD i default).name) (IA q3 (s.getD i default).name),?_⟩
   repeat' first|refine And.intro ?_ ?_|(intro h;try first|exact dz|replace h:=cv)
   all_goals try exact cz
   exact⟨_,rsS s (q3++(s.getD i default).name) (i+1),JJ (K:=0) (by exact rfl) rfl rfl rfl (by omega) rfl rfl rfl,⟨i+1,⟨by omega,rfl⟩,by rw[hend]⟩,by omega⟩
 ·obtain rfl:i=s.length:=by omega
  rw[List.take_length]
  have ho:XI s.length++sbL s=sbF s:=rfl
  rw[ho]
  generalize sbF s=o at *
  repeat' first|refine And.intro ?_ ?_|(intro h;try first|exact dz|replace h:=cv)
  all_goals try exact cz
  exact⟨_,ZP (k:=2) (l:=o) (by exact rfl) rfl rfl rfl rfl,_,rfl,Wi rfl⟩
theorem Et[Syms]:JD Try.prog 23 S_sbytes:=by
 rintro args K ⟨s,rfl,⟨h1,h2,h3⟩,hk⟩
 exact⟨_,hk,Qg Qh Qi Iu Iu.ok Qt (Q0s s h1 h2 h3)⟩
end
section
set_option maxRecDepth 100000
set_option maxHeartbeats 4000000
theorem BArg.eq{H:Heap}{v v':AVal}(h:v=v')(hi:v'.imm=true):BArg H v v':=by subst h;exact .imm v hi
abbrev TC:CallT:=Q6 23 (Ud S_sbytes) (Q6 24 (Ud S_rnum19) (Q6 21 (Xc (seeW S_leaves)) (Q6 25 (Ud S_rchunk) Q7)))
theorem E3[Syms]:TC.det Try.prog:=Xl Et (Xl JL (ZW K4.seeW (Xl L2 Q3)))
noncomputable def Q07:Nat→Nat→Pl:=XG [(12,2),(12,4),(12,8)] (Qz plt)
abbrev mtT(m:Mt):List AVal:=QE (vF m.s) m.n (vR m.groups)
def rfbS(m:Mt)(o:List UInt8):St:=⟨[(1,.ptr 0 0 0),(4,slB 1 o)],[(0,some (.cells [mtT m] false)),(1,oB o)],2⟩
def rfL(m:Mt)(ls:List Lf)(o:List UInt8):St:=⟨[(1,.ptr 0 0 0),(4,slB 1 o),(5,vL ls)],[(0,some (.cells [mtT m] false)),(1,oB o)],2⟩
def rfI(m:Mt)(ls:List Lf)(o:List UInt8)(i:Nat):St:=⟨[(1,.ptr 0 0 0),(4,slB 1 o),(5,vL ls),(6,.int .i64 i)],[(0,some (.cells [mtT m] false)),(1,oB o)],2⟩
def rfJ(m:Mt)(ls:List Lf)(o:List UInt8)(i j:Nat):St:=⟨[(1,.ptr 0 0 0),(4,slB 1 o),(5,vL ls),(6,.int .i64 i),(7,.int .i64 j)],[(0,some (.cells [mtT m] false)),(1,oB o)],2⟩
theorem K5[Syms]{N K B nx:Nat}{e es:Env}{H:Heap}{len:Nat}{rows:List (List AVal)}{row:List AVal}{m:Mt}{o:List UInt8}{cap:Option Nat}(hn:QG 0 nx [B,K]=true)(h1:e.get 1= .ptr B 0 0)(h4:e.get 4= .slice K 0 len 1 cap)(he:GQ (rho [B,K] nx) e es)(hK:H.get K=some (.cells rows false))(hB:H.get B=some (.cells [row] false))(hrow:Ww row (mtT m))(hr:rows=o.map encB)(hl:len=o.length):
 Reb 0 N ⟨e,H,nx⟩ ⟨(1,.ptr 0 0 0)::(4,slB 1 o)::es,[(0,some (.cells [mtT m] false)),(1,oB o)],2⟩:=by
 subst hr hl
 exact Q0 [B,K] hn ⟨by rw[h1];exact .refl _,by rw[h4];exact Q8 rfl,he⟩ ⟨⟨Nat.succ_pos _,_,hB,QM (row:=mtT m) hrow (fun x hx=>by simp[QE]at hx;rcases hx with rfl|rfl|rfl<;>rfl)⟩,⟨Nat.lt_succ_self _,_,hK,Q1 rfl (fB _)⟩,trivial⟩
theorem IY[Syms](m:Mt)(hm:MtB m)(hg:∀g∈m.groups,g.chunks.length=(Qu m.s).length)(hl:(mtB m).length≤1000000):
 fnT TC TC (Qv fns) (Qn tys) Q07 100 12 [.agg (QT m)] [] 0 (B9 (mtB m)):=by
 obtain⟨hfs,hsb,hmn,hgl,hgs⟩:=hm
 have hlen:(mtB m).length=(nuB [((sbF m.s).length:Int)]).length+(sbF m.s).length+(nuB [m.n]).length+(nuB [(m.groups.length:Int)]).length+(XP (QR m.s) m.groups).length:=by
  unfold mtB;rw[Zq m.n];simp only[List.length_append];omega
 have hM:mtB m=nuB [((sbF m.s).length:Int)]++sbF m.s++nuB [m.n]++nuB [(m.groups.length:Int)]++XP (Q5 (Qu m.s)) m.groups:=by
  unfold mtB;rw[Zq m.n];simp only[List.append_assoc];rfl
 have hkl:QR m.s=Q5 (Qu m.s):=rfl
 rw[hkl]at hlen
 have hsl:m.s.length≤100000:=by have:=hfs.len;omega
 repeat' first|refine And.intro ?_ ?_|(intro h;try first|exact dzq|replace h:=cvq)
 all_goals try exact cz
 refine⟨[vF m.s],⟨.see _ _ rfl (.tab rfl),trivial⟩,m.s,rfl,⟨by omega,hsl,hsb⟩,?_⟩
 rw[hM]
 clear hM hkl hsb
 have hlb:(Qu m.s).length≤1000:=by have h1:(Qu m.s).length≤m.s.length:=Zu _ _ _;have h2:=hfs.len;omega
 have hpos:0<(sbF m.s).length:=by rw[sbF,List.length_append];have:=NE 9 m.s.length;exact Nat.lt_of_lt_of_le this (Nat.le_add_right _ _)
 have hcall1:∀K:List UInt8→Prop,K (nuB [((sbF m.s).length:Int)])→S_rnum19 [vB [],.int .i64 ((sbF m.s).length:Int)] K:=fun K hk=>⟨[],((sbF m.s).length:Int),rfl,⟨by rw[List.length_nil];omega,by omega,by omega⟩,hk⟩
 generalize hs:sbF m.s=sb at *
 generalize hq1:nuB [(sb.length:Int)]=q1 at *
 repeat' first|refine And.intro ?_ ?_|(intro h;try first|exact dzq|replace h:=cvq)
 all_goals try exact cz
 refine⟨[vB [],.int .i64 (sb.length:Int)],⟨.nil _ encB 0,.imm _ rfl,trivial⟩,?_⟩
 refine hcall1 _ ?_
 repeat' first|refine And.intro ?_ ?_|(intro h;try first|exact dzq|replace h:=cvq)
 all_goals try exact cz
 all_goals(try((with_reducible show _=true);show YD 1 (List.take sb.length (List.drop 0 (sb.map encB)))=true;rw[List.drop_zero,List.take_of_length_le (by simp)];exact Zv (enc:=encB) (z:=1) (fun _=>rfl) _))
 have hl1:(q1++sb).length=q1.length+sb.length:=List.length_append
 have hr1:List.take q1.length (List.drop 0 (q1.map encB))++List.take sb.length (List.drop 0 (sb.map encB))=(q1++sb).map encB:=by
  rw[List.drop_zero,List.drop_zero,List.take_of_length_le (by simp),List.take_of_length_le (by simp),List.map_append]
 generalize hq2:q1++sb=q2 at *
 refine⟨rfbS m q2,K5 (K:=3) (B:=0) (by exact rfl) rfl rfl trivial rfl rfl ⟨.tab rfl,.refl _,.tab rfl,trivial⟩ hr1 hl1.symm,?_⟩
 have hcall2:∀K:List UInt8→Prop,K (q2++nuB [m.n])→S_rnum19 [vB q2,.int .i64 m.n] K:=fun K hk=>⟨q2,m.n,rfl,⟨by omega,hmn⟩,hk⟩
 have hl2:(q2++nuB [m.n]).length=q2.length+(nuB [m.n]).length:=List.length_append
 generalize q2++nuB [m.n]=q3 at *
 have hcall3:∀K:List UInt8→Prop,K (q3++nuB [(m.groups.length:Int)])→S_rnum19 [vB q3,.int .i64 (m.groups.length:Int)] K:=fun K hk=>⟨q3,(m.groups.length:Int),rfl,⟨by omega,by omega,by omega⟩,hk⟩
 have hl3:(q3++nuB [(m.groups.length:Int)]).length=q3.length+(nuB [(m.groups.length:Int)]).length:=List.length_append
 generalize q3++nuB [(m.groups.length:Int)]=q4 at *
 repeat' first|refine And.intro ?_ ?_|(intro h;try first|exact dzq|replace h:=cvq)
 all_goals try exact cz
 refine⟨[vB q2,.int .i64 m.n],⟨.byt (rows:=q2.map encB) (ro:=true) (by kernel_rfl) rfl rfl,.imm _ rfl,trivial⟩,?_⟩
 refine hcall2 _ ?_
 repeat' first|refine And.intro ?_ ?_|(intro h;try first|exact dzq|replace h:=cvq)
 all_goals try exact cz
 refine⟨[vB q3,.int .i64 (m.groups.length:Int)],⟨.byt (rows:=q3.map encB) (ro:=false) (by kernel_rfl) rfl rfl,.imm _ rfl,trivial⟩,?_⟩
 refine hcall3 _ ?_
 repeat' first|refine And.intro ?_ ?_|(intro h;try first|exact dzq|replace h:=cvq)
 all_goals try exact cz
 refine⟨[vF m.s],⟨.refl _,trivial⟩,m.s,rfl,hfs,?_⟩
 generalize Qu m.s=ls at *
 repeat' first|refine And.intro ?_ ?_|(intro h;try first|exact dzq|replace h:=cvq)
 all_goals try exact cz
 refine⟨rfL m ls q4,K5 (row:=mtT m) (K:=2+7*RR) (B:=0) (by kernel_rfl) rfl rfl ⟨.refl _,trivial⟩ (by kernel_rfl) (by kernel_rfl) ⟨.refl _,.refl _,.refl _,trivial⟩ rfl rfl,?_⟩
 repeat' first|refine And.intro ?_ ?_|(intro h;try first|exact dzq|replace h:=cvq)
 all_goals try exact cz
 refine⟨fun w s=>∃i:Nat,(i≤m.groups.length∧w=m.groups.length-i)∧s=rfI m ls (q4++XP (Q5 ls) (m.groups.take i)) i,⟨_,rfI m ls (q4++XP (Q5 ls) (m.groups.take 0)) 0,K5 (K:=1) (B:=0) (by exact rfl) rfl rfl ⟨.refl _,.refl _,trivial⟩ rfl rfl ⟨.refl _,.refl _,.refl _,trivial⟩ (by simp[XP]) (by simp[XP]),0,⟨by omega,rfl⟩,rfl⟩,?_⟩
 rintro w s ⟨i,⟨hi,rfl⟩,rfl⟩
 by_cases h1:i<m.groups.length
 ·have hgi:RwB ls.length (m.groups.getD i default):=by
   rw[List.getD_eq_getElem?_getD,List.getElem?_eq_getElem h1];exact hgs _ (List.getElem_mem h1)
  have hgc:(m.groups.getD i default).chunks.length=ls.length:=by
   rw[List.getD_eq_getElem?_getD,List.getElem?_eq_getElem h1];exact hg _ (List.getElem_mem h1)
  have hpt:=IQ (ks:=Q5 ls) h1
  have hpl:=PA (Q5 ls) m.groups (i+1)
  have hlo:(q4++XP (Q5 ls) (m.groups.take i)).length+(rwB (Q5 ls) (m.groups.getD i default)).length≤1000000:=by
   rw[hpt,List.length_append]at hpl
   rw[List.length_append];omega
  have hO2:q4++XP (Q5 ls) (m.groups.take (i+1))=q4++XP (Q5 ls) (m.groups.take i)++nuB [(m.groups.getD i default).n]++YM (Q5 ls) (m.groups.getD i default).chunks:=by rw[hpt,rwB];simp only[List.append_assoc]
  obtain⟨hgn,_,hck⟩:=hgi
  have hrl:(rwB (Q5 ls) (m.groups.getD i default)).length=(nuB [(m.groups.getD i default).n]).length+(YM (Q5 ls) (m.groups.getD i default).chunks).length:=by rw[rwB,List.length_append]
  clear hpt hpl
  generalize q4++XP (Q5 ls) (m.groups.take i)=q at *
  have hcall4:∀K:List UInt8→Prop,K (q++nuB [(m.groups.getD i default).n])→S_rnum19 [vB q,.int .i64 (m.groups.getD i default).n] K:=fun K hk=>⟨q,(m.groups.getD i default).n,rfl,⟨by omega,hgn⟩,hk⟩
  have hl5:(q++nuB [(m.groups.getD i default).n]).length=q.length+(nuB [(m.groups.getD i default).n]).length:=List.length_append
  generalize q++nuB [(m.groups.getD i default).n]=q5 at *
  repeat' first|refine And.intro ?_ ?_|(intro h;try first|exact dzq|replace h:=cvq)
  all_goals try exact czq
  refine⟨[vB q,.int .i64 (m.groups.getD i default).n],⟨.byt rfl rfl rfl,.imm _ rfl,trivial⟩,?_⟩
  refine hcall4 _ ?_
  repeat' first|refine And.intro ?_ ?_|(intro h;try first|exact dzq|replace h:=cvq)
  all_goals try exact czq
  refine⟨rfI m ls q5 i,K5 (K:=2) (B:=0) (by exact rfl) rfl rfl ⟨.refl _,.refl _,trivial⟩ rfl rfl ⟨.refl _,.refl _,.refl _,trivial⟩ rfl rfl,?_⟩
  repeat' first|refine And.intro ?_ ?_|(intro h;try first|exact dzq|replace h:=cvq)
  all_goals try exact czq
  have hkl:(Q5 ls).length=ls.length:=List.length_map ..
  refine⟨fun w s=>∃j:Nat,(j≤ls.length∧w=ls.length-j)∧s=rfJ m ls (q5++YM (Q5 ls) ((m.groups.getD i default).chunks.take j)) i j,⟨_,rfJ m ls (q5++YM (Q5 ls) ((m.groups.getD i default).chunks.take 0)) i 0,K5 (K:=1) (B:=0) (by exact rfl) rfl rfl ⟨.refl _,.refl _,.refl _,trivial⟩ rfl rfl ⟨.refl _,.refl _,.refl _,trivial⟩ (by rw[List.take_zero,CV,List.append_nil]) (by rw[List.take_zero,CV,List.append_nil]),0,⟨by omega,rfl⟩,rfl⟩,?_⟩
  rintro w s ⟨j,⟨hj,rfl⟩,rfl⟩
  by_cases h3:j<ls.length
  ·have hct:=DF (ks:=Q5 ls) (j:=j) (cs:=(m.groups.getD i default).chunks) (by omega) (by omega)
   have hcl:=Ip (Q5 ls) (m.groups.getD i default).chunks (j+1)
   have hkd:(Q5 ls).getD j 0=(ls.getD j default).kind:=by
    rw[List.getD_eq_getElem?_getD,List.getD_eq_getElem?_getD,List.getElem?_map,List.getElem?_eq_getElem h3];rfl
   rw[hkd]at hct
   have hcb:CkB ((m.groups.getD i default).chunks.getD j default):=by
    rw[List.getD_eq_getElem?_getD,List.getElem?_eq_getElem (by omega)];exact hck _ (List.getElem_mem (by omega))
   have hrowc:(List.map encC (m.groups.getD i default).chunks).getD j []=encC ((m.groups.getD i default).chunks.getD j default):=Wf encC default (by omega)
   have hlc:(q5++YM (Q5 ls) ((m.groups.getD i default).chunks.take j)).length+(ckB (ls.getD j default).kind ((m.groups.getD i default).chunks.getD j default)).length≤1000000:=by
    rw[hct,List.length_append]at hcl
    rw[List.length_append];omega
   have hO3:q5++YM (Q5 ls) ((m.groups.getD i default).chunks.take (j+1))=q5++YM (Q5 ls) ((m.groups.getD i default).chunks.take j)++ckB (ls.getD j default).kind ((m.groups.getD i default).chunks.getD j default):=by rw[hct];simp only[List.append_assoc]
   clear hct hcl
   generalize q5++YM (Q5 ls) ((m.groups.getD i default).chunks.take j)=q6 at *
   have hcall5:∀K:List UInt8→Prop,K (q6++ckB (ls.getD j default).kind ((m.groups.getD i default).chunks.getD j default))→S_rchunk [vB q6,.int .i64 (ls.getD j default).kind,.agg (encC ((m.groups.getD i default).chunks.getD j default))] K:=fun K hk=>⟨q6,_,_,rfl,⟨hcb,hlc⟩,hk⟩
   generalize q6++ckB (ls.getD j default).kind ((m.groups.getD i default).chunks.getD j default)=q7 at *
   repeat' first|refine And.intro ?_ ?_|(intro h;try first|exact dzq|replace h:=cvq)
   all_goals try exact czq
   ·show((j:Nat):Int)<(((List.map encC (m.groups.getD i default).chunks).length:Nat):Int)
    rw[List.length_map];omega
   ·show F1 true _ ((List.map encC (m.groups.getD i default).chunks).getD ((j:Nat):Int).toNat []) 0=true
    rw[Int.toNat_natCast,hrowc];rfl
   refine⟨[vB q6,.int .i64 (ls.getD j default).kind,.agg (encC ((m.groups.getD i default).chunks.getD j default))],⟨.byt rfl rfl rfl,.imm _ rfl,.eq ?_ rfl,trivial⟩,?_⟩
   ·have hrow3:(asR (((fun i=>encR (m.groups.getD i default)) ((i:Nat):Int).toNat).getD (0+1) .any)).getD ((j:Nat):Int).toNat []=encC ((m.groups.getD i default).chunks.getD j default):=by rw[←hrowc];rfl
    simp only[hrow3];rfl
   refine hcall5 _ ?_
   repeat' first|refine And.intro ?_ ?_|(intro h;try first|exact dzq|replace h:=cvq)
   all_goals try exact czq
   exact⟨_,rfJ m ls q7 i (j+1),K5 (row:=mtT m) (K:=2+15*RR) (B:=0) (by kernel_rfl) rfl rfl ⟨.refl _,.refl _,Qp (by omega),trivial⟩ (by kernel_rfl) (by kernel_rfl) ⟨.refl _,.refl _,.refl _,trivial⟩ rfl rfl,⟨j+1,⟨by omega,rfl⟩,by rw[hO3]⟩,by omega⟩
  ·obtain rfl:j=ls.length:=by omega
   rw[show(m.groups.getD i default).chunks.take ls.length=(m.groups.getD i default).chunks from List.take_of_length_le (by omega),←hO2]
   repeat' first|refine And.intro ?_ ?_|(intro h;try first|exact dzq|replace h:=cvq)
   all_goals try exact czq
   exact⟨_,rfI m ls (q4++XP (Q5 ls) (m.groups.take (i+1))) (i+1),K5 (K:=1) (B:=0) (by exact rfl) rfl rfl ⟨.refl _,Qp (by omega),trivial⟩ rfl rfl ⟨.refl _,.refl _,.refl _,trivial⟩ rfl rfl,⟨i+1,⟨by omega,rfl⟩,rfl⟩,by omega⟩
 ·obtain rfl:i=m.groups.length:=by omega
  rw[List.take_length]
  repeat' first|refine And.intro ?_ ?_|(intro h;try first|exact dzq|replace h:=cvq)
  all_goals try exact czq
  exact⟨_,ZP (k:=2) (n:=1) (l:=q4++XP (Q5 ls) m.groups) (by exact rfl) rfl rfl rfl rfl,_,rfl,Wi rfl⟩
def S_rfbytes:SpecY:=fun args K=>∃m,args=[.agg (QT m)]∧(MtB m∧(∀g∈m.groups,g.chunks.length=(Qu m.s).length)∧(mtB m).length≤1000000)∧K (mtB m)
theorem Ew[Syms]:JD Try.prog 12 S_rfbytes:=by
 rintro args K ⟨m,rfl,⟨h1,h2,h3⟩,hk⟩
 exact⟨_,hk,Qg Qh Qi E3 E3.ok Qt (IY m h1 h2 h3)⟩
end
end Go.Proofs.Ytajieadpaeggcaa
