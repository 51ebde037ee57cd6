/-
  The names of a shape of raw numbers,and its paths:no two are the same. Plain. Leaves:how far each field is repeated and defined. Plain. Records as plain trees;and what 'Make' of chapter 8 makes of raw numbers. Plain.
-/
import Derived.Test.YtekipcaifckffaaGreatL2
set_option linter.unusedVariables false
set_option linter.unusedSimpArgs false
namespace Go.Proofs.YtekipcaifckffaaGreat
open Go Go.Av
structure Nam(fs:List Fd):Prop where
 pos:0<fs.length
 le:fs.length≤14
 root:(fs.getD 0 default).name=[109]
 at':∀j,1≤j→j<fs.length→(fs.getD j default).name=nmM (j-1)∧j≤12∨((fs.getD j default).name=[122]∧j+1=fs.length)
theorem U9(fs:List Fd)(a j:Nat):((ZS fs a).getD j default).name=(fs.getD j default).name:=by
 unfold ZS
 rw[List.getD_eq_getElem?_getD,List.getD_eq_getElem?_getD,List.getElem?_set]
 split
 ·rename_i h;subst h
  split
  ·rename_i h;simp[h]
  ·rename_i h;simp[Nat.le_of_not_lt h]
 ·rfl
theorem Km{fs:List Fd}{a:Nat}{m:Int}(h:∀j,(fs.getD j default).kids≤m)(j:Nat):((ZS fs a).getD j default).kids≤m+1:=by
 unfold ZS
 rw[List.getD_eq_getElem?_getD,List.getElem?_set]
 have hj:=h j
 rw[List.getD_eq_getElem?_getD]at hj
 split
 ·rename_i e;subst e
  split
  ·have:=h a;simp;omega
  ·rename_i hh;simp[Nat.le_of_not_lt hh]at hj ⊢;omega
 ·omega
theorem Z8{α:Type}{l:List α}{x d:α}{j:Nat}(h:j<l.length):(l++[x]).getD j d=l.getD j d:=by
 simp[List.getD_eq_getElem?_getD,List.getElem?_append_left h]
theorem Zs{α:Type}{l:List α}{x d:α}:(l++[x]).getD l.length d=x:=by
 simp[List.getD_eq_getElem?_getD]
structure MkI(i:Nat)(fs:List Fd)(op:List Int):Prop where
 len:fs.length=i+1
 root:(fs.getD 0 default).name=[109]
 nm:∀j,1≤j→j<fs.length→(fs.getD j default).name=nmM (j-1)
 kids:∀j,(fs.getD j default).kids≤i
 rep:∀f∈fs,0≤f.rep∧f.rep≤2∧0≤f.kind∧f.kind≤4
theorem Bt{fs:List Fd}{a:Nat}{f:Fd}(h:∀f∈fs,0≤f.rep∧f.rep≤2∧0≤f.kind∧f.kind≤4)(hf:f∈ZS fs a):0≤f.rep∧f.rep≤2∧0≤f.kind∧f.kind≤4:=by
 rcases List.mem_or_eq_of_mem_set hf with hf|rfl
 ·exact h f hf
 ·by_cases ha:a<fs.length
  ·exact h (fs.getD a default) (by simp[List.getD_eq_getElem?_getD,ha])
  ·simp[List.getD_eq_getElem?_getD,Nat.le_of_not_lt ha]
   decide
theorem Br(op:List Int)(x:Int):0≤XE op x∧XE op x≤4:=by
 obtain⟨h1,h2⟩:=Zr (a:=x) (n:=8) (by decide)
 have h3:(wi x 8).tmod 5=wi x 8%5:=Int.tmod_eq_emod_of_nonneg h1
 unfold XE
 split<;>omega
theorem L4{ns:List Int}{i:Nat}{fs:List Fd}{op:List Int}(h:MkI i fs op)(x:Int):MkI (i+1) (ZW fs op i x).1 (ZW fs op i x).2:=by
 have hl:=h.len
 obtain⟨w1,w2⟩:=Zr (a:=wr .i64 (x.tdiv 8)) (n:=3) (by decide)
 refine⟨by simp[ZW,Qa,hl],?_,?_,?_,?_⟩
 ·simp only[ZW]
  rw[Z8 (by rw[Qa];omega),U9];exact h.root
 ·intro j h1 h2
  simp only[ZW]at h2 ⊢
  simp[Qa]at h2
  by_cases hj:j<fs.length
  ·rw[Z8 (by rw[Qa];exact hj),U9];exact h.nm j h1 hj
  ·obtain rfl:j=fs.length:=by omega
   rw[←Qa fs (ZK (VF fs (wi (wr .i64 (x.tdiv 64)) 3).toNat op)).toNat,Zs]
   simp only[CP,Qa,hl];rfl
 ·intro j
  simp only[ZW]
  by_cases hj:j<fs.length
  ·rw[Z8 (by rw[Qa];exact hj)]
   have:=Km (a:=(ZK (VF fs (wi (wr .i64 (x.tdiv 64)) 3).toNat op)).toNat) h.kids j
   omega
  ·by_cases hj':j=fs.length
   ·subst hj'
    rw[←Qa fs (ZK (VF fs (wi (wr .i64 (x.tdiv 64)) 3).toNat op)).toNat,Zs]
    simp only[CP];omega
   ·rw[List.getD_eq_getElem?_getD,List.getElem?_eq_none (by simp[Qa];omega)]
    show(0:Int)≤_;omega
 ·intro f hf
  simp only[ZW]at hf
  rcases List.mem_append.1 hf with hf|hf
  ·exact Bt h.rep hf
  ·simp only[List.mem_singleton]at hf;subst hf
   have:=Br (VF fs (wi (wr .i64 (x.tdiv 64)) 3).toNat op) x
   simp only[CP];omega
theorem EK{ns:List Int}:∀(n i:Nat) (fs:List Fd) (op:List Int),MkI i fs op→n+i=12→ ∃m,m≤12∧MkI m (ZL ns n i fs op).1 (ZL ns n i fs op).2
 |0,i,fs,op,h,hn=>⟨i,by omega,h⟩
 |n+1,i,fs,op,h,hn=>by
  rw[ZL]
  split
  ·exact EK n (i+1) _ _ (L4 (ns:=ns) h _) (by omega)
  ·exact⟨i,by omega,h⟩
theorem D0(ns:List Int):∃m,m≤12∧MkI m (ZL ns 12 0 fs0 [0]).1 (ZL ns 12 0 fs0 [0]).2:=by
 refine EK 12 0 _ _ ⟨rfl,rfl,fun j h1 h2=>?_,fun j=>?_,?_⟩ rfl
 ·simp at h2;omega
 ·match j with
  |0=>exact Int.le_refl _
  |j+1=>exact Int.le_refl _
 ·intro f hf;simp only[List.mem_singleton]at hf;subst hf;decide
theorem XD(ns:List Int):Nam (Q2 ns):=by
 obtain⟨m,hm,h⟩:=D0 ns
 have hl:=h.len
 simp only[Q2]
 generalize(ZL ns 12 0 fs0 [0]).1=fs at *
 generalize(ZL ns 12 0 fs0 [0]).2=op at *
 unfold XV
 split
 ·refine⟨by simp,by simp[Qa];omega,by rw[Z8 (by rw[Qa];omega),U9];exact h.root,fun j h1 h2=>?_⟩
  simp[Qa]at h2
  by_cases hj:j<fs.length
  ·left
   rw[Z8 (by rw[Qa];exact hj),U9];exact⟨h.nm j h1 hj,by omega⟩
  ·right
   obtain rfl:j=fs.length:=by omega
   refine⟨?_,by simp[Qa]⟩
   rw[←Qa fs (ZK op).toNat,Zs]
 ·exact⟨by omega,by omega,h.root,fun j h1 h2=>.inl ⟨h.nm j h1 h2,by omega⟩⟩
theorem Bi(ns:List Int):∀f∈Q2 ns,0≤f.rep∧f.rep≤2∧0≤f.kind∧f.kind≤4:=by
 obtain⟨m,hm,h⟩:=D0 ns
 simp only[Q2]
 generalize(ZL ns 12 0 fs0 [0]).1=fs at *
 generalize(ZL ns 12 0 fs0 [0]).2=op at *
 unfold XV
 split
 ·intro f hf
  rcases List.mem_append.1 hf with hf|hf
  ·exact Bt h.rep hf
  ·simp only[List.mem_singleton]at hf;subst hf;decide
 ·exact h.rep
theorem HA(ns:List Int)(j:Nat):((Q2 ns).getD j default).kids≤13:=by
 obtain⟨m,hm,h⟩:=D0 ns
 simp only[Q2]
 generalize(ZL ns 12 0 fs0 [0]).1=fs at *
 generalize(ZL ns 12 0 fs0 [0]).2=op at *
 unfold XV
 split
 ·by_cases hj:j<fs.length
  ·rw[Z8 (by rw[Qa];exact hj)]
   have:=Km (a:=(ZK op).toNat) h.kids j
   omega
  ·by_cases hj':j=fs.length
   ·subst hj'
    rw[←Qa fs (ZK op).toNat,Zs]
    decide
   ·rw[List.getD_eq_getElem?_getD,List.getElem?_eq_none (by simp[Qa];omega)]
    decide
 ·have:=h.kids j;omega
theorem Nam.len1{fs:List Fd}(h:Nam fs)(j:Nat):(fs.getD j default).name.length≤1:=by
 by_cases hj:j<fs.length
 ·by_cases h0:j=0
  ·subst h0;rw[h.root];decide
  ·rcases h.at' j (by omega) hj with⟨e,_⟩|⟨e,_⟩<;>rw[e]<;>simp[nmM]
 ·rw[List.getD_eq_getElem?_getD,List.getElem?_eq_none (by omega)]
  decide
theorem D2(ns:List Int):FsOk (Q2 ns):=by
 have h:=XD ns
 exact⟨by have:=h.le;omega,fun i=>by have:=HA ns i;omega,fun i=>by have:=h.len1 i;omega⟩
theorem NH:∀i,i<12→ ∀k,k<12→nmM i=nmM k→i=k:=by decide
theorem OJ:∀i,i<12→nmM i≠[122]:=by decide
theorem Nam.inj{fs:List Fd}(h:Nam fs){i k:Nat}(h1:1≤i)(h2:i<fs.length)(h3:1≤k)(h4:k<fs.length)(e:(fs.getD i default).name=(fs.getD k default).name):i=k:=by
 rcases h.at' i h1 h2 with⟨a,a'⟩|⟨a,a'⟩<;>rcases h.at' k h3 h4 with⟨b,b'⟩|⟨b,b'⟩
 ·rw[a,b]at e
  have:=NH _ (by omega) _ (by omega) e
  omega
 ·rw[a,b]at e;exact absurd e (OJ _ (by omega))
 ·rw[a,b]at e;exact absurd e.symm (OJ _ (by omega))
 ·omega
theorem Nam.one{fs:List Fd}(h:Nam fs){i:Nat}(h1:1≤i)(h2:i<fs.length):∃b,(fs.getD i default).name=[b]:=by
 rcases h.at' i h1 h2 with⟨a,_⟩|⟨a,_⟩
 ·exact⟨_,a⟩
 ·exact⟨_,a⟩
theorem Ei(fs:List Fd)(ps:List Int):∀(n:Nat) (k:Int) (out:List UInt8),∃p,upK fs ps n k out=p++out
 |0,k,out=>⟨[],rfl⟩
 |n+1,k,out=>by
  rw[upK]
  split
  ·obtain⟨p,hp⟩:=Ei fs ps n (ps.getD k.toNat 0) ((fs.getD k.toNat default).name++[46]++out)
   exact⟨p++(fs.getD k.toNat default).name++[46],by rw[hp];simp⟩
  ·exact⟨[],rfl⟩
theorem F0{fs:List Fd}{ps:List Int}{i:Nat}(h1:1≤i)(h2:i<fs.length):∃p,QS fs ps i=p++(fs.getD i default).name:=by
 rw[QS,if_neg (by omega)]
 obtain⟨p,hp⟩:=Ei fs ps fs.length (ps.getD (i:Int).toNat 0) (fs.getD (i:Int).toNat default).name
 exact⟨p,hp⟩
theorem Hs{fs:List Fd}{ps:List Int}{i:Int}(h:i≤0∨fs.length≤i):QS fs ps i=[]:=by
 rw[QS,if_pos h]
theorem JA{fs:List Fd}{ps:List Int}(h:Nam fs){i k:Nat}(h1:1≤i)(h2:i<fs.length)(h3:k<i):QS fs ps i≠QS fs ps k:=by
 obtain⟨p,hp⟩:=F0 (ps:=ps) h1 h2
 obtain⟨b,hb⟩:=h.one h1 h2
 rw[hp,hb]
 by_cases hk:k=0
 ·subst hk;rw[Hs (.inl (by simp))];simp
 ·obtain⟨q,hq⟩:=F0 (ps:=ps) (fs:=fs) (i:=k) (by omega) (by omega)
  obtain⟨c,hc⟩:=h.one (i:=k) (by omega) (by omega)
  rw[hq,hc]
  intro e
  have:=List.append_inj_right' e rfl
  rw[←hb,←hc]at this
  have:=h.inj h1 h2 (by omega) (by omega) this
  omega
def lf0:Lf:=⟨0,0,0,0⟩
def YR(L:List Lf)(p:Int):Lf:=if 0≤p then L.getD p.toNat default else lf0
def mkL(fs:List Fd)(ps:List Int)(L:List Lf)(i:Nat):Lf:=
 let f:=fs.getD i default
 let b:=YR L (ps.getD i 0)
 ⟨i,if f.rep=2 then b.r+1 else b.r,if f.rep≠0 then b.d+1 else b.d,f.kind⟩
def Qg(fs:List Fd)(ps:List Int):Nat→List Lf
 |0=>[]
 |i+1=>Qg fs ps i++[mkL fs ps (Qg fs ps i) i]
def D7(l:Lf):Bool:=decide (l.kind≠0)
def QL(fs:List Fd)(ps:List Int)(i:Nat):List Lf:=(Qg fs ps i).filter D7
def Q3(fs:List Fd):List Lf:=QL fs (Q0 fs) fs.length
theorem Z2(fs:List Fd)(ps:List Int):∀i,(Qg fs ps i).length=i
 |0=>rfl
 |i+1=>by simp[Qg,Z2 fs ps i]
theorem YB(fs:List Fd)(ps:List Int){j:Nat}:∀{i:Nat},j<i→(Qg fs ps i).getD j default=mkL fs ps (Qg fs ps j) j
 |0,h=>by omega
 |i+1,h=>by
  by_cases hj:j<i
  ·rw[Qg,Z8 (by rw[Z2];exact hj)];exact YB fs ps hj
  ·obtain rfl:j=i:=by omega
   have:=Zs (l:=Qg fs ps j) (x:=mkL fs ps (Qg fs ps j) j) (d:=default)
   rw[Z2]at this
   exact this
theorem UO(fs:List Fd)(ps:List Int){j i k:Nat}(h1:j<i)(h2:j<k):(Qg fs ps i).getD j default=(Qg fs ps k).getD j default:=by rw[YB fs ps h1,YB fs ps h2]
theorem Q9(fs:List Fd)(ps:List Int)(i:Nat):QL fs ps (i+1)=if(fs.getD i default).kind≠0 then QL fs ps i++[mkL fs ps (Qg fs ps i) i]else QL fs ps i:=by
 unfold QL
 rw[Qg,List.filter_append]
 by_cases h:(fs.getD i default).kind≠0
 ·have hl:D7 (mkL fs ps (Qg fs ps i) i)=true:=decide_eq_true h
  rw[if_pos h,List.filter_cons,if_pos hl];rfl
 ·have hl:D7 (mkL fs ps (Qg fs ps i) i)=false:=decide_eq_false h
  rw[if_neg h,List.filter_cons,if_neg (by rw[hl];decide)];simp
theorem Zb(fs:List Fd)(ps:List Int)(i:Nat):(QL fs ps i).length≤i:=by
 have:=List.length_filter_le D7 (Qg fs ps i)
 rw[Z2]at this
 exact this
def Hh(ps:List Int)(n:Nat):Prop:=∀j,j<n→ -1≤ps.getD j 0∧ps.getD j 0<j
theorem Uo(fs:List Fd):Hh (Q0 fs) fs.length:=fun j h=>V8 fs j h
theorem WS{fs:List Fd}{ps:List Int}{n:Nat}(ha:Hh ps n):∀i,i≤n→ ∀j,j<i→0≤((Qg fs ps i).getD j default).r∧((Qg fs ps i).getD j default).r≤((Qg fs ps i).getD j default).d∧((Qg fs ps i).getD j default).d≤j+1
 |0,_,j,h=>by omega
 |i+1,hi,j,h=>by
  by_cases hj:j<i
  ·rw[UO fs ps h hj];exact WS ha i (by omega) j hj
  ·obtain rfl:j=i:=by omega
   rw[YB fs ps h]
   have hp:=ha j (by omega)
   have hb:0≤(YR (Qg fs ps j) (ps.getD j 0)).r∧(YR (Qg fs ps j) (ps.getD j 0)).r≤(YR (Qg fs ps j) (ps.getD j 0)).d∧(YR (Qg fs ps j) (ps.getD j 0)).d≤j:=by
    unfold YR
    split
    ·have:=WS (fs:=fs) ha j (by omega) (ps.getD j 0).toNat (by omega)
     omega
    ·simp[lf0]
   simp only[mkL]
   split<;>split<;>omega
def upR(fs:List Fd)(ps:List Int)(n:Nat)(k:Int):Int:=if 0≤k then((Qg fs ps n).getD k.toNat default).r else 0
def upD(fs:List Fd)(ps:List Int)(n:Nat)(k:Int):Int:=if 0≤k then((Qg fs ps n).getD k.toNat default).d else 0
theorem DR{fs:List Fd}{ps:List Int}{n k:Nat}(ha:Hh ps n)(hk:k<n):upR fs ps n k=upR fs ps n (ps.getD k 0)+(if(fs.getD k default).rep=2 then 1 else 0):=by
 have hp:=ha k hk
 unfold upR
 rw[if_pos (by omega),Int.toNat_natCast,YB fs ps hk]
 simp only[mkL,YR]
 by_cases h:0≤ps.getD k 0
 ·rw[if_pos h,if_pos h,UO fs ps (i:=k) (k:=n) (by omega) (by omega)]
  split<;>omega
 ·rw[if_neg h,if_neg h]
  simp only[lf0];split<;>rfl
theorem DS{fs:List Fd}{ps:List Int}{n k:Nat}(ha:Hh ps n)(hk:k<n):upD fs ps n k=upD fs ps n (ps.getD k 0)+(if(fs.getD k default).rep≠0 then 1 else 0):=by
 have hp:=ha k hk
 unfold upD
 rw[if_pos (by omega),Int.toNat_natCast,YB fs ps hk]
 simp only[mkL,YR]
 by_cases h:0≤ps.getD k 0
 ·rw[if_pos h,if_pos h,UO fs ps (i:=k) (k:=n) (by omega) (by omega)]
  split<;>omega
 ·rw[if_neg h,if_neg h]
  simp only[lf0];split<;>rfl
theorem Bl{fs:List Fd}{ps:List Int}{i:Nat}:∀{n:Nat},i<n→(fs.getD i default).kind≠0→(QL fs ps n).getD (QL fs ps i).length default=mkL fs ps (Qg fs ps i) i∧(QL fs ps i).length<(QL fs ps n).length
 |0,h,_=>by omega
 |n+1,h,hk=>by
  by_cases hi:i<n
  ·obtain⟨h1,h2⟩:=Bl (ps:=ps) hi hk
   rw[Q9]
   split
   ·refine⟨?_,by simp;omega⟩
    rw[Z8 h2];exact h1
   ·exact⟨h1,h2⟩
  ·obtain rfl:i=n:=by omega
   rw[Q9,if_pos hk]
   exact⟨Zs,by simp⟩
structure LastI(fs:List Fd)(op:List Int):Prop where
 pos:0<fs.length
 last:(fs.getD (fs.length-1) default).kind=0→ZK op=((fs.length-1:Nat):Int)∧(fs.getD (fs.length-1) default).kids=0
theorem CB{fs:List Fd}{op:List Int}(h:LastI fs op)(i:Nat)(x:Int):LastI (ZW fs op i x).1 (ZW fs op i x).2:=by
 have hp:=h.pos
 refine⟨by simp[ZW],fun hk=>?_⟩
 simp only[ZW]at hk ⊢
 have hl:∀a y,(ZS fs a++[y]).length-1=(ZS fs a).length:=fun a y=>by simp
 rw[hl]at hk ⊢
 rw[Zs]at hk
 rw[Zs,if_pos hk]
 exact⟨by simp[ZK,Qa],rfl⟩
theorem F9{ns:List Int}:∀(n i:Nat) (fs:List Fd) (op:List Int),LastI fs op→LastI (ZL ns n i fs op).1 (ZL ns n i fs op).2
 |0,i,fs,op,h=>h
 |n+1,i,fs,op,h=>by
  rw[ZL]
  split
  ·exact F9 n (i+1) _ _ (CB h _ _)
  ·exact h
theorem Hz(ns:List Int):((Q2 ns).getD ((Q2 ns).length-1) default).kind≠0:=by
 have h:LastI (ZL ns 12 0 fs0 [0]).1 (ZL ns 12 0 fs0 [0]).2:=F9 12 0 _ _ ⟨by decide,fun _=>⟨rfl,rfl⟩⟩
 simp only[Q2]
 generalize(ZL ns 12 0 fs0 [0]).1=fs at *
 generalize(ZL ns 12 0 fs0 [0]).2=op at *
 unfold XV
 split
 ·rw[show(ZS fs (ZK op).toNat++[(⟨[122],0,4,0⟩:Fd)]).length-1=(ZS fs (ZK op).toNat).length by simp,Zs]
  decide
 ·rename_i h0
  intro hk
  obtain⟨h1,h2⟩:=h.last hk
  rw[h1,Int.toNat_natCast]at h0
  exact h0 h2
theorem JD(ns:List Int):0<(Q3 (Q2 ns)).length:=by
 have hn:=(XD ns).pos
 have:=(Bl (ps:=Q0 (Q2 ns)) (n:=(Q2 ns).length) (by omega) (Hz ns)).2
 unfold Q3
 omega
inductive Tr where
 |mk (kids:List (List Tr)) (n:Int) (s:List UInt8)
instance:Inhabited Tr:=⟨.mk [] 0 []⟩
mutual
def encT:Tr→List AVal
 | .mk ks n s=>[.int .i64 n,.str s,.vs 1 (Lx ks)]
def Lx:List (List Tr)→List (List AVal)
 |[]=>[]
 |l::ks=>[.vs 3 (BH l)]::Lx ks
def BH:List Tr→List (List AVal)
 |[]=>[]
 |t::l=>encT t::BH l
end
theorem Fm:∀l:List Tr,BH l=l.map encT
 |[]=>by rw[BH];rfl
 |t::l=>by rw[BH,Fm l];rfl
theorem BI:∀l:List (List Tr),Lx l=l.map fun x=>[.vs 3 (x.map encT)]
 |[]=>by rw[Lx];rfl
 |t::l=>by rw[Lx,BI l,Fm];rfl
theorem QO(ks:List (List Tr))(n:Int)(s:List UInt8):encT (.mk ks n s)=[.int .i64 n,.str s,.vs 1 (ks.map fun x=>[.vs 3 (x.map encT)])]:=by rw[encT,BI]
def Zn(ns:List Int)(a:Nat):Int×Nat:=if a<ns.length then(ns.getD a 0,a+1)else(0,a)
def Rz:List UInt8:=[97,98,99,97,98,99,97,98,99,97,98,99]
def JE(k x:Int):Tr:=if k=1 then .mk [] (wi x 2) []else if k=2 then .mk [] (wi x 300-100) []else if k=3 then .mk [] x []else .mk [] 0 (Rz.take (wi x 9).toNat)
def Jn(ns:List Int)(f:Fd)(a:Nat):Nat×Nat:=if f.rep=1 then((wi (Zn ns a).1 2).toNat,(Zn ns a).2)else if f.rep=2 then((wi (Zn ns a).1 4).toNat,(Zn ns a).2)else(1,a)
def XT(val:Nat→Tr×Nat):Nat→Nat→List Tr→List Tr×Nat
 |0,a,l=>(l,a)
 |k+1,a,l=>XT val k (val a).2 (l++[(val a).1])
def YC(fs:List Fd)(ps ns:List Int)(i:Nat)(val:Nat→Nat→Tr×Nat):Nat→Nat→Nat→List (List Tr)→List (List Tr)×Nat
 |0,_,a,ks=>(ks,a)
 |c+1,j,a,ks=>if ps.getD j 0=i then
   let k:=Jn ns (fs.getD j default) a
   let l:=XT (val j) k.1 k.2 []
   YC fs ps ns i val c (j+1) l.2 (ks++[l.1])
  else YC fs ps ns i val c (j+1) a ks
def ZV(fs:List Fd)(ps ns:List Int):Nat→Nat→Nat→Tr×Nat
 |0,_,a=>(default,a)
 |f+1,i,a=>
  if(fs.getD i default).kind≠0 then(JE (fs.getD i default).kind (Zn ns a).1,(Zn ns a).2)
  else
   let q:=YC fs ps ns i (ZV fs ps ns f) (fs.length-(i+1)) (i+1) (Zn ns a).2 []
   (.mk q.1 0 [],q.2)
theorem U6(ns:List Int){a:Nat}(h:a≤ns.length):(Zn ns a).2≤ns.length:=by
 unfold Zn
 split
 ·exact ‹_›
 ·exact h
theorem O3(ns:List Int)(f:Fd){a:Nat}(h:a≤ns.length):(Jn ns f a).2≤ns.length:=by
 unfold Jn
 split
 ·exact U6 ns h
 ·split
  ·exact U6 ns h
  ·exact h
theorem Ey{m:Nat}{val:Nat→Tr×Nat}(hv:∀a,a≤m→(val a).2≤m):∀(k a:Nat) (l:List Tr),a≤m→(XT val k a l).2≤m
 |0,a,l,h=>h
 |k+1,a,l,h=>Ey hv k _ _ (hv a h)
theorem GT(fs:List Fd)(ps ns:List Int)(i:Nat){val:Nat→Nat→Tr×Nat}(hv:∀j a,a≤ns.length→(val j a).2≤ns.length):∀(c j a:Nat) (ks:List (List Tr)),a≤ns.length→(YC fs ps ns i val c j a ks).2≤ns.length
 |0,_,a,ks,h=>h
 |c+1,j,a,ks,h=>by
  rw[YC]
  split
  ·exact GT fs ps ns i hv c _ _ _ (Ey (hv j) _ _ _ (O3 ns _ h))
  ·exact GT fs ps ns i hv c _ _ _ h
theorem WZ(fs:List Fd)(ps ns:List Int):∀(f i a:Nat),a≤ns.length→(ZV fs ps ns f i a).2≤ns.length
 |0,_,a,h=>h
 |f+1,i,a,h=>by
  rw[ZV]
  split
  ·exact U6 ns h
  ·exact GT fs ps ns i (fun j a=>WZ fs ps ns f j a) _ _ _ _ (U6 ns h)
def Qc(fs:List Fd)(ns:List Int):Tr:=(ZV fs (Q0 fs) ns fs.length 0 0).1
end Go.Proofs.YtekipcaifckffaaGreat
