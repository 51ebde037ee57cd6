/-
  A striping's box:its fields' leaves and how far they are repeated,an empty column a leaf. At a function's end:what lies in its own blocks is written no more. What is wrong with a shape. Plain. The document's 'Check'. Plain. The program's 'Check' and the document's answer the same. Plain. Shapes as text:words,and what they say. Plain. A shape's text. Plain. What 'Make' makes:trees,laid out. Plain. What 'Make' makes is printed. Plain.
-/
import Derived.Test.YtcpikannlnmafaaL11
import Derived.Test.YtcpikannlnmafaaL2
import Derived.Test.YtcpikannlnmafaaL1
set_option linter.unusedVariables false
set_option linter.unusedSimpArgs false
namespace Go.Proofs.Ytcpikannlnmafaa
open Go Go.Av
section
set_option maxRecDepth 100000
set_option maxHeartbeats 4000000
def lfA(fs:List Fd)(a:Nat):Int:=if(fs.getD a default).kind=0 then -1 else(loL fs (Q0 fs) a:Nat)
def rrA(fs:List Fd)(a:Nat):Int:=upR fs (Q0 fs) (Q0 fs).length a
def lfP(fs:List Fd)(i:Nat):List Int:=(List.range i).map (lfA fs)
def rrP(fs:List Fd)(i:Nat):List Int:=(List.range i).map (rrA fs)
def cP(fs:List Fd)(i:Nat):List Unit:=List.replicate (loL fs (Q0 fs) i) ()
def mkW(fs:List Fd):Wk:=⟨fs,Q0 fs,lfP fs fs.length,rrP fs fs.length,Qf fs⟩
def EH(_:Unit):List AVal:=[.nils,.nils,.nils]
def bgH(fs:List Fd)(lf rr:List Int)(C:List Unit):Heap:=[(0,some (.cells [[vF fs,vI (Q0 fs),Z8 4 1 lf,Z8 6 1 rr,Z8 2 3 C]] false)),(2,Zi EH C),(4,Zi encI lf),(6,Zi encI rr)]
def bgS(fs:List Fd)(lf rr:List Int)(C:List Unit)(n i:Nat):St:=⟨[(0,vF fs),(3,.ptr 0 0 0),(4,.int .i64 n),(5,.int .i64 i)],bgH fs lf rr C,10⟩
def bgI(fs:List Fd)(lf rr:List Int)(C:List Unit)(n i:Nat)(r k:Int):St:=⟨[(0,vF fs),(3,.ptr 0 0 0),(4,.int .i64 n),(5,.int .i64 i),(6,.int .i64 r),(7,.int .i64 k)],bgH fs lf rr C,10⟩
theorem PZ(fs:List Fd)(i:Nat):lfP fs (i+1)=lfP fs i++[lfA fs i]:=by unfold lfP;rw[List.range_succ,List.map_append];rfl
theorem PR(fs:List Fd)(i:Nat):rrP fs (i+1)=rrP fs i++[rrA fs i]:=by unfold rrP;rw[List.range_succ,List.map_append];rfl
theorem Rj{fs:List Fd}{i:Nat}(h:(fs.getD i default).kind=0):cP fs (i+1)=cP fs i:=by unfold cP;rw[Zv,if_neg (fun k=>k h)];rfl
theorem Ri{fs:List Fd}{i:Nat}(h:(fs.getD i default).kind≠0):cP fs (i+1)=cP fs i++[()]:=by unfold cP;rw[Zv,if_pos h,List.replicate_succ']
abbrev cBg:CallT:=Qv 20 (Yh S_par) Qz
theorem PF[Syms]:cBg.ok Try.prog:=Qp DF Qy
structure BgOk(fs:List Fd):Prop where
 ok:FsOk fs
 h0:0<List.length fs
 len:List.length fs≤14
 leaf:0<Qf fs
theorem DU{α:Type}{enc:α→List AVal}(l:List α){x:α}{r:List AVal}(h:enc x=r):List.take l.length (List.drop 0 (l.map enc))++[r]=(l++[x]).map enc:=by
 rw[List.drop_zero,List.take_of_length_le (by simp),List.map_append,←h];rfl
theorem QT(a:Int):∀x∈encI a,x.flat=true:=fun x hx=>by simp[encI]at hx;subst hx;rfl
theorem W5(a:Unit):∀x∈EH a,x.flat=true:=fun x hx=>by simp[EH]at hx;subst hx;rfl
theorem Vo{fs:List Fd}(h:BgOk fs){k:Int}(hk:k<fs.length):0≤upR fs (Q0 fs) (Q0 fs).length k∧upR fs (Q0 fs) (Q0 fs).length k≤14:=by
 have hl:=h.len
 unfold upR
 by_cases h0:0≤k
 ·rw[if_pos h0]
  have:=YJ (fs:=fs) (QF fs) fs.length (Nat.le_refl _) k.toNat (by omega)
  rw[←Qj fs]at this
  omega
 ·rw[if_neg h0];omega
theorem OM{n:Nat}{l:List Int}(h:0<l.length):FzV n (l.map encI) (Z8 n 1 l) (.vs 1 (l.map encI)):=by
 have:=FzV.sl (n:=n) (rows:=l.map encI) 0 l.length 1 none h (by rw[List.length_map];omega)
 rw[List.drop_zero,List.take_of_length_le (by rw[List.length_map];exact Nat.le_refl _)]at this
 rw[Vd n 1 h]
 exact this
theorem EU{α:Type}(enc:α→List AVal){l:List α}(h:0<l.length):Zi enc l=some (.cells (l.map enc) false):=by
 cases l with
 |nil=>exact absurd h (Nat.lt_irrefl 0)
 |cons a t=>rfl
theorem PH[Syms]{N nx:Nat}{e:Env}(fs:List Fd)(hb:BgOk fs)(he:e.get 2= .ptr 0 0 0):Reb 0 N ⟨e,bgH fs (lfP fs fs.length) (rrP fs fs.length) (cP fs fs.length),nx⟩ ⟨[(2,.ptr 0 0 0)],wkH 4 (mkW fs) [],50⟩:=by
 have hll:0<(lfP fs fs.length).length:=by unfold lfP;rw[List.length_map,List.length_range];exact hb.h0
 have hrl:0<(rrP fs fs.length).length:=by unfold rrP;rw[List.length_map,List.length_range];exact hb.h0
 have hcl:(cP fs fs.length).length=Qf fs:=by unfold cP;rw[List.length_replicate];rfl
 have hc0:0<(cP fs fs.length).length:=by rw[hcl];exact hb.leaf
 have hl14:Qf fs≤14:=Nat.le_trans (Zw fs (Q0 fs) fs.length) hb.len
 have hW:(mkW fs).L=Qf fs:=rfl
 refine Reb.trans (s':=⟨[(2,.ptr 0 0 0)],[(0,some (.cells [[vF fs,vI (Q0 fs),.vs 1 ((lfP fs fs.length).map encI),Z8 6 1 (rrP fs fs.length),Z8 2 3 (cP fs fs.length)]] false)),(2,some (.cells ((cP fs fs.length).map EH) false)),(6,some (.cells ((rrP fs fs.length).map encI) false))],nx⟩) ?_ ?_
 ·refine Zo (n:=4) (rows:=(lfP fs fs.length).map encI) (EU encI hll) (Qa QT _) ⟨by rw[he];exact .same _,trivial⟩ ⟨⟨by decide,_,rfl,.cells _ _ _ rfl fun k r r' h1 h2=>?_⟩,⟨by decide,_,EU EH hc0,.same _⟩,⟨by decide,_,EU encI hrl,.same _⟩,trivial⟩
  cases k with
  |zero=>cases h1;cases h2;exact⟨.same _,.same _,OM hll,.same _,.same _,trivial⟩
  |succ k=>simp at h1
 refine Reb.trans (s':=⟨[(2,.ptr 0 0 0)],[(0,some (.cells [[vF fs,vI (Q0 fs),.vs 1 ((lfP fs fs.length).map encI),.vs 1 ((rrP fs fs.length).map encI),Z8 2 3 (cP fs fs.length)]] false)),(2,some (.cells ((cP fs fs.length).map EH) false))],nx⟩) ?_ ?_
 ·refine Zo (n:=6) (rows:=(rrP fs fs.length).map encI) rfl (Qa QT _) ⟨.same _,trivial⟩ ⟨⟨by decide,_,rfl,.cells _ _ _ rfl fun k r r' h1 h2=>?_⟩,⟨by decide,_,rfl,.same _⟩,trivial⟩
  cases k with
  |zero=>cases h1;cases h2;exact⟨.same _,.same _,.same _,OM hrl,.same _,trivial⟩
  |succ k=>simp at h1
 refine Reb.trans (s':=⟨[(2,.ptr 0 0 0)],[(0,some (.cells [UV (mkW fs)] false)),(2,some (.cells ((cP fs fs.length).map EH) false))],nx+3⟩) ?_ ?_
 ·refine(Mb (nx':=nx+3) (by omega)).trans (GB id (Nat.zero_le _) (fun n _=>rfl) (fun n m c d _ _ h=>h) ⟨wkp rfl,trivial⟩ (Zh (by show(Nat.blt 0 _&&true)=true;rfl)) ⟨⟨by omega,_,rfl,Zg ⟨.refl _,.refl _,.see _ _ (.tab _ _ _ _ (XY _ _ _).symm),.see _ _ (.tab _ _ _ _ (XY _ _ _).symm),?_,trivial⟩⟩,⟨by omega,_,rfl,Qc (Qa W5 _)⟩,trivial⟩ (fun n c hn=>?_))
  ·rw[Vd 2 3 hc0,hcl]
   exact .refl _
  ·rw[Heap.get_cons]at hn
   cases h0:Nat.beq n 0 with
   |true=>rw[h0]at hn;cases hn;show Blk.under _ (.cells [[vF fs,vI (Q0 fs),vI (lfP fs fs.length),vI (rrP fs fs.length),.slice 2 0 (Qf fs) 3 none]] false)=true;simp[Blk.under,AVal.under];exact⟨rfl,rfl,rfl,rfl,by show Nat.blt 2 (nx+3)=true;rw[Nat.blt_eq];omega⟩
   |false=>
    rw[h0,cond_false,Heap.get_cons]at hn
    cases h1:Nat.beq n 2 with
    |true=>rw[h1]at hn;cases hn;exact Z3 _ (Qa W5 _)
    |false=>rw[h1,cond_false,Heap.get_nil]at hn;cases hn
 refine E7 (fun j=>4+j) (by decide) (by decide) (by rw[hW];omega) rfl rfl (by rw[List.length_map,hcl];rfl) (fun k hk r hr=>?_) (fun j _ c hc=>?_) (fun i j _ _ h=>by omega) (fun j _=>by omega) ⟨wkp (by rfl),trivial⟩ (Zh rfl)
 ·rw[List.getElem?_map]at hr
  obtain⟨u,_,rfl⟩:=Option.map_eq_some_iff.1 hr
  exact ZO _
 ·unfold fB at hc
  split at hc
  ·cases hc
  ·split at hc<;>cases hc
theorem Ox[Syms](fs:List Fd)(hb:BgOk fs):fnT Qz cBg (Zc fns) (Z5 tys) (ZS plt) 100 47 [vF fs] [] 0 (fun v H nx=>v= .ptr 0 0 0∧H=wkH 4 (mkW fs) []∧nx=50):=by
 have hF:=hb.ok
 have hlen:=hb.len
 have h0:=hb.h0
 refine⟨fs,rfl,hF,?_⟩
 repeat' first|refine And.intro ?_ ?_|(intro h;try first|exact dz|replace h:=cv)
 all_goals try exact cz
 refine⟨fun m s=>∃i:Nat,(i≤fs.length∧m=fs.length-i)∧s=bgS fs (lfP fs i) (rrP fs i) (cP fs i) (loL fs (Q0 fs) i) i,⟨_,bgS fs [] [] [] 0 0,?_,0,⟨by omega,rfl⟩,rfl⟩,?_⟩
 ·exact(Mb (nx':=10) (by omega)).trans (Q1 [0,1,2,3,4,5,6,7,8,9] (by exact rfl) ⟨.refl _,.refl _,Q3 (by first|rfl|omega),Q3 (by first|rfl|omega),trivial⟩ ⟨⟨by decide,_,rfl,.refl _⟩,trivial⟩)
 rintro m s ⟨i,⟨hi,rfl⟩,rfl⟩
 by_cases h1:i<fs.length
 ·have hn:loL fs (Q0 fs) i≤14:=Nat.le_trans (Zw fs (Q0 fs) i) (by omega)
  have e1:=PZ fs i
  have e2:=PR fs i
  have e3:(fs.getD i default).kind=0→cP fs (i+1)=cP fs i:=Rj
  have e4:(fs.getD i default).kind≠0→cP fs (i+1)=cP fs i++[()]:=Ri
  have hlo:=Zv fs (Q0 fs) i
  have hll:(lfP fs i).length=i:=by unfold lfP;rw[List.length_map,List.length_range]
  have hrl:(rrP fs i).length=i:=by unfold rrP;rw[List.length_map,List.length_range]
  have hcl:(cP fs i).length≤14:=by unfold cP;rw[List.length_replicate];exact hn
  have hc0:i=0→cP fs i=[]:=fun h=>by subst h;rfl
  generalize cP fs i=C at *
  generalize lfP fs i=lf at *
  generalize rrP fs i=rr at *
  generalize hno:loL fs (Q0 fs) i=n at *
  cases lf with
  |nil=>
   have hi0:i=0:=hll.symm
   obtain rfl:=List.eq_nil_of_length_eq_zero (hrl.trans hi0)
   obtain rfl:=hc0 hi0
   repeat' first|refine And.intro ?_ ?_|(intro h;try first|exact dz|replace h:=cv)
   all_goals try exact cz
   refine⟨fun m s=>∃(r k:Int),(m=(k+1).toNat∧ -1≤k∧k≤i∧0≤r∧r+upR fs (Q0 fs) (Q0 fs).length k=rrA fs i)∧s=bgI fs [] [] [] n i r k,⟨_,bgI fs [] [] [] n i 0 i,?_,0,i,⟨rfl,by omega,by omega,by omega,by rw[rrA];omega⟩,rfl⟩,?_⟩
   ·exact Q1 [0,1,2,3,4,5,6,7,8,9] (by exact rfl) ⟨.refl _,.refl _,.refl _,.refl _,Q3 (by first|rfl|omega),.refl _,trivial⟩ ⟨⟨by decide,_,rfl,.refl _⟩,trivial⟩
   rintro m s ⟨r,k,⟨rfl,hk0,hki,hr0,hru⟩,rfl⟩
   have hub:=Vo hb (k:=i) (by omega)
   have hkb:=Vo hb (k:=k) (by omega)
   change 0≤rrA fs i∧rrA fs i≤14 at hub
   by_cases hk:0≤k
   ·obtain⟨k,rfl⟩:=Int.eq_ofNat_of_zero_le hk
    have hst:=YB (fs:=fs) (ps:=Q0 fs) (n:=(Q0 fs).length) (k:=k) (by rw[Qj];exact QF fs) (by rw[Qj];omega)
    have hpa:=QF fs k (by omega)
    have hpl:=Qj fs
    by_cases h2:(fs.getD k default).rep=2
    ·rw[if_pos h2]at hst
     repeat' first|refine And.intro ?_ ?_|(intro h;try first|exact dz|replace h:=cv)
     all_goals try exact cz
     exact⟨_,bgI fs [] [] [] n i (r+1) ((Q0 fs).getD k 0),(Q1 [0,1,2,3,4,5,6,7,8,9] (by exact rfl) ⟨.refl _,.refl _,.refl _,.refl _,Q3 (by first|rfl|omega),Q3 (by first|rfl|omega),trivial⟩ ⟨⟨by decide,_,rfl,.refl _⟩,trivial⟩),⟨_,_,⟨rfl,by omega,by omega,by omega,by omega⟩,rfl⟩,by omega⟩
    ·rw[if_neg h2]at hst
     repeat' first|refine And.intro ?_ ?_|(intro h;try first|exact dz|replace h:=cv)
     all_goals try exact cz
     exact⟨_,bgI fs [] [] [] n i r ((Q0 fs).getD k 0),(Q1 [0,1,2,3,4,5,6,7,8,9] (by exact rfl) ⟨.refl _,.refl _,.refl _,.refl _,Q3 (by first|rfl|omega),Q3 (by first|rfl|omega),trivial⟩ ⟨⟨by decide,_,rfl,.refl _⟩,trivial⟩),⟨_,_,⟨rfl,by omega,by omega,by omega,by omega⟩,rfl⟩,by omega⟩
   ·obtain rfl:k= -1:=by omega
    have hr:r=rrA fs i:=by
     have:upR fs (Q0 fs) (Q0 fs).length (-1)=0:=rfl
     omega
    subst hr
    by_cases hkd:(fs.getD i default).kind=0
    ·have e3:=e3 hkd
     rw[if_neg (fun h=>h hkd)]at hlo
     have hlo:loL fs (Q0 fs) (i+1)=n:=hlo
     have e6:lfA fs i= -1:=if_pos hkd
     rw[e6]at e1
     repeat' first|refine And.intro ?_ ?_|(intro h;try first|exact dz|replace h:=cv)
     all_goals try exact cz
     refine⟨_,bgS fs ([]++[-1]) ([]++[rrA fs i]) [] n (i+1),?_,⟨i+1,⟨by omega,rfl⟩,by rw[e1,e2,e3,hlo]⟩,by omega⟩
     exact Q1 [0,1,2,3,14,5,11,7,8,9] (by exact rfl) ⟨.refl _,.refl _,Q3 (by first|rfl|omega),Q3 (by first|rfl|omega),trivial⟩ ⟨⟨by decide,_,rfl,Zg (row:=[vF fs,vI (Q0 fs),_,_,_]) ⟨.refl _,.refl _,Q4 (by simp),Q4 (by simp),.refl _,trivial⟩⟩,⟨by decide,_,rfl,Q2 (by exact rfl) (Qa QT _)⟩,⟨by decide,_,rfl,Q2 (by exact rfl) (Qa QT _)⟩,trivial⟩
    ·have e4:=e4 hkd
     rw[if_pos hkd]at hlo
     have e6:lfA fs i=(n:Int):=by unfold lfA;rw[if_neg hkd,hno]
     rw[e6]at e1
     repeat' first|refine And.intro ?_ ?_|(intro h;try first|exact dz|replace h:=cv)
     all_goals try exact cz
     refine⟨_,bgS fs ([]++[(n:Int)]) ([]++[rrA fs i]) ([]++[()]) (n+1) (i+1),?_,⟨i+1,⟨by omega,rfl⟩,by rw[e1,e2,e4,hlo]⟩,by omega⟩
     exact Q1 [0,1,17,3,14,5,11,7,8,9] (by exact rfl) ⟨.refl _,.refl _,Q3 (by first|rfl|omega),Q3 (by first|rfl|omega),trivial⟩ ⟨⟨by decide,_,rfl,Zg (row:=[vF fs,vI (Q0 fs),_,_,_]) ⟨.refl _,.refl _,Q4 (by simp),Q4 (by simp),Q4 (by simp),trivial⟩⟩,⟨by decide,_,rfl,Q2 (by exact rfl) (Qa W5 _)⟩,⟨by decide,_,rfl,Q2 (by exact rfl) (Qa QT _)⟩,⟨by decide,_,rfl,Q2 (by exact rfl) (Qa QT _)⟩,trivial⟩
  |cons l0 lt=>
   cases rr with
   |nil=>rw[List.length_cons]at hll;rw[List.length_nil]at hrl;omega
   |cons r0 rt=>
    cases C with
    |nil=>
     repeat' first|refine And.intro ?_ ?_|(intro h;try first|exact dz|replace h:=cv)
     all_goals try exact cz
     refine⟨fun m s=>∃(r k:Int),(m=(k+1).toNat∧ -1≤k∧k≤i∧0≤r∧r+upR fs (Q0 fs) (Q0 fs).length k=rrA fs i)∧s=bgI fs (l0::lt) (r0::rt) [] n i r k,⟨_,bgI fs (l0::lt) (r0::rt) [] n i 0 i,?_,0,i,⟨rfl,by omega,by omega,by omega,by rw[rrA];omega⟩,rfl⟩,?_⟩
     ·exact Q1 [0,1,2,3,4,5,6,7,8,9] (by exact rfl) ⟨.refl _,.refl _,.refl _,.refl _,Q3 (by first|rfl|omega),.refl _,trivial⟩ ⟨⟨by decide,_,rfl,.refl _⟩,⟨by decide,_,rfl,Qc (Qa QT _)⟩,⟨by decide,_,rfl,Qc (Qa QT _)⟩,trivial⟩
     rintro m s ⟨r,k,⟨rfl,hk0,hki,hr0,hru⟩,rfl⟩
     have hub:=Vo hb (k:=i) (by omega)
     have hkb:=Vo hb (k:=k) (by omega)
     change 0≤rrA fs i∧rrA fs i≤14 at hub
     by_cases hk:0≤k
     ·obtain⟨k,rfl⟩:=Int.eq_ofNat_of_zero_le hk
      have hst:=YB (fs:=fs) (ps:=Q0 fs) (n:=(Q0 fs).length) (k:=k) (by rw[Qj];exact QF fs) (by rw[Qj];omega)
      have hpa:=QF fs k (by omega)
      have hpl:=Qj fs
      by_cases h2:(fs.getD k default).rep=2
      ·rw[if_pos h2]at hst
       repeat' first|refine And.intro ?_ ?_|(intro h;try first|exact dz|replace h:=cv)
       all_goals try exact cz
       exact⟨_,bgI fs (l0::lt) (r0::rt) [] n i (r+1) ((Q0 fs).getD k 0),(Q1 [0,1,2,3,4,5,6,7,8,9] (by exact rfl) ⟨.refl _,.refl _,.refl _,.refl _,Q3 (by first|rfl|omega),Q3 (by first|rfl|omega),trivial⟩ ⟨⟨by decide,_,rfl,.refl _⟩,⟨by decide,_,rfl,Qc (Qa QT _)⟩,⟨by decide,_,rfl,Qc (Qa QT _)⟩,trivial⟩),⟨_,_,⟨rfl,by omega,by omega,by omega,by omega⟩,rfl⟩,by omega⟩
      ·rw[if_neg h2]at hst
       repeat' first|refine And.intro ?_ ?_|(intro h;try first|exact dz|replace h:=cv)
       all_goals try exact cz
       exact⟨_,bgI fs (l0::lt) (r0::rt) [] n i r ((Q0 fs).getD k 0),(Q1 [0,1,2,3,4,5,6,7,8,9] (by exact rfl) ⟨.refl _,.refl _,.refl _,.refl _,Q3 (by first|rfl|omega),Q3 (by first|rfl|omega),trivial⟩ ⟨⟨by decide,_,rfl,.refl _⟩,⟨by decide,_,rfl,Qc (Qa QT _)⟩,⟨by decide,_,rfl,Qc (Qa QT _)⟩,trivial⟩),⟨_,_,⟨rfl,by omega,by omega,by omega,by omega⟩,rfl⟩,by omega⟩
     ·obtain rfl:k= -1:=by omega
      have hr:r=rrA fs i:=by
       have:upR fs (Q0 fs) (Q0 fs).length (-1)=0:=rfl
       omega
      subst hr
      by_cases hkd:(fs.getD i default).kind=0
      ·have e3:=e3 hkd
       rw[if_neg (fun h=>h hkd)]at hlo
       have hlo:loL fs (Q0 fs) (i+1)=n:=hlo
       have e6:lfA fs i= -1:=if_pos hkd
       rw[e6]at e1
       repeat' first|refine And.intro ?_ ?_|(intro h;try first|exact dz|replace h:=cv)
       all_goals try exact cz
       refine⟨_,bgS fs ((l0::lt)++[-1]) ((r0::rt)++[rrA fs i]) [] n (i+1),?_,⟨i+1,⟨by omega,rfl⟩,by rw[e1,e2,e3,hlo]⟩,by omega⟩
       exact Q1 [0,1,2,3,14,5,11,7,8,9] (by exact rfl) ⟨.refl _,.refl _,Q3 (by first|rfl|omega),Q3 (by first|rfl|omega),trivial⟩ ⟨⟨by decide,_,rfl,Zg (row:=[vF fs,vI (Q0 fs),_,_,_]) ⟨.refl _,.refl _,Q4 (by simp),Q4 (by simp),.refl _,trivial⟩⟩,⟨by decide,_,rfl,Q2 (by exact DU (l0::lt) rfl) (Qa QT _)⟩,⟨by decide,_,rfl,Q2 (by exact DU (r0::rt) rfl) (Qa QT _)⟩,trivial⟩
      ·have e4:=e4 hkd
       rw[if_pos hkd]at hlo
       have e6:lfA fs i=(n:Int):=by unfold lfA;rw[if_neg hkd,hno]
       rw[e6]at e1
       repeat' first|refine And.intro ?_ ?_|(intro h;try first|exact dz|replace h:=cv)
       all_goals try exact cz
       refine⟨_,bgS fs ((l0::lt)++[(n:Int)]) ((r0::rt)++[rrA fs i]) ([]++[()]) (n+1) (i+1),?_,⟨i+1,⟨by omega,rfl⟩,by rw[e1,e2,e4,hlo]⟩,by omega⟩
       exact Q1 [0,1,17,3,14,5,11,7,8,9] (by exact rfl) ⟨.refl _,.refl _,Q3 (by first|rfl|omega),Q3 (by first|rfl|omega),trivial⟩ ⟨⟨by decide,_,rfl,Zg (row:=[vF fs,vI (Q0 fs),_,_,_]) ⟨.refl _,.refl _,Q4 (by simp),Q4 (by simp),Q4 (by simp),trivial⟩⟩,⟨by decide,_,rfl,Q2 (by exact rfl) (Qa W5 _)⟩,⟨by decide,_,rfl,Q2 (by exact DU (l0::lt) rfl) (Qa QT _)⟩,⟨by decide,_,rfl,Q2 (by exact DU (r0::rt) rfl) (Qa QT _)⟩,trivial⟩
    |cons c0 ct=>
     repeat' first|refine And.intro ?_ ?_|(intro h;try first|exact dz|replace h:=cv)
     all_goals try exact cz
     refine⟨fun m s=>∃(r k:Int),(m=(k+1).toNat∧ -1≤k∧k≤i∧0≤r∧r+upR fs (Q0 fs) (Q0 fs).length k=rrA fs i)∧s=bgI fs (l0::lt) (r0::rt) (c0::ct) n i r k,⟨_,bgI fs (l0::lt) (r0::rt) (c0::ct) n i 0 i,?_,0,i,⟨rfl,by omega,by omega,by omega,by rw[rrA];omega⟩,rfl⟩,?_⟩
     ·exact Q1 [0,1,2,3,4,5,6,7,8,9] (by exact rfl) ⟨.refl _,.refl _,.refl _,.refl _,Q3 (by first|rfl|omega),.refl _,trivial⟩ ⟨⟨by decide,_,rfl,.refl _⟩,⟨by decide,_,rfl,Qc (Qa W5 _)⟩,⟨by decide,_,rfl,Qc (Qa QT _)⟩,⟨by decide,_,rfl,Qc (Qa QT _)⟩,trivial⟩
     rintro m s ⟨r,k,⟨rfl,hk0,hki,hr0,hru⟩,rfl⟩
     have hub:=Vo hb (k:=i) (by omega)
     have hkb:=Vo hb (k:=k) (by omega)
     change 0≤rrA fs i∧rrA fs i≤14 at hub
     by_cases hk:0≤k
     ·obtain⟨k,rfl⟩:=Int.eq_ofNat_of_zero_le hk
      have hst:=YB (fs:=fs) (ps:=Q0 fs) (n:=(Q0 fs).length) (k:=k) (by rw[Qj];exact QF fs) (by rw[Qj];omega)
      have hpa:=QF fs k (by omega)
      have hpl:=Qj fs
      by_cases h2:(fs.getD k default).rep=2
      ·rw[if_pos h2]at hst
       repeat' first|refine And.intro ?_ ?_|(intro h;try first|exact dz|replace h:=cv)
       all_goals try exact cz
       exact⟨_,bgI fs (l0::lt) (r0::rt) (c0::ct) n i (r+1) ((Q0 fs).getD k 0),(Q1 [0,1,2,3,4,5,6,7,8,9] (by exact rfl) ⟨.refl _,.refl _,.refl _,.refl _,Q3 (by first|rfl|omega),Q3 (by first|rfl|omega),trivial⟩ ⟨⟨by decide,_,rfl,.refl _⟩,⟨by decide,_,rfl,Qc (Qa W5 _)⟩,⟨by decide,_,rfl,Qc (Qa QT _)⟩,⟨by decide,_,rfl,Qc (Qa QT _)⟩,trivial⟩),⟨_,_,⟨rfl,by omega,by omega,by omega,by omega⟩,rfl⟩,by omega⟩
      ·rw[if_neg h2]at hst
       repeat' first|refine And.intro ?_ ?_|(intro h;try first|exact dz|replace h:=cv)
       all_goals try exact cz
       exact⟨_,bgI fs (l0::lt) (r0::rt) (c0::ct) n i r ((Q0 fs).getD k 0),(Q1 [0,1,2,3,4,5,6,7,8,9] (by exact rfl) ⟨.refl _,.refl _,.refl _,.refl _,Q3 (by first|rfl|omega),Q3 (by first|rfl|omega),trivial⟩ ⟨⟨by decide,_,rfl,.refl _⟩,⟨by decide,_,rfl,Qc (Qa W5 _)⟩,⟨by decide,_,rfl,Qc (Qa QT _)⟩,⟨by decide,_,rfl,Qc (Qa QT _)⟩,trivial⟩),⟨_,_,⟨rfl,by omega,by omega,by omega,by omega⟩,rfl⟩,by omega⟩
     ·obtain rfl:k= -1:=by omega
      have hr:r=rrA fs i:=by
       have:upR fs (Q0 fs) (Q0 fs).length (-1)=0:=rfl
       omega
      subst hr
      by_cases hkd:(fs.getD i default).kind=0
      ·have e3:=e3 hkd
       rw[if_neg (fun h=>h hkd)]at hlo
       have hlo:loL fs (Q0 fs) (i+1)=n:=hlo
       have e6:lfA fs i= -1:=if_pos hkd
       rw[e6]at e1
       repeat' first|refine And.intro ?_ ?_|(intro h;try first|exact dz|replace h:=cv)
       all_goals try exact cz
       refine⟨_,bgS fs ((l0::lt)++[-1]) ((r0::rt)++[rrA fs i]) (c0::ct) n (i+1),?_,⟨i+1,⟨by omega,rfl⟩,by rw[e1,e2,e3,hlo]⟩,by omega⟩
       exact Q1 [0,1,2,3,14,5,11,7,8,9] (by exact rfl) ⟨.refl _,.refl _,Q3 (by first|rfl|omega),Q3 (by first|rfl|omega),trivial⟩ ⟨⟨by decide,_,rfl,Zg (row:=[vF fs,vI (Q0 fs),_,_,_]) ⟨.refl _,.refl _,Q4 (by simp),Q4 (by simp),.refl _,trivial⟩⟩,⟨by decide,_,rfl,Qc (Qa W5 _)⟩,⟨by decide,_,rfl,Q2 (by exact DU (l0::lt) rfl) (Qa QT _)⟩,⟨by decide,_,rfl,Q2 (by exact DU (r0::rt) rfl) (Qa QT _)⟩,trivial⟩
      ·have e4:=e4 hkd
       rw[if_pos hkd]at hlo
       have e6:lfA fs i=(n:Int):=by unfold lfA;rw[if_neg hkd,hno]
       rw[e6]at e1
       repeat' first|refine And.intro ?_ ?_|(intro h;try first|exact dz|replace h:=cv)
       all_goals try exact cz
       refine⟨_,bgS fs ((l0::lt)++[(n:Int)]) ((r0::rt)++[rrA fs i]) ((c0::ct)++[()]) (n+1) (i+1),?_,⟨i+1,⟨by omega,rfl⟩,by rw[e1,e2,e4,hlo]⟩,by omega⟩
       exact Q1 [0,1,17,3,14,5,11,7,8,9] (by exact rfl) ⟨.refl _,.refl _,Q3 (by first|rfl|omega),Q3 (by first|rfl|omega),trivial⟩ ⟨⟨by decide,_,rfl,Zg (row:=[vF fs,vI (Q0 fs),_,_,_]) ⟨.refl _,.refl _,Q4 (by simp),Q4 (by simp),Q4 (by simp),trivial⟩⟩,⟨by decide,_,rfl,Q2 (by exact DU (c0::ct) rfl) (Qa W5 _)⟩,⟨by decide,_,rfl,Q2 (by exact DU (l0::lt) rfl) (Qa QT _)⟩,⟨by decide,_,rfl,Q2 (by exact DU (r0::rt) rfl) (Qa QT _)⟩,trivial⟩
 ·obtain rfl:i=fs.length:=by omega
  have hll:(lfP fs fs.length).length=fs.length:=by unfold lfP;rw[List.length_map,List.length_range]
  repeat' first|refine And.intro ?_ ?_|(intro h;try first|exact dz|replace h:=cv)
  all_goals try exact cz
  exact⟨⟨[(2,.ptr 0 0 0)],wkH 4 (mkW fs) [],50⟩,PH fs hb rfl,_,rfl,rfl,rfl,rfl⟩
def Nj:CallT:=fun _ args H nx K=>∃fs,args=[vF fs]∧H=[]∧nx=0∧BgOk fs∧K (.ptr 0 0 0) (wkH 4 (mkW fs) []) 50
theorem BT[Syms]{d:CallT}(hd:d.ok Try.prog):(Qv 47 Nj d).ok Try.prog:=by
 intro f args H nx K h
 unfold Qv at h
 cases hf:Nat.beq f 47 with
 |false=>rw[hf]at h;exact hd f args H nx K h
 |true=>
  rw[hf]at h
  have:=Nat.eq_of_beq_eq_true hf
  subst this
  obtain⟨fs,rfl,rfl,rfl,hb,hk⟩:=h
  have hr:∀n,rho [] 0 n=n:=fun n=>by rw[WS (Nat.zero_le n)];simp
  have hinj:∀n m,rho [] 0 n=rho [] 0 m→n=m:=fun n m h=>by rwa [hr,hr]at h
  have hq:=F1 (S:=fun args H nx Post=>args=[vF fs]∧H=[]∧nx=0∧Post (.ptr 0 0 0) (wkH 4 (mkW fs) []) 50) (f:=47) (P:=Try.prog) (fun args H nx Post ⟨a1,a2,a3,hp⟩=>by
   subst a1;subst a2;subst a3
   obtain⟨q1,q2⟩:=QS QN QO Qn PF Za (Ox fs hb)
   refine⟨q1,fun ι w vs hv hH hb=>(q2 ι w vs hv hH hb).mono ?_⟩
   rintro e w' ⟨v,H',nx',r,κ,⟨rfl,rfl,rfl⟩,h⟩
   exact⟨_,_,_,r,κ,hp,h⟩) (args:=[vF fs]) (H:=[]) (nx:=0)
   (K:=fun v H' nx'=>v= .ptr 0 0 0∧nx'=50∧(wkH 4 (mkW fs) []).sub H')
   ⟨[],[vF fs],[],rfl,⟨.refl _,trivial⟩,trivial,rfl,rfl,rfl,by show AVal.ptr (rho [] 0 0) 0 0=_;rw[hr],by rfl,?_⟩
  ·refine⟨hq.1,fun ι w vs hv hH hb=>(hq.2 ι w vs hv hH hb).mono ?_⟩
   rintro e w' ⟨v,H',nx',r,κ,⟨rfl,rfl,hsub⟩,h2,h3,h4,h5,h6⟩
   exact⟨_,_,_,r,κ,hk,h2,h3,h4.sub hsub,⟨h5.st.sub_right hsub,h5.up,h5.fresh⟩,h6⟩
  ·intro n c hn
   rcases GO hn with⟨rfl,rfl⟩|⟨rfl,rfl⟩|⟨j,j1,rfl,hc⟩
   ·have:=Wa hinj (wkH 4 (mkW fs) []) 0 _ (NA _ _ _) rfl
    rw[hr]at this
    refine Wh _ _ _ _ (this.trans (congrArg some ?_))
    simp only[Blk.ren,List.map_cons,List.map_nil,V5 (hr 2)]
   ·have:=Wa hinj (wkH 4 (mkW fs) []) 2 _ (IV _ _ _) rfl
    rw[hr]at this
    refine Wh _ _ _ _ (this.trans (congrArg some ?_))
    simp only[Blk.ren,Xp,List.map_map]
    congr 1
   ·unfold fB at hc
    split at hc
    ·cases hc
    ·split at hc<;>cases hc
end
end Go.Proofs.Ytcpikannlnmafaa
section
namespace Go.Proofs.Ytcpikannlnmafaa
open Go Go.Av
open Classical in
noncomputable def UM(ι:Inj)(H:Heap)(w:World):Inj:=⟨ι.loc,fun g=>if Own ι H g then(match w.heap[g]? with
 |some (.cells cs _ _)=>some cs
 |_=>none)else ι.fz g⟩
theorem Id{ι:Inj}{H:Heap}{w:World}{g:Nat}{cs:Array Value}{e:TypeId}{z:Nat×Nat}(ho:Own ι H g)(h:w.heap[g]?=some (.cells cs e z)):(UM ι H w).fz g=some cs:=by
 unfold UM
 dsimp only
 rw[if_pos ho,h]
theorem BU{ι:Inj}{H:Heap}{w:World}{g:Nat}{cs:Array Value}(h:(UM ι H w).fz g=some cs):(Own ι H g∧ ∃e z,w.heap[g]?=some (.cells cs e z))∨(¬Own ι H g∧ι.fz g=some cs):=by
 unfold UM at h
 dsimp only at h
 by_cases ho:Own ι H g
 ·rw[if_pos ho]at h
  split at h
  ·rename_i cs' e z h1
   cases h
   exact .inl ⟨ho,e,z,h1⟩
  ·cases h
 ·rw[if_neg ho]at h
  exact .inr ⟨ho,h⟩
theorem BV[Syms]{ι:Inj}{H:Heap}{w:World}(hH:RelH ι H w)(g:Nat)(cs:Array Value)(h:ι.fz g=some cs):(UM ι H w).fz g=some cs:=by
 have hn:=(hH.fz g cs h).2
 unfold UM
 dsimp only
 rw[if_neg hn];exact h
theorem Lq[Syms]{ι:Inj}{H:Heap}{w:World}(hH:RelH ι H w):ι.le (UM ι H w):=⟨fun _ _ h=>h,BV hH⟩
def G1[Syms](H:Heap)(x x':AVal):Prop:=∀(ι:Inj) (w:World) (v:Value),RelH ι H w→RelV ι x v→RelV (UM ι H w) x' v
def Fh[Syms](H:Heap):List AVal→List AVal→Prop
 |[],[]=>True
 |a::l,b::m=>G1 H a b∧Fh H l m
 |_,_=>False
theorem Fh.at[Syms]{H:Heap}:∀{xs ys:List AVal},Fh H xs ys→xs.length=ys.length∧ ∀(i:Nat) (x y:AVal),xs[i]?=some x→ys[i]?=some y→G1 H x y
 |[],[],_=>⟨rfl,fun i x y h=>by simp at h⟩
 |[],_::_,h=>h.elim
 |_::_,[],h=>h.elim
 |a::xs,b::ys,h=>by
  obtain⟨h1,h2⟩:=h.2.at
  refine⟨by simp[h1],fun i x y hx hy=>?_⟩
  cases i with
  |zero=>simp at hx hy;subst hx hy;exact h.1
  |succ i=>simp at hx hy;exact h2 i x y hx hy
theorem G1.wk[Syms]{H:Heap}{x y:AVal}(h:WkV x y):G1 H x y:=fun ι w v hH hv=>(h.rel hv).mono (Lq hH)
theorem Fh.same[Syms]{H:Heap}:∀xs:List AVal,Fh H xs xs
 |[]=>trivial
 |x::xs=>⟨.wk (.refl x),Fh.same xs⟩
theorem G1.slice[Syms]{H:Heap}{n len sz:Nat}{rows rows':List (List AVal)}{c:Option Nat}(hb:H.get n=some (.cells rows false))(hlen:len=rows.length)(hl:rows'.length=rows.length)(hz:∀r∈rows',r.length=sz)(hfl:∀r∈rows',∀x∈r,x.flat=true)
 (hr:∀(k:Nat) (r r':List AVal),rows[k]?=some r→rows'[k]?=some r'→Fh H r r'):G1 H (.slice n 0 len sz c) (.vs sz rows'):=by
 subst hlen
 intro ι w v hH hv
 obtain⟨L,hL,hB⟩:=hH.blk n _ hb
 have hown:Own ι H L.g:=⟨n,_,L,hb,rfl,hL,rfl⟩
 cases hv with
 |slice _ _ _ _ _ L' a k h hs ha hll hp hm hc=>
  rw[hL]at h
  cases h
  rcases ha with h0|h0
  ·have hl0:rows=[]:=List.eq_nil_of_length_eq_zero (by omega)
   subst hl0
   obtain rfl:rows'=[]:=List.eq_nil_of_length_eq_zero hl
   exact .vz sz _ _ hm (fun h=>nomatch h)
  ·subst h0
   obtain⟨cs,et,fz,c1,c2,c3,c4,c5⟩:=hB
   have hat:∀(k:Nat),k<rows'.length→ ∃r r',rows[k]?=some r∧rows'[k]?=some r':=fun k hk=>
    ⟨_,_,List.getElem?_eq_getElem (by omega),List.getElem?_eq_getElem hk⟩
   have key:RelV (UM ι H w) (.vs sz rows') (.slice (some ⟨L.g,L.base+0*L.size,none⟩) rows'.length k):=by
    refine .vs sz rows' L.g (L.base+0*L.size) k cs (Id hown c1) (by omega) hm (by rw[hl];rw[hs]at *;omega) (fun j row hr'=>hz _ (List.mem_of_getElem? hr')) (fun k j v hk hj hv=>?_) (fun k j row x v hr' hj hv=>?_)
    ·obtain⟨r,r',h1,h2⟩:=hat k hk
     obtain⟨q1,q2⟩:=c4 k r h1
     have hjr:j<r.length:=by rw[q1,hs];exact hj
     obtain⟨v',p1,p2,_⟩:=q2 j _ (List.getElem?_eq_getElem hjr)
     rw[hs]at p1 hv
     have:L.base+0*sz+k*sz+j=L.base+k*sz+j:=by omega
     rw[this,p1]at hv
     cases hv
     exact p2
    ·have hk:k<rows'.length:=(List.getElem?_eq_some_iff.1 hr').1
     obtain⟨r,r',h1,h2⟩:=hat k hk
     rw[hr']at h2
     cases h2
     obtain⟨g1,g2⟩:=(hr k r row h1 hr').at
     have hjr:j<r.length:=by rw[g1];exact(List.getElem?_eq_some_iff.1 hj).1
     obtain⟨v',p1,p2,p3⟩:=(c4 k r h1).2 j _ (List.getElem?_eq_getElem hjr)
     rw[hs]at p1 hv
     have:L.base+0*sz+k*sz+j=L.base+k*sz+j:=by omega
     rw[this,p1]at hv
     cases hv
     exact RelV.flat (fun _ _ h=>h) (hfl row (List.mem_of_getElem? hr') x (List.mem_of_getElem? hj)) (g2 j _ x (List.getElem?_eq_getElem hjr) hj ι w v hH p3)
   rwa [hl]at key
theorem NR[Syms]{na N nx:Nat}{e e3:Env}{H:Heap}(h:∀k,G1 H (e.get k) (e3.get k)):Reb na N ⟨e,H,nx⟩ ⟨e3,[],nx⟩:=by
 refine⟨fun h=>h,?_⟩
 intro ι a w hS
 refine⟨UM ι H w,⟨hS.defers,hS.size,fun k=>h k ι w _ hS.heap (hS.env k),⟨fun m b hm=>(by rw[Heap.get_nil]at hm;cases hm),fun m m' b b' M M' h1=>(by rw[Heap.get_nil]at h1;cases h1),fun g ds hg=>⟨?_,fun⟨n,b,L,h1,_⟩=>(by rw[Heap.get_nil]at h1;cases h1)⟩⟩,hS.bound⟩,⟨fun _ _ _ h=>h,BV hS.heap,rfl,rfl,rfl,Nat.le_refl _,fun _ _ _=>rfl,fun g ⟨n,b,L,h1,_⟩=>(by rw[Heap.get_nil]at h1;cases h1),fun g ds hg=>?_,fun _ _ _ h=>h⟩⟩
 ·rcases BU hg with⟨_,h⟩|⟨_,h⟩
  ·exact h
  ·exact(hS.heap.fz _ _ h).1
 ·rcases BU hg with⟨h,_⟩|⟨_,h⟩
  ·exact .inr (.inr h)
  ·exact .inl h
theorem M6[Syms]{α:Type}{H:Heap}{enc:α→List AVal}{n sz:Nat}{l:List α}(hf:∀a,∀x∈enc a,x.flat=true)(hz:∀a,(enc a).length=sz)(h:H.get n=Zi enc l):G1 H (Z8 n sz l) (.vs sz (l.map enc)):=by
 cases l with
 |nil=>exact .wk (.zero _ _ rfl)
 |cons a t=>
  refine G1.slice (rows:=(a::t).map enc) h (List.length_map _).symm rfl (fun r hr=>?_) (Qa hf _) (fun k r r' h1 h2=>?_)
  ·obtain⟨a',_,rfl⟩:=List.mem_map.1 hr
   exact hz a'
  ·rw[h1]at h2
   cases h2
   exact .same _
theorem NG[Syms]{H:Heap}{x:AVal}{sz n:Nat}{f:Nat→List AVal}(h:G1 H x (.vs sz (XW n f))):G1 H x (.vt sz n f):=fun ι w v hH hv=>.vt _ _ _ _ (h ι w v hH hv)
end Go.Proofs.Ytcpikannlnmafaa
end
namespace Go.Proofs.Ytcpikannlnmafaa
open Go Go.Av
def W2(c:UInt8):Bool:=decide (97≤c.toNat)&&decide (c.toNat≤122)
def BI(c:UInt8):Bool:=W2 c||(decide (48≤c.toNat)&&decide (c.toNat≤57))||decide (c.toNat=95)
def LF(s:List UInt8):Bool:=decide (1≤s.length)&&decide (s.length≤12)&&W2 (s.headD 0)&&s.all BI
def Pv(f:Fd)(i:Nat)(par dep:Int)(nm tw:Bool):Int:=
 if 0<i∧par<0 then 1 else if 8<dep then 11 else if nm=false∨tw=true then 7
 else if f.rep<0∨2<f.rep∨f.kind<0∨4<f.kind then 3 else if i=0∧(f.rep≠0∨f.kind≠0)then 3
 else if(f.kind=0∧f.kids<1)∨(f.kind≠0∧f.kids≠0)then 1 else 0
def Di(fs:List Fd)(ps:List Int)(i:Nat)(dep:Int):Int:=
 Pv (fs.getD i default) i (ps.getD i 0) dep (LF (fs.getD i default).name) (L4 fs ps i)
def WO(fs:List Fd):Nat→Nat→Int
 |_,0=>0
 |i,n+1=>if Di fs (Q0 fs) i ((Xk fs).getD i 0)≠0 then Di fs (Q0 fs) i ((Xk fs).getD i 0)else WO fs (i+1) n
def Gt:List Fd→Nat→Stk→Stk
 |[],_,st=>st
 |f::fs,i,st=>Gt fs (i+1) (Zs i f (Yk (Z0 st)))
def Lt(st:Stk):Bool:=st.any fun p=>decide (0<p.2)
def B7(fs:List Fd):Int:=
 if fs.length<1∨40<fs.length then 4 else if WO fs 0 fs.length≠0 then WO fs 0 fs.length else if Lt (Gt fs 0 [])=true then 1 else 0
abbrev Wd:=List UInt8
def OG(c:UInt8):Bool:=decide (c.toNat=123)||decide (c.toNat=125)||decide (c.toNat=59)
def ON(w:Wd):Prop:=w≠[]∧((∀c∈w,BI c=true)∨ ∃c,w=[c]∧OG c=true)
def Pd:List Wd:=[[114,101,113,117,105,114,101,100],[111,112,116,105,111,110,97,108],[114,101,112,101,97,116,101,100]]
def Oe:List Wd:=[[103,114,111,117,112],[98,111,111,108],[105,110,116,51,50],[105,110,116,54,52],[98,121,116,101,115]]
def R0:Wd:=[109,101,115,115,97,103,101]
def LE(w:Wd):Bool:=match w with
 |[]=>false
 |c::_=>W2 c&&decide (w.length≤12)
theorem LD{w:Wd}(h:ON w):LE w=LF w:=by
 cases w with
 |nil=>exact absurd rfl h.1
 |cons c t=>
  show(W2 c&&decide ((c::t).length≤12))=(decide (1≤(c::t).length)&&decide ((c::t).length≤12)&&W2 c&&(c::t).all BI)
  rw[decide_eq_true (show 1≤(c::t).length by simp)]
  rcases h.2 with h|⟨d,hd,hm⟩
  ·rw[List.all_eq_true.2 h]
   cases W2 c<;>cases decide ((c::t).length≤12)<;>rfl
  ·cases hd
   have:W2 c=false:=by
    cases hl:W2 c with
    |false=>rfl
    |true=>
     simp only[W2,OG,Bool.and_eq_true,Bool.or_eq_true,decide_eq_true_eq]at hl hm
     omega
   rw[this];simp
structure PS where
 ws:List Wd
 fs:List Fd
 e:Int
 deriving Inhabited
def HY(d:Nat):List UInt8:=List.replicate (2*d) 32
def LS(d:Nat)(f:Fd):List UInt8:=if d=0 then R0++[32]else HY d++Pd.getD f.rep.toNat []++[32]++Oe.getD f.kind.toNat []++[32]
def OH(d:Nat)(f:Fd):List UInt8:=LS d f++f.name++[59,10]
def OE(d:Nat)(f:Fd):List UInt8:=LS d f++f.name++[32,123,10]
def Ng(d:Nat):List UInt8:=HY d++[125,10]
inductive PrT(s:List Fd):Nat→Nat→Nat→Nat→List UInt8→Nat→Prop
 |nil {n i d:Nat}:PrT s n 0 i d [] i
 |leaf {n k i d j:Nat} {t:List UInt8} (hi:i<s.length) (hk:(s.getD i default).kind≠0) (h:PrT s n k (i+1) d t j):PrT s n (k+1) i d (OH d (s.getD i default)++t) j
 |group {n k m i i1 d j:Nat} {t1 t2:List UInt8} (hi:i<s.length) (hk:(s.getD i default).kind=0) (hm:(s.getD i default).kids=m) (h1:PrT s n m (i+1) (d+1) t1 i1) (h2:PrT s (n+1) k i1 d t2 j):
   PrT s (n+1) (k+1) i d (OE d (s.getD i default)++t1++Ng d++t2) j
theorem PrT.split{s:List Fd}{n k i d j:Nat}{t:List UInt8}(h:PrT s n (k+1) i d t j):∃t1 i1 t2,PrT s n 1 i d t1 i1∧PrT s n k i1 d t2 j∧t=t1++t2:=by
 cases h with
 |leaf hi hk h=>exact⟨_,_,_,.leaf hi hk .nil,h,by simp⟩
 |group hi hk hm h1 h2=>exact⟨_,_,_,.group hi hk hm h1 .nil,h2,by simp⟩
theorem PrT.one{s:List Fd}{n i d j:Nat}{t:List UInt8}(h:PrT s n 1 i d t j):i<s.length∧
 (((s.getD i default).kind≠0∧t=OH d (s.getD i default)∧j=i+1)∨
   (∃n' m t1,(s.getD i default).kind=0∧n=n'+1∧(s.getD i default).kids=(m:Nat)∧PrT s n' m (i+1) (d+1) t1 j∧t=OE d (s.getD i default)++t1++Ng d)):=by
 cases h with
 |leaf hi hk h=>
  cases h with
  |nil=>exact⟨hi,.inl ⟨hk,by simp,rfl⟩⟩
 |group hi hk hm h1 h2=>
  cases h2 with
  |nil=>exact⟨hi,.inr ⟨_,_,_,hk,rfl,hm,h1,by simp⟩⟩
theorem PrT.pos{s:List Fd}{n k i d j:Nat}{t:List UInt8}(h:PrT s n k i d t j):i≤j:=by
 induction h with
 |nil=>exact Nat.le_refl _
 |leaf _ _ _ ih=>omega
 |group _ _ _ _ _ ih1 ih2=>omega
structure PrOk(s:List Fd):Prop where
 len:s.length<1000
 rep:∀i,i<s.length→0≤(s.getD i default).rep∧(s.getD i default).rep≤2
 kind:∀i,i<s.length→0≤(s.getD i default).kind∧(s.getD i default).kind≤4
structure FOk(f:Fd):Prop where
 rep:0≤f.rep∧f.rep≤2
 kind:0≤f.kind∧f.kind≤4
 name:LE f.name=true
 sign:∀c∈f.name,BI c=true
inductive Fo:Nat→Nat→List Fd→Prop
 |nil {d:Nat}:Fo d 0 []
 |leaf {d k:Nat} {f:Fd} {l:List Fd} (hd:d≤5) (hf:FOk f) (hk:f.kind≠0) (h0:f.kids=0) (h:Fo d k l):Fo d (k+1) (f::l)
 |group {d k m:Nat} {f:Fd} {l1 l2:List Fd} (hd:d≤5) (hf:FOk f) (hk:f.kind=0) (hm:f.kids=(m:Nat)) (hp:0<m) (h1:Fo (d+1) m l1) (h2:Fo d k l2):Fo d (k+1) (f::(l1++l2))
theorem Fo.snoc{d k:Nat}{l x:List Fd}(h:Fo d k l)(hx:Fo d 1 x):Fo d (k+1) (l++x):=by
 induction h with
 |nil=>exact hx
 |leaf hd hf hk h0 _ ih=>exact .leaf hd hf hk h0 (ih hx)
 |group hd hf hk hm hp h1 _ _ ih=>
  rw[List.cons_append,List.append_assoc]
  exact .group hd hf hk hm hp h1 (ih hx)
inductive Sp:List Int→List Fd→Prop
 |root {f:Fd} {l:List Fd} {k:Nat} (hf:FOk f) (hk:f.kind=0) (hr:f.rep=0) (hm:f.kids=(k:Nat)) (h:Fo 1 k l):Sp [0] (f::l)
 |push {a:Int} {t:List Int} {fs:List Fd} {f:Fd} {l:List Fd} {k:Nat} (h:Sp (a::t) fs) (hd:t.length+1≤5) (hf:FOk f) (hk:f.kind=0) (hm:f.kids=(k:Nat)) (hl:Fo (t.length+2) k l):
   Sp ((fs.length:Int)::a::t) (X3 fs a.toNat++f::l)
theorem Sp.ne{op:List Int}{fs:List Fd}(h:Sp op fs):∃a t,op=a::t∧fs≠[]:=by
 cases h with
 |root=>exact⟨_,_,rfl,by simp⟩
 |push=>exact⟨_,_,rfl,by simp⟩
theorem Sp.top{a:Int}{t:List Int}{fs:List Fd}(h:Sp (a::t) fs):a.toNat<fs.length∧0≤a∧ ∃k:Nat,(fs.getD a.toNat default).kids=(k:Nat):=by
 cases h with
 |root hf hk hr hm h=>exact⟨by simp,by omega,_,hm⟩
 |push h hd hf hk hm hl=>
  rename_i k
  refine⟨by simp[Q8],by omega,k,?_⟩
  rw[Int.toNat_natCast,List.getD_eq_getElem?_getD,List.getElem?_append_right (by rw[Q8];exact Nat.le_refl _),Q8,Nat.sub_self]
  exact hm
theorem LO{fs:List Fd}{f:Fd}{l:List Fd}{n:Nat}(h:n=fs.length):X3 (fs++f::l) n=fs++{f with kids:=f.kids+1}::l:=by
 subst h
 unfold X3
 have e:(fs++f::l).getD fs.length default=f:=by
  rw[List.getD_eq_getElem?_getD,List.getElem?_append_right (Nat.le_refl _),Nat.sub_self];rfl
 rw[e]
 simp only[List.set_append,Nat.lt_irrefl,if_false,Nat.sub_self,List.set_cons_zero]
theorem Sp.add{a:Int}{t:List Int}{fs x:List Fd}(h:Sp (a::t) fs)(hx:Fo (t.length+1) 1 x):Sp (a::t) (X3 fs a.toNat++x):=by
 generalize hop:a::t=op at h
 cases h with
 |root hf hk hr hm h=>
  cases hop
  rename_i f l k
  have e:X3 (f::l) (0:Int).toNat={f with kids:=f.kids+1}::l:=LO (fs:=[]) rfl
  rw[e]
  exact .root (f:={f with kids:=f.kids+1}) (k:=k+1) ⟨hf.rep,hf.kind,hf.name,hf.sign⟩ hk hr (by show f.kids+1=_;rw[hm];rfl) (h.snoc hx)
 |push h hd hf hk hm hl=>
  cases hop
  rename_i a' t' fs' f l k
  rw[LO (by rw[Q8,Int.toNat_natCast]),List.append_assoc]
  exact .push (f:={f with kids:=f.kids+1}) (k:=k+1) h hd ⟨hf.rep,hf.kind,hf.name,hf.sign⟩ hk (by show f.kids+1=_;rw[hm];rfl) (hl.snoc hx)
theorem Sp.pop{b a:Int}{t:List Int}{fs:List Fd}(h:Sp (b::a::t) fs)(hk:0<(fs.getD b.toNat default).kids):Sp (a::t) fs∧0<(fs.getD a.toNat default).kids:=by
 generalize hop:b::a::t=op at h
 cases h with
 |root=>cases hop
 |push h hd hf hk' hm hl=>
  cases hop
  rename_i fs' f l k
  rw[Int.toNat_natCast,List.getD_eq_getElem?_getD,List.getElem?_append_right (by rw[Q8];exact Nat.le_refl _),Q8,Nat.sub_self]at hk
  have hk:0<f.kids:=hk
  obtain⟨h1,h2,k',h3⟩:=h.top
  refine⟨h.add ?_,?_⟩
  ·have:=Fo.group (d:=t.length+1) (k:=0) (m:=k) hd hf hk' hm (by omega) hl .nil
   rwa [List.append_nil]at this
  ·have e:(X3 fs' a.toNat++f::l).getD a.toNat default={fs'.getD a.toNat default with kids:=(fs'.getD a.toNat default).kids+1}:=by
    rw[List.getD_eq_getElem?_getD,List.getElem?_append_left (by rw[Q8];exact h1),X3,List.getElem?_set_self (by exact h1)];rfl
   rw[e]
   show 0<(fs'.getD a.toNat default).kids+1
   omega
theorem Sp.pops{fs:List Fd}:∀(k:Nat) (op:List Int),Sp op fs→Sp (U3 fs k op) fs∧(U3 fs k op).length≤op.length
 |0,op,h=>⟨h,Nat.le_refl _⟩
 |k+1,[],h=>⟨h,Nat.le_refl _⟩
 |k+1,[a],h=>⟨h,Nat.le_refl _⟩
 |k+1,a::b::t,h=>by
  rw[U3]
  split
  ·rename_i hk
   obtain⟨h1,h2⟩:=Sp.pops k (b::t) (h.pop hk).1
   exact⟨h1,by simp at h2 ⊢;omega⟩
  ·exact⟨h,Nat.le_refl _⟩
theorem Sp.close:∀(op:List Int) (fs:List Fd),Sp op fs→0<(fs.getD (ZJ op).toNat default).kids→ ∃(f:Fd) (l:List Fd) (k:Nat),fs=f::l∧FOk f∧f.kind=0∧f.rep=0∧f.kids=(k:Nat)∧0<k∧Fo 1 k l
 |[],fs,h,_=>by cases h
 |[a],fs,h,hk=>by
  generalize hop:[a]=op at h
  cases h with
  |root hf hkk hr hm h=>
   rename_i f l k
   have hk:0<f.kids:=by cases hop;exact hk
   exact⟨_,_,_,rfl,hf,hkk,hr,hm,by omega,h⟩
  |push=>cases hop
 |b::a::t,fs,h,hk=>by
  obtain⟨h1,h2⟩:=h.pop hk
  exact Sp.close (a::t) fs h1 h2
theorem PW:∀i,i<12→LE (nmM i)=true∧ ∀c∈nmM i,BI c=true:=by decide
theorem Pm(op:List Int){i:Nat}(hi:i<12)(x:Int):FOk (Ev op i x)∧(Ev op i x).kids=0:=by
 have h1:=ZA (a:=wr .i64 (x.tdiv 8)) (n:=3) (by omega)
 have h2:=ZA (a:=x) (n:=8) (by omega)
 obtain⟨h3,h4⟩:=PW i hi
 refine⟨⟨⟨h1.1,by show wi _ 3≤2;omega⟩,?_,h3,h4⟩,rfl⟩
 show 0≤Xw op x∧Xw op x≤4
 unfold Xw
 have h5:=Int.tmod_lt_of_pos (wi x 8) (show(0:Int)<5 by decide)
 have h6:=Int.tmod_nonneg 5 h2.1
 split<;>omega
theorem It{op:List Int}{x:Int}(h:Xw op x=0):op.length≤4:=by
 unfold Xw at h
 split at h
 ·omega
 ·rename_i hn
  exact Nat.le_of_not_lt fun hl=>hn ⟨hl,h⟩
theorem Sp.step{fs:List Fd}{op:List Int}{i:Nat}{x:Int}(h:Sp op fs)(hl:op.length≤5)(hi:i<12):Sp (X8 fs op i x).2 (X8 fs op i x).1∧(X8 fs op i x).2.length≤5:=by
 obtain⟨h1,h2⟩:=Sp.pops (wi (wr .i64 (x.tdiv 64)) 3).toNat op h
 unfold X8
 simp only
 generalize U3 fs (wi (wr .i64 (x.tdiv 64)) 3).toNat op=o at *
 obtain⟨a,t,rfl,hne⟩:=h1.ne
 obtain⟨hf,hk0⟩:=Pm (a::t) hi x
 have ht:ZJ (a::t)=a:=rfl
 rw[ht]
 split
 ·rename_i hk
  have h4:=It (show Xw (a::t) x=0 from hk)
  simp at h4 h2
  exact⟨.push (k:=0) h1 (by omega) hf hk (by rw[hk0];rfl) .nil,by simp;omega⟩
 ·rename_i hk
  simp at h2
  exact⟨h1.add (.leaf (by omega) hf hk hk0 .nil),by simp;omega⟩
theorem Lh{ns:List Int}:∀(n i:Nat) (fs:List Fd) (op:List Int),Sp op fs→op.length≤5→Sp (ZW ns n i fs op).2 (ZW ns n i fs op).1∧(ZW ns n i fs op).2.length≤5
 |0,i,fs,op,h,hl=>⟨h,hl⟩
 |n+1,i,fs,op,h,hl=>by
  rw[ZW]
  split
  ·rename_i hi
   have hs:=Sp.step (x:=ns.getD i 0) h hl hi.2
   exact Lh n (i+1) _ _ hs.1 hs.2
  ·exact⟨h,hl⟩
theorem DP(ns:List Int):∃(f:Fd) (l:List Fd) (k:Nat),Q7 ns=f::l∧FOk f∧f.kind=0∧f.rep=0∧f.kids=(k:Nat)∧0<k∧Fo 1 k l:=by
 have h0:Sp [0] fs0:=.root (k:=0) ⟨by decide,by decide,by decide,by decide⟩ rfl rfl rfl .nil
 have h:=Lh (ns:=ns) 12 0 fs0 [0] h0 (by decide)
 rw[Q7]
 generalize(ZW ns 12 0 [⟨[109],0,0,0⟩] [0])=r at *
 have hl5:(r.2).length≤5:=h.2
 have h:Sp r.2 r.1:=h.1
 rw[Y4]
 obtain⟨a,t,ho,hne⟩:=h.ne
 rw[ho]at h
 obtain⟨h1,h2,k,h3⟩:=h.top
 have ht:ZJ r.2=a:=by rw[ho];rfl
 rw[ht]
 split
 ·rename_i hk
  have hz:FOk ⟨[122],0,4,0⟩:=⟨by decide,by decide,by decide,by decide⟩
  have hd:t.length+1≤5:=by rw[ho]at hl5;simp at hl5;omega
  have ha:=h.add (.leaf (f:=⟨[122],0,4,0⟩) hd hz (by decide) rfl .nil)
  refine Sp.close (a::t) _ ha ?_
  show 0<((X3 r.1 a.toNat++[_]).getD a.toNat default).kids
  rw[List.getD_eq_getElem?_getD,List.getElem?_append_left (by rw[Q8];exact h1),X3,List.getElem?_set_self (by exact h1)]
  show 0<(r.1.getD a.toNat default).kids+1
  omega
 ·rename_i hk
  refine Sp.close (a::t) _ h ?_
  show 0<(r.1.getD a.toNat default).kids
  omega
theorem Fo.all{d k:Nat}{l:List Fd}(h:Fo d k l):∀f∈l,FOk f:=by
 induction h with
 |nil=>intro f hf;cases hf
 |leaf hd hf hk h0 h ih=>
  intro f h
  rcases List.mem_cons.1 h with rfl|h
  ·exact hf
  ·exact ih f h
 |group hd hf hk hm hp h1 h2 ih1 ih2=>
  intro f h
  rcases List.mem_cons.1 h with rfl|h
  ·exact hf
  ·rcases List.mem_append.1 h with h|h
   ·exact ih1 f h
   ·exact ih2 f h
structure PrS(s:List Fd)(t:List UInt8):Prop where
 pr:PrT s 9 1 0 0 t s.length
 ok:PrOk s
 len:t.length≤64*s.length
theorem La(fs:List Fd)(op:List Int)(i:Nat)(x:Int):(X8 fs op i x).1.length=fs.length+1:=by
 simp[X8,Q8]
theorem Hl{ns:List Int}:∀(n i:Nat) (fs:List Fd) (op:List Int),(ZW ns n i fs op).1.length≤fs.length+n
 |0,_,_,_=>Nat.le_refl _
 |n+1,i,fs,op=>by
  rw[ZW]
  split
  ·have:=Hl (ns:=ns) n (i+1) (X8 fs op i (ns.getD i 0)).1 (X8 fs op i (ns.getD i 0)).2
   rw[La]at this
   show(ZW ns n (i+1) (X8 fs op i (ns.getD i 0)).1 (X8 fs op i (ns.getD i 0)).2).1.length≤_
   omega
  ·show fs.length≤_;omega
theorem Wq(ns:List Int):(Q7 ns).length≤14:=by
 have h:=Hl (ns:=ns) 12 0 [⟨[109],0,0,0⟩] [0]
 rw[Q7]
 generalize(ZW ns 12 0 [⟨[109],0,0,0⟩] [0])=r at *
 have h:r.1.length≤13:=h
 show(Y4 r.1 r.2).length≤14
 unfold Y4
 split
 ·simp[Q8];omega
 ·omega
end Go.Proofs.Ytcpikannlnmafaa
