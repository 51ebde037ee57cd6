/-
  The document's walk over a shape:of each field its group,and its depth. The document's 'walk':what is asked of it,and what it answers. The document's 'Parents':it answers as the program's. The document's 'Path':it answers as the program's.
-/
import Derived.Test.YtekipcaifckffaaGreatL5
import Derived.Test.YtekipcaifckffaaGreatL9
import Derived.Test.YtekipcaifckffaaGreatSxOne
import Derived.Test.YtekipcaifckffaaGreatL6
set_option linter.unusedVariables false
set_option linter.unusedSimpArgs false
namespace Go.Proofs.YtekipcaifckffaaGreat
open Go Go.Av
section
set_option maxRecDepth 100000
set_option maxHeartbeats 4000000
def rE(fs:List Fd)(i:Nat)(p d o l:AVal):Env:=[(0,vF fs),(4,p),(5,d),(6,o),(7,l),(8,.int .i64 i)]
def sI(k n:Nat):AVal:=.slice k 0 n 1 none
def rA(fs:List Fd)(i:Nat):St:=⟨rE fs i .nils .nils .nils .nils,[],0⟩
def rB(fs:List Fd)(i:Nat)(out:List (Int×Int)):St:=⟨rE fs i (sI 0 i) (sI 1 i) .nils .nils,[(0,some (.cells (out.map (encI ·.1)) false)),(1,some (.cells (out.map (encI ·.2)) false))],2⟩
def rC(fs:List Fd)(i n:Nat)(out:List (Int×Int))(R S:List (List AVal)):St:=
 ⟨rE fs i (sI 0 i) (sI 1 i) (sI 2 n) (sI 3 n),[(0,some (.cells (out.map (encI ·.1)) false)),(1,some (.cells (out.map (encI ·.2)) false)),(2,some (.cells R false)),(3,some (.cells S false))],4⟩
def rD(fs:List Fd)(i n:Nat)(out:List (Int×Int))(R S:List (List AVal)):St:=
 ⟨rE fs i (sI 0 (i+1)) (sI 1 (i+1)) (sI 2 n) (sI 3 n),[(0,some (.cells (out.map (encI ·.1)) false)),(1,some (.cells (out.map (encI ·.2)) false)),(2,some (.cells R false)),(3,some (.cells S false))],4⟩
structure RInv(fs:List Fd)(i:Nat)(st:Stk)(out:List (Int×Int)):Prop where
 le:i≤fs.length
 len:out.length=i
 run:out++MD (fs.drop i) i st=MD fs 0 []
 pos:∀p∈st,0≤p.2∧p.2≤9223372036854775807
 sl:st.length≤i
def rSt(fs:List Fd)(i:Nat)(st:Stk)(out:List (Int×Int))(s:St):Prop:=
 (i=0∧st=[]∧out=[]∧s=rA fs i)∨(st=[]∧s=rB fs i out)∨(∃j1 j2 R S,(Ql j1∧Ql j2∧R=st.reverse.map (encI ·.1)++j1∧S=st.reverse.map (encI ·.2)++j2)∧s=rC fs i st.length out R S)
theorem Nu{fs:List Fd}{i:Nat}{st:Stk}(h:i<fs.length):MD (fs.drop i) i st=(Vt (X2 st),((X2 st).length:Int))::MD (fs.drop (i+1)) (i+1) (YO i (fs.getD i default) (YE (X2 st))):=by
 rw[EW h];rfl
theorem Ba:∀st:Stk,(X2 st).length≤st.length
 |[]=>Nat.le_refl _
 |(a,k)::t=>by rw[X2];split<;>simp;have:=Ba t;omega
theorem KU{fs:List Fd}{i:Nat}{st:Stk}{out:List (Int×Int)}(hk:∀i,(fs.getD i default).kids≤9223372036854775807)(h:RInv fs i st out)(hi:i<fs.length):
 RInv fs (i+1) (YO i (fs.getD i default) (YE (X2 st))) (out++[(Vt (X2 st),((X2 st).length:Int))]):=by
 have hn:K5 st:=fun p hp=>(h.pos p hp).1
 refine⟨hi,by simp[h.len],?_,fun p hp=>⟨GG hn i _ p hp,?_⟩,?_⟩
 ·rw[←h.run,Nu hi];simp
 ·have hd:∀p∈YE (X2 st),p.2≤9223372036854775807:=by
   intro p hp
   cases hq:X2 st with
   |nil=>rw[hq]at hp;simp[YE]at hp
   |cons q t=>
    obtain⟨a,k⟩:=q
    have hm:∀r∈(a,k)::t,r.2≤9223372036854775807:=fun r hr=>(h.pos r (B9 (by rw[hq];exact hr))).2
    rw[hq]at hp
    simp only[YE,List.mem_cons]at hp
    rcases hp with rfl|hp
    ·have:=hm (a,k) (List.mem_cons_self ..);simp only at this ⊢;omega
    ·exact hm p (List.mem_cons_of_mem _ hp)
  unfold YO at hp
  split at hp
  ·rcases List.mem_cons.1 hp with rfl|hp
   ·exact hk i
   ·exact hd p hp
  ·exact hd p hp
 ·have h1:=Ba st
  have h2:(YE (X2 st)).length≤(X2 st).length:=by cases X2 st<;>simp[YE]
  have:=h.sl
  unfold YO
  split<;>simp<;>omega
theorem fI1(l:List (Int×Int)):Ql (l.map (encI ·.1)):=Xo (fun a x hx=>by simp[encI]at hx;subst hx;rfl) l
theorem fI2(l:List (Int×Int)):Ql (l.map (encI ·.2)):=Xo (fun a x hx=>by simp[encI]at hx;subst hx;rfl) l
theorem QF{g:Int×Int→List AVal}{l:List (Int×Int)}{i:Nat}(hl:l.length=i)(x:Int×Int):List.take i (List.drop 0 (l.map g))++[g x]=(l++[x]).map g:=by
 rw[List.drop_zero,List.take_of_length_le (by rw[List.length_map];omega)];simp
theorem Ci[Syms]{na N:Nat}{e:Env}{H:Heap}{nx:Nat}(h2:(e.get 2).isZ 1=true)(h3:(e.get 3).isZ 1=true):Reb na N ⟨e,H,nx⟩ ⟨[(3,vI []),(2,vI [])],[],nx⟩:=by
 refine(W8 (k:=2) (y:=vI []) fun ι v hv=>.vt _ _ _ _ (hv.isZ h2)).trans ((W8 (e:=(2,vI [])::e) (k:=3) (y:=vI []) fun ι v hv=>.vt _ _ _ _ (RelV.isZ (ι:=ι) (sz:=1) h3 (show RelV ι (e.get 3) v from hv))).trans (FP (fun j=>?_) (fun m b h=>by rw[Heap.get_nil]at h;cases h)))
 rw[Env.get_cons,Env.get_cons,Env.get_cons,Env.get_cons,Env.get_nil]
 cases Nat.beq j 3<;>cases Nat.beq j 2<;>simp
theorem MO[Syms]{na N:Nat}{e:Env}{H:Heap}{nx i:Nat}{out:List (Int×Int)}(h2:e.get 2=sI 0 i)(h3:e.get 3=sI 1 i)(hb0:H.get 0=some (.cells (out.map (encI ·.1)) false))(hb1:H.get 1=some (.cells (out.map (encI ·.2)) false))(hol:out.length=i):
 Reb na N ⟨e,H,nx⟩ ⟨[(3,vI (out.map (·.2))),(2,vI (out.map (·.1)))],[],nx⟩:=by
 refine(Kf (enc:=encI) (k:=2) 0 (l:=out.map (·.1)) [(3,sI 1 i)] [(1,some (.cells (out.map (encI ·.2)) false))] h2 hb0 (fI1 _) ?_ ?_ ?_ ?_).trans (Kf (enc:=encI) (k:=3) 0 (l:=out.map (·.2)) [(2,vI (out.map (·.1)))] [] rfl rfl (fI2 _) ?_ ?_ ?_ ?_)
 ·rw[List.take_of_length_le (by simp;omega),List.map_map];rfl
 ·simp;omega
 ·intro p hp;simp only[List.mem_singleton]at hp;subst hp;exact⟨show(3:Nat)≠2 by decide,h3⟩
 ·intro m b h
  rw[Heap.get_cons,Heap.get_nil]at h
  by_cases hm:m=1
  ·subst hm;rw[Nat.beq_refl]at h;rw[Heap.get_set_ne _ _ (by decide),hb1];exact h
  ·rw[QE hm]at h;cases h
 ·rw[List.take_of_length_le (by simp;omega),List.map_map];rfl
 ·simp;omega
 ·intro p hp;simp only[List.mem_singleton]at hp;subst hp;exact⟨show(2:Nat)≠3 by decide,rfl⟩
 ·intro m b h;rw[Heap.get_nil]at h;cases h
theorem YA{st:Stk}{q:List (List AVal)}{g:Int×Int→List AVal}{n:Nat}(hn:n=st.length):List.take n (List.drop 0 (st.reverse.map g++q))=st.reverse.map g:=by
 rw[List.drop_zero,hn,show st.length=(st.reverse.map g).length by simp];exact List.take_left
theorem Nt[Syms](fs:List Fd)(hl:fs.length<1000)(hk:∀i,(fs.getD i default).kids≤9223372036854775807):
 fnT Qi Qi (QK fns) (QH tys) (QW plt) 100 40 [vF fs] [] 0 (fun v H _=>v= .tup [vI (Q0 fs),vI (Ww fs)]∧H=[]):=by
 refine⟨fun n s=>∃i st out,(RInv fs i st out∧n=fs.length-i)∧rSt fs i st out s,⟨_,rA fs 0,Q1 [] rfl ?_ ?_,0,[],[],⟨⟨by omega,rfl,rfl,by simp,by simp⟩,rfl⟩,.inl ⟨rfl,rfl,rfl,rfl⟩⟩,?_⟩
 ·exact⟨.refl _,.refl _,.refl _,.refl _,.refl _,.refl _,trivial⟩
 ·exact trivial
 rintro n s ⟨i,st,out,⟨hI,rfl⟩,(⟨h0,rfl,rfl,rfl⟩|⟨rfl,rfl⟩|⟨j1,j2,R,S,⟨hj1,hj2,hR,hS⟩,rfl⟩)⟩
 ·have hle:=hI.le
  have hol:=hI.len
  by_cases hin:i<fs.length
  ·have hnx:=KU hk hI hin
   by_cases hc:(fs.getD i default).kind=0∧0<(fs.getD i default).kids
   ·rw[YO,if_pos hc,show X2 []=[] from rfl]at hnx
    repeat' first|refine And.intro ?_ ?_|(intro h;try first|exact dz|replace h:=cv)
    all_goals try exact cz
    refine XR ?_
    repeat' first|refine And.intro ?_ ?_|(intro h;try first|exact dz|replace h:=cv)
    all_goals try exact cz
    all_goals(try exact NoSel.mk (by kernel_rfl))
    refine⟨rD fs i 1 ([]++[(-1,0)]) [encI ((i:Nat):Int)] [encI (fs.getD i default).kids],?_,?_⟩
    · repeat' first|refine And.intro ?_ ?_|(intro h;try first|exact dz|replace h:=cv)
      all_goals try exact cz
      all_goals(try exact Apart.mk (by kernel_rfl))
      all_goals refine Exists.intro () ?_
      all_goals first
      |(refine Q1 [1,3,5,7] (by exact rfl) ?_ ?_
        ·exact⟨.refl _,Q7 (by first|rfl|omega),Q7 (by first|rfl|omega),.refl _,.refl _,.refl _,trivial⟩
        ·exact⟨⟨by decide,_,rfl,Q4 (by subst h0;rfl) (fI1 _)⟩,⟨by decide,_,rfl,Q4 (by subst h0;rfl) (fI2 _)⟩,⟨by decide,_,rfl,Q4 rfl (fI [_])⟩,⟨by decide,_,rfl,Q4 rfl (fI [_])⟩,trivial⟩)
      |(refine Q1 [1,3,6,7] (by exact rfl) ?_ ?_
        ·exact⟨.refl _,Q7 (by first|rfl|omega),Q7 (by first|rfl|omega),.refl _,.refl _,.refl _,trivial⟩
        ·exact⟨⟨by decide,_,rfl,Q4 (by subst h0;rfl) (fI1 _)⟩,⟨by decide,_,rfl,Q4 (by subst h0;rfl) (fI2 _)⟩,⟨by decide,_,rfl,Q4 rfl (fI [_])⟩,⟨by decide,_,rfl,Q4 rfl (fI [_])⟩,trivial⟩)
      |(refine Q1 [1,3,7,6] (by exact rfl) ?_ ?_
        ·exact⟨.refl _,Q7 (by first|rfl|omega),Q7 (by first|rfl|omega),.refl _,.refl _,.refl _,trivial⟩
        ·exact⟨⟨by decide,_,rfl,Q4 (by subst h0;rfl) (fI1 _)⟩,⟨by decide,_,rfl,Q4 (by subst h0;rfl) (fI2 _)⟩,⟨by decide,_,rfl,Q4 rfl (fI [_])⟩,⟨by decide,_,rfl,Q4 rfl (fI [_])⟩,trivial⟩)
      |(refine Q1 [1,3,7,5] (by exact rfl) ?_ ?_
        ·exact⟨.refl _,Q7 (by first|rfl|omega),Q7 (by first|rfl|omega),.refl _,.refl _,.refl _,trivial⟩
        ·exact⟨⟨by decide,_,rfl,Q4 (by subst h0;rfl) (fI1 _)⟩,⟨by decide,_,rfl,Q4 (by subst h0;rfl) (fI2 _)⟩,⟨by decide,_,rfl,Q4 rfl (fI [_])⟩,⟨by decide,_,rfl,Q4 rfl (fI [_])⟩,trivial⟩)
    repeat' first|refine And.intro ?_ ?_|(intro h;try first|exact dz|replace h:=cv)
    all_goals try exact cz
    exact⟨_,rC fs (i+1) 1 ([]++[(-1,0)]) [encI ((i:Nat):Int)] [encI (fs.getD i default).kids],.refl _ _ _,⟨_,_,_,⟨hnx,rfl⟩,.inr (.inr ⟨[],[],_,_,⟨QY,QY,rfl,rfl⟩,rfl⟩)⟩,by omega⟩
   ·rw[YO,if_neg hc,show X2 []=[] from rfl]at hnx
    repeat' first|refine And.intro ?_ ?_|(intro h;try first|exact dz|replace h:=cv)
    all_goals try exact cz
    refine XR ?_
    repeat' first|refine And.intro ?_ ?_|(intro h;try first|exact dz|replace h:=cv)
    all_goals try exact cz
    all_goals
     refine⟨_,rB fs (i+1) ([]++[(-1,0)]),Q1 [1,3] rfl ?_ ?_,⟨_,_,_,⟨hnx,rfl⟩,.inr (.inl ⟨rfl,rfl⟩)⟩,by omega⟩
     ·exact⟨.refl _,Q7 (by first|rfl|omega),Q7 (by first|rfl|omega),.refl _,.refl _,.refl _,trivial⟩
     ·exact⟨⟨by decide,_,rfl,Q4 (by subst h0;rfl) (fI1 _)⟩,⟨by decide,_,rfl,Q4 (by subst h0;rfl) (fI2 _)⟩,trivial⟩
  · repeat' first|refine And.intro ?_ ?_|(intro h;try first|exact dz|replace h:=cv)
    all_goals try exact cz
    have h0:fs=[]:=List.eq_nil_of_length_eq_zero (by omega)
    subst h0
    exact⟨_,Ci rfl rfl,_,rfl,rfl,rfl⟩
 ·have hle:=hI.le
  have hol:=hI.len
  by_cases hin:i<fs.length
  ·have hnx:=KU hk hI hin
   by_cases hc:(fs.getD i default).kind=0∧0<(fs.getD i default).kids
   ·rw[YO,if_pos hc,show X2 []=[] from rfl]at hnx
    repeat' first|refine And.intro ?_ ?_|(intro h;try first|exact dz|replace h:=cv)
    all_goals try exact cz
    refine XR ?_
    repeat' first|refine And.intro ?_ ?_|(intro h;try first|exact dz|replace h:=cv)
    all_goals try exact cz
    all_goals(try exact NoSel.mk (by kernel_rfl))
    refine⟨rD fs i 1 (out++[(-1,0)]) [encI ((i:Nat):Int)] [encI (fs.getD i default).kids],?_,?_⟩
    · repeat' first|refine And.intro ?_ ?_|(intro h;try first|exact dz|replace h:=cv)
      all_goals try exact cz
      all_goals(try exact Apart.mk (by kernel_rfl))
      all_goals refine Exists.intro () ?_
      all_goals first
      |(refine Q1 [3,5,7,9] (by exact rfl) ?_ ?_
        ·exact⟨.refl _,Q7 (by first|rfl|omega),Q7 (by first|rfl|omega),.refl _,.refl _,.refl _,trivial⟩
        ·exact⟨⟨by decide,_,rfl,Q4 (QF (g:=(encI ·.1)) hol (-1,0)) (fI1 _)⟩,⟨by decide,_,rfl,Q4 (QF (g:=(encI ·.2)) hol (-1,0)) (fI2 _)⟩,⟨by decide,_,rfl,Q4 rfl (fI [_])⟩,⟨by decide,_,rfl,Q4 rfl (fI [_])⟩,trivial⟩)
      |(refine Q1 [3,5,8,9] (by exact rfl) ?_ ?_
        ·exact⟨.refl _,Q7 (by first|rfl|omega),Q7 (by first|rfl|omega),.refl _,.refl _,.refl _,trivial⟩
        ·exact⟨⟨by decide,_,rfl,Q4 (QF (g:=(encI ·.1)) hol (-1,0)) (fI1 _)⟩,⟨by decide,_,rfl,Q4 (QF (g:=(encI ·.2)) hol (-1,0)) (fI2 _)⟩,⟨by decide,_,rfl,Q4 rfl (fI [_])⟩,⟨by decide,_,rfl,Q4 rfl (fI [_])⟩,trivial⟩)
      |(refine Q1 [3,5,9,8] (by exact rfl) ?_ ?_
        ·exact⟨.refl _,Q7 (by first|rfl|omega),Q7 (by first|rfl|omega),.refl _,.refl _,.refl _,trivial⟩
        ·exact⟨⟨by decide,_,rfl,Q4 (QF (g:=(encI ·.1)) hol (-1,0)) (fI1 _)⟩,⟨by decide,_,rfl,Q4 (QF (g:=(encI ·.2)) hol (-1,0)) (fI2 _)⟩,⟨by decide,_,rfl,Q4 rfl (fI [_])⟩,⟨by decide,_,rfl,Q4 rfl (fI [_])⟩,trivial⟩)
      |(refine Q1 [3,5,9,7] (by exact rfl) ?_ ?_
        ·exact⟨.refl _,Q7 (by first|rfl|omega),Q7 (by first|rfl|omega),.refl _,.refl _,.refl _,trivial⟩
        ·exact⟨⟨by decide,_,rfl,Q4 (QF (g:=(encI ·.1)) hol (-1,0)) (fI1 _)⟩,⟨by decide,_,rfl,Q4 (QF (g:=(encI ·.2)) hol (-1,0)) (fI2 _)⟩,⟨by decide,_,rfl,Q4 rfl (fI [_])⟩,⟨by decide,_,rfl,Q4 rfl (fI [_])⟩,trivial⟩)
    repeat' first|refine And.intro ?_ ?_|(intro h;try first|exact dz|replace h:=cv)
    all_goals try exact cz
    exact⟨_,rC fs (i+1) 1 (out++[(-1,0)]) [encI ((i:Nat):Int)] [encI (fs.getD i default).kids],.refl _ _ _,⟨_,_,_,⟨hnx,rfl⟩,.inr (.inr ⟨[],[],_,_,⟨QY,QY,rfl,rfl⟩,rfl⟩)⟩,by omega⟩
   ·rw[YO,if_neg hc,show X2 []=[] from rfl]at hnx
    repeat' first|refine And.intro ?_ ?_|(intro h;try first|exact dz|replace h:=cv)
    all_goals try exact cz
    refine XR ?_
    repeat' first|refine And.intro ?_ ?_|(intro h;try first|exact dz|replace h:=cv)
    all_goals try exact cz
    all_goals
     refine⟨_,rB fs (i+1) (out++[(-1,0)]),Q1 [3,5] rfl ?_ ?_,⟨_,_,_,⟨hnx,rfl⟩,.inr (.inl ⟨rfl,rfl⟩)⟩,by omega⟩
     ·exact⟨.refl _,Q7 (by first|rfl|omega),Q7 (by first|rfl|omega),.refl _,.refl _,.refl _,trivial⟩
     ·exact⟨⟨by decide,_,rfl,Q4 (QF (g:=(encI ·.1)) hol (-1,0)) (fI1 _)⟩,⟨by decide,_,rfl,Q4 (QF (g:=(encI ·.2)) hol (-1,0)) (fI2 _)⟩,trivial⟩
  · repeat' first|refine And.intro ?_ ?_|(intro h;try first|exact dz|replace h:=cv)
    all_goals try exact cz
    have hrun:=hI.run
    rw[List.drop_of_length_le (by omega),Es]at hrun
    simp only[MD,List.append_nil]at hrun
    exact⟨_,MO (out:=out) rfl rfl rfl rfl hol,_,rfl,by rw[hrun];rfl,rfl⟩
 ·have hle:=hI.le
  have hol:=hI.len
  have hsl:=hI.sl
  have hfR:Ql R:=hR▸QP (fI1 _) hj1
  have hfS:Ql S:=hS▸QP (fI2 _) hj2
  by_cases hin:i<fs.length
  · repeat' first|refine And.intro ?_ ?_|(intro h;try first|exact dz|replace h:=cv)
    all_goals try exact cz
    refine⟨fun m s=>∃(st1:Stk) (q1 q2:List (List AVal)),(m=st1.length∧X2 st1=X2 st∧R=st1.reverse.map (encI ·.1)++q1∧S=st1.reverse.map (encI ·.2)++q2∧Ql q1∧Ql q2∧(∀p∈st1,0≤p.2∧p.2≤9223372036854775807)∧st1.length≤st.length)∧s=rC fs i st1.length out R S,⟨_,rC fs i st.length out R S,U3 [0,4,5,6,7,8],st,j1,j2,⟨rfl,rfl,hR,hS,hj1,hj2,hI.pos,Nat.le_refl _⟩,rfl⟩,?_⟩
    rintro m s ⟨st1,q1,q2,⟨rfl,hp1,hR1,hS1,hq1,hq2,hb1,hl1⟩,rfl⟩
    have hnx:=KU hk hI hin
    rw[←hp1]at hnx
    clear hI hj1 hj2 hR hS
    cases st1 with
    |nil=>
     have hx1:True=True:=rfl
     have hx2:True=True:=rfl
     have hx3:True=True:=rfl
     have hx4:True=True:=rfl
     by_cases hc:(fs.getD i default).kind=0∧0<(fs.getD i default).kids
     ·rw[YO,if_pos hc]at hnx
      repeat' first|refine And.intro ?_ ?_|(intro h;try first|exact dzi|replace h:=cvi)
      all_goals try exact cz
      all_goals(try first|((with_reducible show(_:Int)≤(_:Int));simp only[hx2,hx3,hx4,Qb,Qf,QU,Nat.zero_add];omega)|((with_reducible show(_:Int)<(_:Int));simp only[hx2,hx3,hx4,Qb,Qf,QU,Nat.zero_add];omega)|((with_reducible show(_:Nat)≤(_:Nat));simp only[hx2,hx3,hx4,ZY,List.length_set,Nat.zero_add];omega)|((with_reducible show(_:Nat)<(_:Nat));simp only[hx2,hx3,hx4,ZY,List.length_set,Nat.zero_add];omega)|((with_reducible show isC _ _ _=true);simp only[hx2,hx3,hx4,Qb,Qf,QU,Nat.zero_add];exact rfl))
      refine⟨rD fs i 1 (out++[(-1,0)]) [encI (i:Int)] [encI (fs.getD i default).kids],?_,?_⟩
      · repeat' first|refine And.intro ?_ ?_|(intro h;try first|exact dzi|replace h:=cvi)
        all_goals try exact cz
        all_goals(try first|((with_reducible show(_:Int)≤(_:Int));simp only[hx2,hx3,hx4,Qb,Qf,QU,Nat.zero_add];omega)|((with_reducible show(_:Int)<(_:Int));simp only[hx2,hx3,hx4,Qb,Qf,QU,Nat.zero_add];omega)|((with_reducible show(_:Nat)≤(_:Nat));simp only[hx2,hx3,hx4,ZY,List.length_set,Nat.zero_add];omega)|((with_reducible show(_:Nat)<(_:Nat));simp only[hx2,hx3,hx4,ZY,List.length_set,Nat.zero_add];omega)|((with_reducible show isC _ _ _=true);simp only[hx2,hx3,hx4,Qb,Qf,QU,Nat.zero_add];exact rfl))
        all_goals refine Exists.intro () ?_
        all_goals first
        |(refine Q1 [5,7,9,11] (by exact rfl) ?_ ?_
          ·exact⟨.refl _,Q7 (by first|rfl|omega),Q7 (by first|rfl|omega),Q7 (by first|rfl|omega),Q7 (by first|rfl|omega),.refl _,trivial⟩
          ·refine⟨⟨by decide,_,rfl,Q4 ?_ (fI1 _)⟩,⟨by decide,_,rfl,Q4 ?_ (fI2 _)⟩,⟨by decide,_,rfl,Q4 ?_ (fI [_])⟩,⟨by decide,_,rfl,Q4 ?_ (fI [_])⟩,trivial⟩
           ·exact QF (g:=(encI ·.1)) hol (-1,0)
           ·exact QF (g:=(encI ·.2)) hol (-1,0)
           ·rfl
           ·rfl)
        |(refine Q1 [5,7,10,11] (by exact rfl) ?_ ?_
          ·exact⟨.refl _,Q7 (by first|rfl|omega),Q7 (by first|rfl|omega),Q7 (by first|rfl|omega),Q7 (by first|rfl|omega),.refl _,trivial⟩
          ·refine⟨⟨by decide,_,rfl,Q4 ?_ (fI1 _)⟩,⟨by decide,_,rfl,Q4 ?_ (fI2 _)⟩,⟨by decide,_,rfl,Q4 ?_ (fI [_])⟩,⟨by decide,_,rfl,Q4 ?_ (fI [_])⟩,trivial⟩
           ·exact QF (g:=(encI ·.1)) hol (-1,0)
           ·exact QF (g:=(encI ·.2)) hol (-1,0)
           ·rfl
           ·rfl)
        |(refine Q1 [5,7,11,10] (by exact rfl) ?_ ?_
          ·exact⟨.refl _,Q7 (by first|rfl|omega),Q7 (by first|rfl|omega),Q7 (by first|rfl|omega),Q7 (by first|rfl|omega),.refl _,trivial⟩
          ·refine⟨⟨by decide,_,rfl,Q4 ?_ (fI1 _)⟩,⟨by decide,_,rfl,Q4 ?_ (fI2 _)⟩,⟨by decide,_,rfl,Q4 ?_ (fI [_])⟩,⟨by decide,_,rfl,Q4 ?_ (fI [_])⟩,trivial⟩
           ·exact QF (g:=(encI ·.1)) hol (-1,0)
           ·exact QF (g:=(encI ·.2)) hol (-1,0)
           ·rfl
           ·rfl)
        |(refine Q1 [5,7,11,9] (by exact rfl) ?_ ?_
          ·exact⟨.refl _,Q7 (by first|rfl|omega),Q7 (by first|rfl|omega),Q7 (by first|rfl|omega),Q7 (by first|rfl|omega),.refl _,trivial⟩
          ·refine⟨⟨by decide,_,rfl,Q4 ?_ (fI1 _)⟩,⟨by decide,_,rfl,Q4 ?_ (fI2 _)⟩,⟨by decide,_,rfl,Q4 ?_ (fI [_])⟩,⟨by decide,_,rfl,Q4 ?_ (fI [_])⟩,trivial⟩
           ·exact QF (g:=(encI ·.1)) hol (-1,0)
           ·exact QF (g:=(encI ·.2)) hol (-1,0)
           ·rfl
           ·rfl)
      repeat' first|refine And.intro ?_ ?_|(intro h;try first|exact dzi|replace h:=cvi)
      all_goals try exact cz
      exact⟨_,rC fs (i+1) 1 (out++[(-1,0)]) [encI (i:Int)] [encI (fs.getD i default).kids],.refl _ _ _,⟨_,_,_,⟨hnx,rfl⟩,.inr (.inr ⟨[],[],_,_,⟨QY,QY,rfl,rfl⟩,rfl⟩)⟩,by omega⟩
     ·rw[YO,if_neg hc]at hnx
      repeat' first|refine And.intro ?_ ?_|(intro h;try first|exact dzi|replace h:=cvi)
      all_goals try exact cz
      all_goals(try first|((with_reducible show(_:Int)≤(_:Int));simp only[hx2,hx3,hx4,Qb,Qf,QU,Nat.zero_add];omega)|((with_reducible show(_:Int)<(_:Int));simp only[hx2,hx3,hx4,Qb,Qf,QU,Nat.zero_add];omega)|((with_reducible show(_:Nat)≤(_:Nat));simp only[hx2,hx3,hx4,ZY,List.length_set,Nat.zero_add];omega)|((with_reducible show(_:Nat)<(_:Nat));simp only[hx2,hx3,hx4,ZY,List.length_set,Nat.zero_add];omega)|((with_reducible show isC _ _ _=true);simp only[hx2,hx3,hx4,Qb,Qf,QU,Nat.zero_add];exact rfl))
      all_goals
       refine⟨_,rC fs (i+1) 0 (out++[(-1,0)]) R S,Q1 [5,7,2,3] rfl ?_ ?_,⟨_,_,_,⟨hnx,rfl⟩,.inr (.inr ⟨R,S,_,_,⟨hfR,hfS,rfl,rfl⟩,rfl⟩)⟩,by omega⟩
       ·exact⟨.refl _,Q7 (by first|rfl|omega),Q7 (by first|rfl|omega),Q7 (by first|rfl|omega),Q7 (by first|rfl|omega),.refl _,trivial⟩
       ·refine⟨⟨by decide,_,rfl,Q4 ?_ (fI1 _)⟩,⟨by decide,_,rfl,Q4 ?_ (fI2 _)⟩,⟨by decide,_,rfl,Qp hfR⟩,⟨by decide,_,rfl,Q4 ?_ hfS⟩,trivial⟩
        ·exact QF (g:=(encI ·.1)) hol (-1,0)
        ·exact QF (g:=(encI ·.2)) hol (-1,0)
        ·rfl
    |cons q t=>
     obtain⟨a,k⟩:=q
     have hx4:((↑(t.length+1):Int)-1).toNat=t.length:=by omega
     have hx1:True=True:=rfl
     have hx2:R.getD t.length []=encI a:=by rw[hR1];simp[List.getElem?_append,List.getElem?_map]
     have hx3:S.getD t.length []=encI k:=by rw[hS1];simp[List.getElem?_append,List.getElem?_map]
     have hRl:t.length<R.length:=by rw[hR1];simp
     have hSl:t.length<S.length:=by rw[hS1];simp
     have hkb:=hb1 (a,k) (List.mem_cons_self ..)
     have htl:t.length+1≤st.length:=hl1
     simp only at hkb
     rw[List.length_cons]
     by_cases hk0:k=0
     ·skip
      have hpz:X2 ((a,k)::t)=X2 t:=by rw[X2,if_pos hk0]
      repeat' first|refine And.intro ?_ ?_|(intro h;try first|exact dzi|replace h:=cvi)
      all_goals try exact cz
      all_goals(try first|((with_reducible show(_:Int)≤(_:Int));simp only[hx2,hx3,hx4,Qb,Qf,QU,Nat.zero_add];omega)|((with_reducible show(_:Nat)≤(_:Nat));simp only[hx2,hx3,hx4,ZY,List.length_set,Nat.zero_add];omega)|((with_reducible show isC _ _ _=true);simp only[hx2,hx3,hx4,Qb,Qf,QU,Nat.zero_add];exact rfl))
      refine⟨t.length,rC fs i t.length out R S,Q1 [0,1,2,3] rfl ?_ ?_,⟨t,encI a::q1,encI k::q2,⟨rfl,hpz▸hp1,by rw[hR1];simp,by rw[hS1];simp,Yg (fun x hx=>by simp[encI]at hx;subst hx;rfl) hq1,Yg (fun x hx=>by simp[encI]at hx;subst hx;rfl) hq2,fun p hp=>hb1 p (List.mem_cons_of_mem _ hp),by omega⟩,rfl⟩,by omega⟩
      ·exact⟨.refl _,.refl _,.refl _,Q7 (by first|rfl|omega),Q7 (by first|rfl|omega),.refl _,trivial⟩
      ·exact⟨⟨by decide,_,rfl,Qp (fI1 _)⟩,⟨by decide,_,rfl,Qp (fI2 _)⟩,⟨by decide,_,rfl,Qp hfR⟩,⟨by decide,_,rfl,Qp hfS⟩,trivial⟩
     ·skip
      have hpz:X2 ((a,k)::t)=(a,k)::t:=by rw[X2,if_neg hk0]
      rw[hpz]at hnx
      have hset:S.set t.length (encI (k-1))=((a,k-1)::t).reverse.map (encI ·.2)++q2:=by rw[hS1];simp[List.set_append]
      have hRq:R=((a,k-1)::t).reverse.map (encI ·.1)++q1:=by rw[hR1];simp
      have hfS2:Ql (S.set t.length (encI (k-1))):=hset▸QP (fI2 _) hq2
      by_cases hc:(fs.getD i default).kind=0∧0<(fs.getD i default).kids
      ·rw[YO,if_pos hc]at hnx
       repeat' first|refine And.intro ?_ ?_|(intro h;try first|exact dzi|replace h:=cvi)
       all_goals try exact cz
       all_goals(try first|((with_reducible show(_:Int)≤(_:Int));simp only[hx2,hx3,hx4,Qb,Qf,QU,Nat.zero_add];omega)|((with_reducible show(_:Int)<(_:Int));simp only[hx2,hx3,hx4,Qb,Qf,QU,Nat.zero_add];omega)|((with_reducible show(_:Nat)≤(_:Nat));simp only[hx2,hx3,hx4,ZY,List.length_set,Nat.zero_add];omega)|((with_reducible show(_:Nat)<(_:Nat));simp only[hx2,hx3,hx4,ZY,List.length_set,Nat.zero_add];omega)|((with_reducible show isC _ _ _=true);simp only[hx2,hx3,hx4,Qb,Qf,QU,Nat.zero_add];exact rfl))
       refine⟨rD fs i (t.length+1+1) (out++[(a,((t.length+1:Nat):Int))]) (((((i:Nat):Int),(fs.getD i default).kids)::(a,k-1)::t).reverse.map (encI ·.1)) (((((i:Nat):Int),(fs.getD i default).kids)::(a,k-1)::t).reverse.map (encI ·.2)),?_,?_⟩
       · repeat' first|refine And.intro ?_ ?_|(intro h;try first|exact dzi|replace h:=cvi)
         all_goals try exact cz
         all_goals(try first|((with_reducible show(_:Int)≤(_:Int));simp only[hx2,hx3,hx4,Qb,Qf,QU,Nat.zero_add];omega)|((with_reducible show(_:Int)<(_:Int));simp only[hx2,hx3,hx4,Qb,Qf,QU,Nat.zero_add];omega)|((with_reducible show(_:Nat)≤(_:Nat));simp only[hx2,hx3,hx4,ZY,List.length_set,Nat.zero_add];omega)|((with_reducible show(_:Nat)<(_:Nat));simp only[hx2,hx3,hx4,ZY,List.length_set,Nat.zero_add];omega)|((with_reducible show isC _ _ _=true);simp only[hx2,hx3,hx4,Qb,Qf,QU,Nat.zero_add];exact rfl))
         all_goals refine Exists.intro () ?_
         all_goals first
         |(refine Q1 [6,8,10,12] (by exact rfl) ?_ ?_
           ·exact⟨.refl _,Q7 (by first|rfl|omega),Q7 (by first|rfl|omega),Q7 (by first|rfl|omega),Q7 (by first|rfl|omega),.refl _,trivial⟩
           ·refine⟨⟨by decide,_,rfl,Q4 ?_ (fI1 _)⟩,⟨by decide,_,rfl,Q4 ?_ (fI2 _)⟩,⟨by decide,_,rfl,Q4 ?_ (fI1 _)⟩,⟨by decide,_,rfl,Q4 ?_ (fI2 _)⟩,trivial⟩
            ·show List.take i (List.drop 0 (out.map (encI ·.1)))++[[.int .i64 (asI ((R.getD (0+((↑(t.length+1):Int)-1).toNat) []).getD 0 .any))]]=_;rw[Nat.zero_add,hx4,hx2];exact QF (g:=(encI ·.1)) hol (a,((t.length+1:Nat):Int))
            ·exact QF (g:=(encI ·.2)) hol (a,((t.length+1:Nat):Int))
            ·show List.take (t.length+1) (List.drop 0 R)++[encI i]=_;rw[hRq,YA (by simp)];simp
            ·show List.take (t.length+1) (List.drop 0 (S.set (0+((↑(t.length+1):Int)-1).toNat) (Qy (S.getD (0+((↑(t.length+1):Int)-1).toNat) []) 0 [.int .i64 (asI ((S.getD (0+((↑(t.length+1):Int)-1).toNat) []).getD 0 .any)-1)])))++[encI (fs.getD i default).kids]=_;rw[Nat.zero_add,hx4,hx3,show Qy (encI k) 0 [.int .i64 (asI ((encI k).getD 0 .any)-1)]=encI (k-1) from rfl,hset,YA (by simp)];simp)
         |(refine Q1 [6,8,11,12] (by exact rfl) ?_ ?_
           ·exact⟨.refl _,Q7 (by first|rfl|omega),Q7 (by first|rfl|omega),Q7 (by first|rfl|omega),Q7 (by first|rfl|omega),.refl _,trivial⟩
           ·refine⟨⟨by decide,_,rfl,Q4 ?_ (fI1 _)⟩,⟨by decide,_,rfl,Q4 ?_ (fI2 _)⟩,⟨by decide,_,rfl,Q4 ?_ (fI1 _)⟩,⟨by decide,_,rfl,Q4 ?_ (fI2 _)⟩,trivial⟩
            ·show List.take i (List.drop 0 (out.map (encI ·.1)))++[[.int .i64 (asI ((R.getD (0+((↑(t.length+1):Int)-1).toNat) []).getD 0 .any))]]=_;rw[Nat.zero_add,hx4,hx2];exact QF (g:=(encI ·.1)) hol (a,((t.length+1:Nat):Int))
            ·exact QF (g:=(encI ·.2)) hol (a,((t.length+1:Nat):Int))
            ·show List.take (t.length+1) (List.drop 0 R)++[encI i]=_;rw[hRq,YA (by simp)];simp
            ·show List.take (t.length+1) (List.drop 0 (S.set (0+((↑(t.length+1):Int)-1).toNat) (Qy (S.getD (0+((↑(t.length+1):Int)-1).toNat) []) 0 [.int .i64 (asI ((S.getD (0+((↑(t.length+1):Int)-1).toNat) []).getD 0 .any)-1)])))++[encI (fs.getD i default).kids]=_;rw[Nat.zero_add,hx4,hx3,show Qy (encI k) 0 [.int .i64 (asI ((encI k).getD 0 .any)-1)]=encI (k-1) from rfl,hset,YA (by simp)];simp)
         |(refine Q1 [6,8,12,11] (by exact rfl) ?_ ?_
           ·exact⟨.refl _,Q7 (by first|rfl|omega),Q7 (by first|rfl|omega),Q7 (by first|rfl|omega),Q7 (by first|rfl|omega),.refl _,trivial⟩
           ·refine⟨⟨by decide,_,rfl,Q4 ?_ (fI1 _)⟩,⟨by decide,_,rfl,Q4 ?_ (fI2 _)⟩,⟨by decide,_,rfl,Q4 ?_ (fI1 _)⟩,⟨by decide,_,rfl,Q4 ?_ (fI2 _)⟩,trivial⟩
            ·show List.take i (List.drop 0 (out.map (encI ·.1)))++[[.int .i64 (asI ((R.getD (0+((↑(t.length+1):Int)-1).toNat) []).getD 0 .any))]]=_;rw[Nat.zero_add,hx4,hx2];exact QF (g:=(encI ·.1)) hol (a,((t.length+1:Nat):Int))
            ·exact QF (g:=(encI ·.2)) hol (a,((t.length+1:Nat):Int))
            ·show List.take (t.length+1) (List.drop 0 R)++[encI i]=_;rw[hRq,YA (by simp)];simp
            ·show List.take (t.length+1) (List.drop 0 (S.set (0+((↑(t.length+1):Int)-1).toNat) (Qy (S.getD (0+((↑(t.length+1):Int)-1).toNat) []) 0 [.int .i64 (asI ((S.getD (0+((↑(t.length+1):Int)-1).toNat) []).getD 0 .any)-1)])))++[encI (fs.getD i default).kids]=_;rw[Nat.zero_add,hx4,hx3,show Qy (encI k) 0 [.int .i64 (asI ((encI k).getD 0 .any)-1)]=encI (k-1) from rfl,hset,YA (by simp)];simp)
         |(refine Q1 [6,8,12,10] (by exact rfl) ?_ ?_
           ·exact⟨.refl _,Q7 (by first|rfl|omega),Q7 (by first|rfl|omega),Q7 (by first|rfl|omega),Q7 (by first|rfl|omega),.refl _,trivial⟩
           ·refine⟨⟨by decide,_,rfl,Q4 ?_ (fI1 _)⟩,⟨by decide,_,rfl,Q4 ?_ (fI2 _)⟩,⟨by decide,_,rfl,Q4 ?_ (fI1 _)⟩,⟨by decide,_,rfl,Q4 ?_ (fI2 _)⟩,trivial⟩
            ·show List.take i (List.drop 0 (out.map (encI ·.1)))++[[.int .i64 (asI ((R.getD (0+((↑(t.length+1):Int)-1).toNat) []).getD 0 .any))]]=_;rw[Nat.zero_add,hx4,hx2];exact QF (g:=(encI ·.1)) hol (a,((t.length+1:Nat):Int))
            ·exact QF (g:=(encI ·.2)) hol (a,((t.length+1:Nat):Int))
            ·show List.take (t.length+1) (List.drop 0 R)++[encI i]=_;rw[hRq,YA (by simp)];simp
            ·show List.take (t.length+1) (List.drop 0 (S.set (0+((↑(t.length+1):Int)-1).toNat) (Qy (S.getD (0+((↑(t.length+1):Int)-1).toNat) []) 0 [.int .i64 (asI ((S.getD (0+((↑(t.length+1):Int)-1).toNat) []).getD 0 .any)-1)])))++[encI (fs.getD i default).kids]=_;rw[Nat.zero_add,hx4,hx3,show Qy (encI k) 0 [.int .i64 (asI ((encI k).getD 0 .any)-1)]=encI (k-1) from rfl,hset,YA (by simp)];simp)
       repeat' first|refine And.intro ?_ ?_|(intro h;try first|exact dzi|replace h:=cvi)
       all_goals try exact cz
       exact⟨_,rC fs (i+1) (t.length+1+1) (out++[(a,((t.length+1:Nat):Int))]) (((((i:Nat):Int),(fs.getD i default).kids)::(a,k-1)::t).reverse.map (encI ·.1)) (((((i:Nat):Int),(fs.getD i default).kids)::(a,k-1)::t).reverse.map (encI ·.2)),.refl _ _ _,⟨_,_,_,⟨hnx,rfl⟩,.inr (.inr ⟨[],[],_,_,⟨QY,QY,(List.append_nil _).symm,(List.append_nil _).symm⟩,rfl⟩)⟩,by omega⟩
      ·rw[YO,if_neg hc]at hnx
       repeat' first|refine And.intro ?_ ?_|(intro h;try first|exact dzi|replace h:=cvi)
       all_goals try exact cz
       all_goals(try first|((with_reducible show(_:Int)≤(_:Int));simp only[hx2,hx3,hx4,Qb,Qf,QU,Nat.zero_add];omega)|((with_reducible show(_:Int)<(_:Int));simp only[hx2,hx3,hx4,Qb,Qf,QU,Nat.zero_add];omega)|((with_reducible show(_:Nat)≤(_:Nat));simp only[hx2,hx3,hx4,ZY,List.length_set,Nat.zero_add];omega)|((with_reducible show(_:Nat)<(_:Nat));simp only[hx2,hx3,hx4,ZY,List.length_set,Nat.zero_add];omega)|((with_reducible show isC _ _ _=true);simp only[hx2,hx3,hx4,Qb,Qf,QU,Nat.zero_add];exact rfl))
       all_goals
        refine⟨_,rC fs (i+1) (t.length+1) (out++[(a,((t.length+1:Nat):Int))]) R (S.set t.length (encI (k-1))),Q1 [6,8,2,3] rfl ?_ ?_,⟨_,_,_,⟨hnx,rfl⟩,.inr (.inr ⟨q1,q2,_,_,⟨hq1,hq2,hRq,hset⟩,rfl⟩)⟩,by omega⟩
        ·exact⟨.refl _,Q7 (by first|rfl|omega),Q7 (by first|rfl|omega),Q7 (by first|rfl|omega),Q7 (by first|rfl|omega),.refl _,trivial⟩
        ·refine⟨⟨by decide,_,rfl,Q4 ?_ (fI1 _)⟩,⟨by decide,_,rfl,Q4 ?_ (fI2 _)⟩,⟨by decide,_,rfl,Qp hfR⟩,⟨by decide,_,rfl,Q4 ?_ hfS2⟩,trivial⟩
         ·show List.take i (List.drop 0 (out.map (encI ·.1)))++[[.int .i64 (asI ((R.getD (0+((↑(t.length+1):Int)-1).toNat) []).getD 0 .any))]]=_;rw[Nat.zero_add,hx4,hx2];exact QF (g:=(encI ·.1)) hol (a,((t.length+1:Nat):Int))
         ·exact QF (g:=(encI ·.2)) hol (a,((t.length+1:Nat):Int))
         ·show S.set (0+((↑(t.length+1):Int)-1).toNat) (Qy (S.getD (0+((↑(t.length+1):Int)-1).toNat) []) 0 [.int .i64 (asI ((S.getD (0+((↑(t.length+1):Int)-1).toNat) []).getD 0 .any)-1)])=S.set t.length (encI (k-1));rw[Nat.zero_add,hx4,hx3];rfl
  · repeat' first|refine And.intro ?_ ?_|(intro h;try first|exact dz|replace h:=cv)
    all_goals try exact cz
    have hrun:=hI.run
    rw[List.drop_of_length_le (by omega),Es]at hrun
    simp only[MD,List.append_nil]at hrun
    exact⟨_,MO (out:=out) rfl rfl rfl rfl hol,_,rfl,by rw[hrun];rfl,rfl⟩
end
section
set_option maxRecDepth 100000
set_option maxHeartbeats 4000000
def S_rwalk:SpecI:=fun args K=>∃fs,args=[vF fs]∧FsOk fs∧K (.tup [vI (Q0 fs),vI (Ww fs)])
theorem IA[Syms]:Z5 Tryz.prog 40 S_rwalk:=by
 rintro args K ⟨fs,rfl,h,hk⟩
 exact⟨rfl,_,rfl,hk,fnI Qu Qs Qd Qh QJ (Nt fs h.len h.kids)⟩
end
section
set_option maxRecDepth 100000
set_option maxHeartbeats 4000000
theorem P5[Syms](fs:List Fd)(hF:FsOk fs):
 fnT Qi (Qm 40 (Zd S_rwalk) Qi) (QK fns) (QH tys) (QW plt) 100 16 [vF fs] [] 0 (fun v H _=>v=vI (Q0 fs)∧H=[]):=by
 refine⟨fs,rfl,hF,?_⟩
 repeat' first|refine And.intro ?_ ?_|(intro h;try first|exact dz|replace h:=cv)
 all_goals try exact cz
 exact⟨_,Q5 [2] rfl,_,rfl,rfl,rfl⟩
theorem FO[Syms]:Z5 Tryz.prog 16 S_par:=by
 rintro args K ⟨fs,rfl,h,hk⟩
 exact⟨rfl,_,rfl,hk,fnI Qu Qs Qd (Q6 IA Qh) QJ (P5 fs h)⟩
abbrev LS:CallT:=Qm 16 (Zd S_par) Qi
theorem BQ[Syms]:LS.ok Tryz.prog:=Q6 FO Qh
end
section
set_option maxRecDepth 100000
set_option maxHeartbeats 4000000
theorem Nv[Syms](fs:List Fd)(field:Int)(hF:FsOk fs):
 fnT Qi LS (QK fns) (QH tys) (QW plt) 100 19 [vF fs,.int .i64 field] [] 0 (fun v H _=>v= .str (QS fs (Q0 fs) field)∧H=[]):=by
 have hl:=hF.len
 have hpl:=Y0 fs
 repeat' first|refine And.intro ?_ ?_|(intro h;try simp only[decide_eq_true_eq,decide_eq_false_iff_not,Int.not_lt,Int.not_le,Int.toNat_natCast,↓reduceIte,Nat.reduceAdd,reduceCtorEq,Int.reduceLT,Int.lt_irrefl,gt_iff_lt,not_true_eq_false,not_false_eq_true,Bool.not_true,Bool.not_false,decide_false,decide_true,Int.reduceLE,Int.reduceSub,Bool.false_eq_true,Bool.true_eq_false,Nat.reduceEqDiff,Nat.one_ne_zero,Nat.reduceLT,and_self,and_true,true_and,Int.natCast_zero,Int.cast_ofNat_Int,List.length_nil,ne_eq,Decidable.not_not]at h)
 all_goals(try first|exact PlanIs.mk (by kernel_rfl)|omega|(show(_:Int)*((32:Nat):Int)≤_;omega)|(show(_:Int)*((8:Nat):Int)≤_;omega)|(show(_:Int)*((24:Nat):Int)≤_;omega)|exact rfl|exact Nat.le_of_ble_eq_true rfl|(show(_:Nat)≤(_:Nat);simp;done)|(show(_:Nat)≤(_:Nat);simp;omega))
 ·refine⟨_,.refl _ _ _,_,rfl,?_,rfl⟩
  exact congrArg AVal.str (a₂:=QS fs (Q0 fs) field) (by rw[QS,if_pos (.inl (by omega))])
 ·refine⟨_,.refl _ _ _,_,rfl,?_,rfl⟩
  exact congrArg AVal.str (a₂:=QS fs (Q0 fs) field) (by rw[QS,if_pos (.inr (by omega))])
 ·rename_i h1 h2
  refine⟨fs,rfl,hF,?_⟩
  have hlt:=V8 fs
  have h3:=hlt field.toNat (by omega)
  have hn:=hF.name
  generalize Q0 fs=ps at *
  repeat' first|refine And.intro ?_ ?_|(intro h;try simp only[decide_eq_true_eq,decide_eq_false_iff_not,Int.not_lt,Int.not_le,Int.toNat_natCast,↓reduceIte,Nat.reduceAdd,reduceCtorEq,Int.reduceLT,Int.lt_irrefl,gt_iff_lt,not_true_eq_false,not_false_eq_true,Bool.not_true,Bool.not_false,decide_false,decide_true,Int.reduceLE,Int.reduceSub,Bool.false_eq_true,Bool.true_eq_false,Nat.reduceEqDiff,Nat.one_ne_zero,Nat.reduceLT,and_self,and_true,true_and,Int.natCast_zero,Int.cast_ofNat_Int,List.length_nil,ne_eq,Decidable.not_not]at h)
  all_goals(try first|exact PlanIs.mk (by kernel_rfl)|omega|(show(_:Int)*((32:Nat):Int)≤_;omega)|(show(_:Int)*((8:Nat):Int)≤_;omega)|(show(_:Int)*((24:Nat):Int)≤_;omega)|exact rfl|exact Nat.le_of_ble_eq_true rfl|(show(_:Nat)≤(_:Nat);simp;done)|(show(_:Nat)≤(_:Nat);simp;omega))
  refine⟨fun n s=>∃(k:Int) (m:Nat) (out:List UInt8),(n=(k+1).toNat∧ -1≤k∧k<fs.length∧k≤m∧upK fs ps m k out=QS fs ps field∧out.length≤2000*(1001-k).toNat)∧s=⟨[(0,vF fs),(1,.int .i64 field),(5,vI ps),(6,.str out),(7,.int .i64 k)],[],0⟩,
   ⟨_,⟨[(0,vF fs),(1,.int .i64 field),(5,vI ps),(6,.str (fs.getD field.toNat default).name),(7,.int .i64 (ps.getD field.toNat 0))],[],0⟩,U3 [0,1,5,6,7],_,fs.length,_,⟨rfl,by omega,by omega,by omega,?_,?_⟩,rfl⟩,?_⟩
  ·rw[QS,if_neg (by omega)]
  ·have:=hn field.toNat;omega
  rintro n s ⟨k,m,out,⟨rfl,hk1,hk2,hkm,hup,hol⟩,rfl⟩
  repeat' first|refine And.intro ?_ ?_|(intro h;try simp only[decide_eq_true_eq,decide_eq_false_iff_not,Int.not_lt,Int.not_le,Int.toNat_natCast,↓reduceIte,Nat.reduceAdd,reduceCtorEq,Int.reduceLT,Int.lt_irrefl,gt_iff_lt,not_true_eq_false,not_false_eq_true,Bool.not_true,Bool.not_false,decide_false,decide_true,Int.reduceLE,Int.reduceSub,Bool.false_eq_true,Bool.true_eq_false,Nat.reduceEqDiff,Nat.one_ne_zero,Nat.reduceLT,and_self,and_true,true_and,Int.natCast_zero,Int.cast_ofNat_Int,List.length_nil,ne_eq,Decidable.not_not]at h)
  all_goals(try first|exact PlanIs.mk (by kernel_rfl)|omega|(show(_:Int)*((32:Nat):Int)≤_;omega)|(show(_:Int)*((8:Nat):Int)≤_;omega)|(show(_:Int)*((24:Nat):Int)≤_;omega)|exact rfl|exact Nat.le_of_ble_eq_true rfl|(show(_:Nat)≤(_:Nat);simp;done)|(show(_:Nat)≤(_:Nat);simp;omega))
  ·show(fs.getD k.toNat default).name.length+1≤_
   have:=hn k.toNat
   omega
  ·show((fs.getD k.toNat default).name++[46]).length+out.length≤_
   have:=hn k.toNat
   simp only[List.length_append,List.length_cons,List.length_nil]
   omega
  ·obtain⟨m,rfl⟩:∃m',m=m'+1:=⟨m-1,by omega⟩
   have hk0:0<k:=‹_›
   have h4:=hlt k.toNat (by omega)
   have h5:=hn k.toNat
   rw[upK,if_pos hk0]at hup
   refine⟨_,⟨[(0,vF fs),(1,.int .i64 field),(5,vI ps),(6,.str ((fs.getD k.toNat default).name++[46]++out)),(7,.int .i64 (ps.getD k.toNat 0))],[],0⟩,U3 [0,1,5,6,7],⟨_,m,_,⟨rfl,by omega,by omega,by omega,hup,?_⟩,rfl⟩,by omega⟩
   simp only[List.length_append,List.length_cons,List.length_nil]
   omega
  ·refine⟨_,.refl _ _ _,_,rfl,?_,rfl⟩
   exact congrArg AVal.str (by rw[←hup,FF ‹_›])
theorem Gx[Syms]:Z5 Tryz.prog 19 S_path:=by
 rintro args K ⟨fs,field,rfl,h,hk⟩
 exact⟨rfl,_,rfl,hk,fnI Qu Qs Qd BQ QJ (Nv fs field h)⟩
end
end Go.Proofs.YtekipcaifckffaaGreat
