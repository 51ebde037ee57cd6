/-
  The document's walk over a shape:of each field its group,and its depth. The document's 'walk':what is asked of it,and what it answers. The document's 'Parents':it answers as the program's. The document's 'Leaves':by climbing from each leaf.
-/
import Derived.Test.YtajieadpaeggcaaL3
import Derived.Test.YtajieadpaeggcaaSxOne
import Derived.Test.YtajieadpaeggcaaL8
set_option linter.unusedVariables false
set_option linter.unusedSimpArgs false
namespace Go.Proofs.Ytajieadpaeggcaa
open Go Go.Av
section
set_option maxRecDepth 100000
set_option maxHeartbeats 4000000
def rE(fs:List Fd)(i:Nat)(p d o l:AVal):Env:=[(0,vF fs),(4,p),(5,d),(6,o),(7,l),(8,.int .i64 i)]
def sI(k n:Nat):AVal:=.slice k 0 n 1 none
def rA(fs:List Fd)(i:Nat):St:=⟨rE fs i .nils .nils .nils .nils,[],0⟩
def rB(fs:List Fd)(i:Nat)(out:List (Int×Int)):St:=⟨rE fs i (sI 0 i) (sI 1 i) .nils .nils,[(0,some (.cells (out.map (Qk ·.1)) false)),(1,some (.cells (out.map (Qk ·.2)) false))],2⟩
def rC(fs:List Fd)(i n:Nat)(out:List (Int×Int))(R S:List (List AVal)):St:=
 ⟨rE fs i (sI 0 i) (sI 1 i) (sI 2 n) (sI 3 n),[(0,some (.cells (out.map (Qk ·.1)) false)),(1,some (.cells (out.map (Qk ·.2)) false)),(2,some (.cells R false)),(3,some (.cells S false))],4⟩
def rD(fs:List Fd)(i n:Nat)(out:List (Int×Int))(R S:List (List AVal)):St:=
 ⟨rE fs i (sI 0 (i+1)) (sI 1 (i+1)) (sI 2 n) (sI 3 n),[(0,some (.cells (out.map (Qk ·.1)) false)),(1,some (.cells (out.map (Qk ·.2)) false)),(2,some (.cells R false)),(3,some (.cells S false))],4⟩
structure RInv(fs:List Fd)(i:Nat)(st:Stk)(out:List (Int×Int)):Prop where
 le:i≤fs.length
 len:out.length=i
 run:out++M1 (fs.drop i) i st=M1 fs 0 []
 pos:∀p∈st,0≤p.2∧p.2≤9223372036854775807
 sl:st.length≤i
def rSt(fs:List Fd)(i:Nat)(st:Stk)(out:List (Int×Int))(s:St):Prop:=
 (i=0∧st=[]∧out=[]∧s=rA fs i)∨(st=[]∧s=rB fs i out)∨(∃j1 j2 R S,(Qj j1∧Qj j2∧R=st.reverse.map (Qk ·.1)++j1∧S=st.reverse.map (Qk ·.2)++j2)∧s=rC fs i st.length out R S)
theorem L4{fs:List Fd}{i:Nat}{st:Stk}(h:i<fs.length):M1 (fs.drop i) i st=(U1 (Xb st),((Xb st).length:Int))::M1 (fs.drop (i+1)) (i+1) (YL i (fs.getD i default) (Yf (Xb st))):=by
 rw[Fl h];rfl
theorem D0:∀st:Stk,(Xb st).length≤st.length
 |[]=>Nat.le_refl _
 |(a,k)::t=>by rw[Xb];split<;>simp;have:=D0 t;omega
theorem Kt{fs:List Fd}{i:Nat}{st:Stk}{out:List (Int×Int)}(hk:∀i,(fs.getD i default).kids≤9223372036854775807)(h:RInv fs i st out)(hi:i<fs.length):
 RInv fs (i+1) (YL i (fs.getD i default) (Yf (Xb st))) (out++[(U1 (Xb st),((Xb st).length:Int))]):=by
 have hn:Us st:=fun p hp=>(h.pos p hp).1
 refine⟨hi,by simp[h.len],?_,fun p hp=>⟨G2 hn i _ p hp,?_⟩,?_⟩
 ·rw[←h.run,L4 hi];simp
 ·have hd:∀p∈Yf (Xb st),p.2≤9223372036854775807:=by
   intro p hp
   cases hq:Xb st with
   |nil=>rw[hq]at hp;simp[Yf]at hp
   |cons q t=>
    obtain⟨a,k⟩:=q
    have hm:∀r∈(a,k)::t,r.2≤9223372036854775807:=fun r hr=>(h.pos r (FZ (by rw[hq];exact hr))).2
    rw[hq]at hp
    simp only[Yf,List.mem_cons]at hp
    rcases hp with rfl|hp
    ·have:=hm (a,k) (List.mem_cons_self ..);simp only at this ⊢;omega
    ·exact hm p (List.mem_cons_of_mem _ hp)
  unfold YL at hp
  split at hp
  ·rcases List.mem_cons.1 hp with rfl|hp
   ·exact hk i
   ·exact hd p hp
  ·exact hd p hp
 ·have h1:=D0 st
  have h2:(Yf (Xb st)).length≤(Xb st).length:=by cases Xb st<;>simp[Yf]
  have:=h.sl
  unfold YL
  split<;>simp<;>omega
theorem fI1(l:List (Int×Int)):Qj (l.map (Qk ·.1)):=XR (fun a x hx=>by simp[Qk]at hx;subst hx;rfl) l
theorem fI2(l:List (Int×Int)):Qj (l.map (Qk ·.2)):=XR (fun a x hx=>by simp[Qk]at hx;subst hx;rfl) l
theorem QR{g:Int×Int→List AVal}{l:List (Int×Int)}{i:Nat}(hl:l.length=i)(x:Int×Int):List.take i (List.drop 0 (l.map g))++[g x]=(l++[x]).map g:=by
 rw[List.drop_zero,List.take_of_length_le (by rw[List.length_map];omega)];simp
theorem DY[Syms]{na N:Nat}{e:Env}{H:Heap}{nx:Nat}(h2:(e.get 2).isZ 1=true)(h3:(e.get 3).isZ 1=true):Reb na N ⟨e,H,nx⟩ ⟨[(3,vI []),(2,vI [])],[],nx⟩:=by
 refine(Xs (k:=2) (y:=vI []) fun ι v hv=>.vt _ _ _ _ (hv.isZ h2)).trans ((Xs (e:=(2,vI [])::e) (k:=3) (y:=vI []) fun ι v hv=>.vt _ _ _ _ (RelV.isZ (ι:=ι) (sz:=1) h3 (show RelV ι (e.get 3) v from hv))).trans (Jp (fun j=>?_) (fun m b h=>by rw[Heap.get_nil]at h;cases h)))
 rw[Env.get_cons,Env.get_cons,Env.get_cons,Env.get_cons,Env.get_nil]
 cases Nat.beq j 3<;>cases Nat.beq j 2<;>simp
theorem M9[Syms]{na N:Nat}{e:Env}{H:Heap}{nx i:Nat}{out:List (Int×Int)}(h2:e.get 2=sI 0 i)(h3:e.get 3=sI 1 i)(hb0:H.get 0=some (.cells (out.map (Qk ·.1)) false))(hb1:H.get 1=some (.cells (out.map (Qk ·.2)) false))(hol:out.length=i):
 Reb na N ⟨e,H,nx⟩ ⟨[(3,vI (out.map (·.2))),(2,vI (out.map (·.1)))],[],nx⟩:=by
 refine(YP (enc:=Qk) (k:=2) 0 (l:=out.map (·.1)) [(3,sI 1 i)] [(1,some (.cells (out.map (Qk ·.2)) false))] h2 hb0 (fI1 _) ?_ ?_ ?_ ?_).trans (YP (enc:=Qk) (k:=3) 0 (l:=out.map (·.2)) [(2,vI (out.map (·.1)))] [] rfl rfl (fI2 _) ?_ ?_ ?_ ?_)
 ·rw[List.take_of_length_le (by simp;omega),List.map_map];rfl
 ·simp;omega
 ·intro p hp;simp only[List.mem_singleton]at hp;subst hp;exact⟨show(3:Nat)≠2 by decide,h3⟩
 ·intro m b h
  rw[Heap.get_cons,Heap.get_nil]at h
  by_cases hm:m=1
  ·subst hm;rw[Nat.beq_refl]at h;rw[Heap.get_set_ne _ _ (by decide),hb1];exact h
  ·rw[QL hm]at h;cases h
 ·rw[List.take_of_length_le (by simp;omega),List.map_map];rfl
 ·simp;omega
 ·intro p hp;simp only[List.mem_singleton]at hp;subst hp;exact⟨show(2:Nat)≠3 by decide,rfl⟩
 ·intro m b h;rw[Heap.get_nil]at h;cases h
theorem YC{st:Stk}{q:List (List AVal)}{g:Int×Int→List AVal}{n:Nat}(hn:n=st.length):List.take n (List.drop 0 (st.reverse.map g++q))=st.reverse.map g:=by
 rw[List.drop_zero,hn,show st.length=(st.reverse.map g).length by simp];exact List.take_left
theorem L2[Syms](fs:List Fd)(hl:fs.length<1000)(hk:∀i,(fs.getD i default).kids≤9223372036854775807):
 fnT Q9 Q9 (QN fns) (Qz tys) (QV plt) 100 78 [vF fs] [] 0 (fun v H _=>v= .tup [vI (Qu fs),vI (XW fs)]∧H=[]):=by
 refine⟨fun n s=>∃i st out,(RInv fs i st out∧n=fs.length-i)∧rSt fs i st out s,⟨_,rA fs 0,Q0 [] rfl ?_ ?_,0,[],[],⟨⟨by omega,rfl,rfl,by simp,by simp⟩,rfl⟩,.inl ⟨rfl,rfl,rfl,rfl⟩⟩,?_⟩
 ·exact⟨.refl _,.refl _,.refl _,.refl _,.refl _,.refl _,trivial⟩
 ·exact trivial
 rintro n s ⟨i,st,out,⟨hI,rfl⟩,(⟨h0,rfl,rfl,rfl⟩|⟨rfl,rfl⟩|⟨j1,j2,R,S,⟨hj1,hj2,hR,hS⟩,rfl⟩)⟩
 ·have hle:=hI.le
  have hol:=hI.len
  by_cases hin:i<fs.length
  ·have hnx:=Kt hk hI hin
   by_cases hc:(fs.getD i default).kind=0∧0<(fs.getD i default).kids
   ·rw[YL,if_pos hc,show Xb []=[] from rfl]at hnx
    repeat' first|refine And.intro ?_ ?_|(intro h;try first|exact dz|replace h:=cv)
    all_goals try exact cz
    refine X1 ?_
    repeat' first|refine And.intro ?_ ?_|(intro h;try first|exact dz|replace h:=cv)
    all_goals try exact cz
    all_goals(try exact NoSel.mk (by kernel_rfl))
    refine⟨rD fs i 1 ([]++[(-1,0)]) [Qk ((i:Nat):Int)] [Qk (fs.getD i default).kids],?_,?_⟩
    · repeat' first|refine And.intro ?_ ?_|(intro h;try first|exact dz|replace h:=cv)
      all_goals try exact cz
      all_goals(try exact Apart.mk (by kernel_rfl))
      all_goals refine Exists.intro () ?_
      all_goals first
      |(refine Q0 [1,3,5,7] (by exact rfl) ?_ ?_
        ·exact⟨.refl _,Q3 (by first|rfl|omega),Q3 (by first|rfl|omega),.refl _,.refl _,.refl _,trivial⟩
        ·exact⟨⟨by decide,_,rfl,Q1 (by subst h0;rfl) (fI1 _)⟩,⟨by decide,_,rfl,Q1 (by subst h0;rfl) (fI2 _)⟩,⟨by decide,_,rfl,Q1 rfl (fI [_])⟩,⟨by decide,_,rfl,Q1 rfl (fI [_])⟩,trivial⟩)
      |(refine Q0 [1,3,6,7] (by exact rfl) ?_ ?_
        ·exact⟨.refl _,Q3 (by first|rfl|omega),Q3 (by first|rfl|omega),.refl _,.refl _,.refl _,trivial⟩
        ·exact⟨⟨by decide,_,rfl,Q1 (by subst h0;rfl) (fI1 _)⟩,⟨by decide,_,rfl,Q1 (by subst h0;rfl) (fI2 _)⟩,⟨by decide,_,rfl,Q1 rfl (fI [_])⟩,⟨by decide,_,rfl,Q1 rfl (fI [_])⟩,trivial⟩)
      |(refine Q0 [1,3,7,6] (by exact rfl) ?_ ?_
        ·exact⟨.refl _,Q3 (by first|rfl|omega),Q3 (by first|rfl|omega),.refl _,.refl _,.refl _,trivial⟩
        ·exact⟨⟨by decide,_,rfl,Q1 (by subst h0;rfl) (fI1 _)⟩,⟨by decide,_,rfl,Q1 (by subst h0;rfl) (fI2 _)⟩,⟨by decide,_,rfl,Q1 rfl (fI [_])⟩,⟨by decide,_,rfl,Q1 rfl (fI [_])⟩,trivial⟩)
      |(refine Q0 [1,3,7,5] (by exact rfl) ?_ ?_
        ·exact⟨.refl _,Q3 (by first|rfl|omega),Q3 (by first|rfl|omega),.refl _,.refl _,.refl _,trivial⟩
        ·exact⟨⟨by decide,_,rfl,Q1 (by subst h0;rfl) (fI1 _)⟩,⟨by decide,_,rfl,Q1 (by subst h0;rfl) (fI2 _)⟩,⟨by decide,_,rfl,Q1 rfl (fI [_])⟩,⟨by decide,_,rfl,Q1 rfl (fI [_])⟩,trivial⟩)
    repeat' first|refine And.intro ?_ ?_|(intro h;try first|exact dz|replace h:=cv)
    all_goals try exact cz
    exact⟨_,rC fs (i+1) 1 ([]++[(-1,0)]) [Qk ((i:Nat):Int)] [Qk (fs.getD i default).kids],.refl _ _ _,⟨_,_,_,⟨hnx,rfl⟩,.inr (.inr ⟨[],[],_,_,⟨QS,QS,rfl,rfl⟩,rfl⟩)⟩,by omega⟩
   ·rw[YL,if_neg hc,show Xb []=[] from rfl]at hnx
    repeat' first|refine And.intro ?_ ?_|(intro h;try first|exact dz|replace h:=cv)
    all_goals try exact cz
    refine X1 ?_
    repeat' first|refine And.intro ?_ ?_|(intro h;try first|exact dz|replace h:=cv)
    all_goals try exact cz
    all_goals
     refine⟨_,rB fs (i+1) ([]++[(-1,0)]),Q0 [1,3] rfl ?_ ?_,⟨_,_,_,⟨hnx,rfl⟩,.inr (.inl ⟨rfl,rfl⟩)⟩,by omega⟩
     ·exact⟨.refl _,Q3 (by first|rfl|omega),Q3 (by first|rfl|omega),.refl _,.refl _,.refl _,trivial⟩
     ·exact⟨⟨by decide,_,rfl,Q1 (by subst h0;rfl) (fI1 _)⟩,⟨by decide,_,rfl,Q1 (by subst h0;rfl) (fI2 _)⟩,trivial⟩
  · repeat' first|refine And.intro ?_ ?_|(intro h;try first|exact dz|replace h:=cv)
    all_goals try exact cz
    have h0:fs=[]:=List.eq_nil_of_length_eq_zero (by omega)
    subst h0
    exact⟨_,DY rfl rfl,_,rfl,rfl,rfl⟩
 ·have hle:=hI.le
  have hol:=hI.len
  by_cases hin:i<fs.length
  ·have hnx:=Kt hk hI hin
   by_cases hc:(fs.getD i default).kind=0∧0<(fs.getD i default).kids
   ·rw[YL,if_pos hc,show Xb []=[] from rfl]at hnx
    repeat' first|refine And.intro ?_ ?_|(intro h;try first|exact dz|replace h:=cv)
    all_goals try exact cz
    refine X1 ?_
    repeat' first|refine And.intro ?_ ?_|(intro h;try first|exact dz|replace h:=cv)
    all_goals try exact cz
    all_goals(try exact NoSel.mk (by kernel_rfl))
    refine⟨rD fs i 1 (out++[(-1,0)]) [Qk ((i:Nat):Int)] [Qk (fs.getD i default).kids],?_,?_⟩
    · repeat' first|refine And.intro ?_ ?_|(intro h;try first|exact dz|replace h:=cv)
      all_goals try exact cz
      all_goals(try exact Apart.mk (by kernel_rfl))
      all_goals refine Exists.intro () ?_
      all_goals first
      |(refine Q0 [3,5,7,9] (by exact rfl) ?_ ?_
        ·exact⟨.refl _,Q3 (by first|rfl|omega),Q3 (by first|rfl|omega),.refl _,.refl _,.refl _,trivial⟩
        ·exact⟨⟨by decide,_,rfl,Q1 (QR (g:=(Qk ·.1)) hol (-1,0)) (fI1 _)⟩,⟨by decide,_,rfl,Q1 (QR (g:=(Qk ·.2)) hol (-1,0)) (fI2 _)⟩,⟨by decide,_,rfl,Q1 rfl (fI [_])⟩,⟨by decide,_,rfl,Q1 rfl (fI [_])⟩,trivial⟩)
      |(refine Q0 [3,5,8,9] (by exact rfl) ?_ ?_
        ·exact⟨.refl _,Q3 (by first|rfl|omega),Q3 (by first|rfl|omega),.refl _,.refl _,.refl _,trivial⟩
        ·exact⟨⟨by decide,_,rfl,Q1 (QR (g:=(Qk ·.1)) hol (-1,0)) (fI1 _)⟩,⟨by decide,_,rfl,Q1 (QR (g:=(Qk ·.2)) hol (-1,0)) (fI2 _)⟩,⟨by decide,_,rfl,Q1 rfl (fI [_])⟩,⟨by decide,_,rfl,Q1 rfl (fI [_])⟩,trivial⟩)
      |(refine Q0 [3,5,9,8] (by exact rfl) ?_ ?_
        ·exact⟨.refl _,Q3 (by first|rfl|omega),Q3 (by first|rfl|omega),.refl _,.refl _,.refl _,trivial⟩
        ·exact⟨⟨by decide,_,rfl,Q1 (QR (g:=(Qk ·.1)) hol (-1,0)) (fI1 _)⟩,⟨by decide,_,rfl,Q1 (QR (g:=(Qk ·.2)) hol (-1,0)) (fI2 _)⟩,⟨by decide,_,rfl,Q1 rfl (fI [_])⟩,⟨by decide,_,rfl,Q1 rfl (fI [_])⟩,trivial⟩)
      |(refine Q0 [3,5,9,7] (by exact rfl) ?_ ?_
        ·exact⟨.refl _,Q3 (by first|rfl|omega),Q3 (by first|rfl|omega),.refl _,.refl _,.refl _,trivial⟩
        ·exact⟨⟨by decide,_,rfl,Q1 (QR (g:=(Qk ·.1)) hol (-1,0)) (fI1 _)⟩,⟨by decide,_,rfl,Q1 (QR (g:=(Qk ·.2)) hol (-1,0)) (fI2 _)⟩,⟨by decide,_,rfl,Q1 rfl (fI [_])⟩,⟨by decide,_,rfl,Q1 rfl (fI [_])⟩,trivial⟩)
    repeat' first|refine And.intro ?_ ?_|(intro h;try first|exact dz|replace h:=cv)
    all_goals try exact cz
    exact⟨_,rC fs (i+1) 1 (out++[(-1,0)]) [Qk ((i:Nat):Int)] [Qk (fs.getD i default).kids],.refl _ _ _,⟨_,_,_,⟨hnx,rfl⟩,.inr (.inr ⟨[],[],_,_,⟨QS,QS,rfl,rfl⟩,rfl⟩)⟩,by omega⟩
   ·rw[YL,if_neg hc,show Xb []=[] from rfl]at hnx
    repeat' first|refine And.intro ?_ ?_|(intro h;try first|exact dz|replace h:=cv)
    all_goals try exact cz
    refine X1 ?_
    repeat' first|refine And.intro ?_ ?_|(intro h;try first|exact dz|replace h:=cv)
    all_goals try exact cz
    all_goals
     refine⟨_,rB fs (i+1) (out++[(-1,0)]),Q0 [3,5] rfl ?_ ?_,⟨_,_,_,⟨hnx,rfl⟩,.inr (.inl ⟨rfl,rfl⟩)⟩,by omega⟩
     ·exact⟨.refl _,Q3 (by first|rfl|omega),Q3 (by first|rfl|omega),.refl _,.refl _,.refl _,trivial⟩
     ·exact⟨⟨by decide,_,rfl,Q1 (QR (g:=(Qk ·.1)) hol (-1,0)) (fI1 _)⟩,⟨by decide,_,rfl,Q1 (QR (g:=(Qk ·.2)) hol (-1,0)) (fI2 _)⟩,trivial⟩
  · repeat' first|refine And.intro ?_ ?_|(intro h;try first|exact dz|replace h:=cv)
    all_goals try exact cz
    have hrun:=hI.run
    rw[List.drop_of_length_le (by omega),BQ]at hrun
    simp only[M1,List.append_nil]at hrun
    exact⟨_,M9 (out:=out) rfl rfl rfl rfl hol,_,rfl,by rw[hrun];rfl,rfl⟩
 ·have hle:=hI.le
  have hol:=hI.len
  have hsl:=hI.sl
  have hfR:Qj R:=hR▸Qr (fI1 _) hj1
  have hfS:Qj S:=hS▸Qr (fI2 _) hj2
  by_cases hin:i<fs.length
  · repeat' first|refine And.intro ?_ ?_|(intro h;try first|exact dz|replace h:=cv)
    all_goals try exact cz
    refine⟨fun m s=>∃(st1:Stk) (q1 q2:List (List AVal)),(m=st1.length∧Xb st1=Xb st∧R=st1.reverse.map (Qk ·.1)++q1∧S=st1.reverse.map (Qk ·.2)++q2∧Qj q1∧Qj q2∧(∀p∈st1,0≤p.2∧p.2≤9223372036854775807)∧st1.length≤st.length)∧s=rC fs i st1.length out R S,⟨_,rC fs i st.length out R S,BZ [0,4,5,6,7,8],st,j1,j2,⟨rfl,rfl,hR,hS,hj1,hj2,hI.pos,Nat.le_refl _⟩,rfl⟩,?_⟩
    rintro m s ⟨st1,q1,q2,⟨rfl,hp1,hR1,hS1,hq1,hq2,hb1,hl1⟩,rfl⟩
    have hnx:=Kt hk hI hin
    rw[←hp1]at hnx
    clear hI hj1 hj2 hR hS
    cases st1 with
    |nil=>
     have hx1:True=True:=rfl
     have hx2:True=True:=rfl
     have hx3:True=True:=rfl
     have hx4:True=True:=rfl
     by_cases hc:(fs.getD i default).kind=0∧0<(fs.getD i default).kids
     ·rw[YL,if_pos hc]at hnx
      repeat' first|refine And.intro ?_ ?_|(intro h;try first|exact dzi|replace h:=cvi)
      all_goals try exact cz
      all_goals(try first|((with_reducible show(_:Int)≤(_:Int));simp only[hx2,hx3,hx4,Q8,Qf,Z2,Nat.zero_add];omega)|((with_reducible show(_:Int)<(_:Int));simp only[hx2,hx3,hx4,Q8,Qf,Z2,Nat.zero_add];omega)|((with_reducible show(_:Nat)≤(_:Nat));simp only[hx2,hx3,hx4,X6,List.length_set,Nat.zero_add];omega)|((with_reducible show(_:Nat)<(_:Nat));simp only[hx2,hx3,hx4,X6,List.length_set,Nat.zero_add];omega)|((with_reducible show isC _ _ _=true);simp only[hx2,hx3,hx4,Q8,Qf,Z2,Nat.zero_add];exact rfl))
      refine⟨rD fs i 1 (out++[(-1,0)]) [Qk (i:Int)] [Qk (fs.getD i default).kids],?_,?_⟩
      · repeat' first|refine And.intro ?_ ?_|(intro h;try first|exact dzi|replace h:=cvi)
        all_goals try exact cz
        all_goals(try first|((with_reducible show(_:Int)≤(_:Int));simp only[hx2,hx3,hx4,Q8,Qf,Z2,Nat.zero_add];omega)|((with_reducible show(_:Int)<(_:Int));simp only[hx2,hx3,hx4,Q8,Qf,Z2,Nat.zero_add];omega)|((with_reducible show(_:Nat)≤(_:Nat));simp only[hx2,hx3,hx4,X6,List.length_set,Nat.zero_add];omega)|((with_reducible show(_:Nat)<(_:Nat));simp only[hx2,hx3,hx4,X6,List.length_set,Nat.zero_add];omega)|((with_reducible show isC _ _ _=true);simp only[hx2,hx3,hx4,Q8,Qf,Z2,Nat.zero_add];exact rfl))
        all_goals refine Exists.intro () ?_
        all_goals first
        |(refine Q0 [5,7,9,11] (by exact rfl) ?_ ?_
          ·exact⟨.refl _,Q3 (by first|rfl|omega),Q3 (by first|rfl|omega),Q3 (by first|rfl|omega),Q3 (by first|rfl|omega),.refl _,trivial⟩
          ·refine⟨⟨by decide,_,rfl,Q1 ?_ (fI1 _)⟩,⟨by decide,_,rfl,Q1 ?_ (fI2 _)⟩,⟨by decide,_,rfl,Q1 ?_ (fI [_])⟩,⟨by decide,_,rfl,Q1 ?_ (fI [_])⟩,trivial⟩
           ·exact QR (g:=(Qk ·.1)) hol (-1,0)
           ·exact QR (g:=(Qk ·.2)) hol (-1,0)
           ·rfl
           ·rfl)
        |(refine Q0 [5,7,10,11] (by exact rfl) ?_ ?_
          ·exact⟨.refl _,Q3 (by first|rfl|omega),Q3 (by first|rfl|omega),Q3 (by first|rfl|omega),Q3 (by first|rfl|omega),.refl _,trivial⟩
          ·refine⟨⟨by decide,_,rfl,Q1 ?_ (fI1 _)⟩,⟨by decide,_,rfl,Q1 ?_ (fI2 _)⟩,⟨by decide,_,rfl,Q1 ?_ (fI [_])⟩,⟨by decide,_,rfl,Q1 ?_ (fI [_])⟩,trivial⟩
           ·exact QR (g:=(Qk ·.1)) hol (-1,0)
           ·exact QR (g:=(Qk ·.2)) hol (-1,0)
           ·rfl
           ·rfl)
        |(refine Q0 [5,7,11,10] (by exact rfl) ?_ ?_
          ·exact⟨.refl _,Q3 (by first|rfl|omega),Q3 (by first|rfl|omega),Q3 (by first|rfl|omega),Q3 (by first|rfl|omega),.refl _,trivial⟩
          ·refine⟨⟨by decide,_,rfl,Q1 ?_ (fI1 _)⟩,⟨by decide,_,rfl,Q1 ?_ (fI2 _)⟩,⟨by decide,_,rfl,Q1 ?_ (fI [_])⟩,⟨by decide,_,rfl,Q1 ?_ (fI [_])⟩,trivial⟩
           ·exact QR (g:=(Qk ·.1)) hol (-1,0)
           ·exact QR (g:=(Qk ·.2)) hol (-1,0)
           ·rfl
           ·rfl)
        |(refine Q0 [5,7,11,9] (by exact rfl) ?_ ?_
          ·exact⟨.refl _,Q3 (by first|rfl|omega),Q3 (by first|rfl|omega),Q3 (by first|rfl|omega),Q3 (by first|rfl|omega),.refl _,trivial⟩
          ·refine⟨⟨by decide,_,rfl,Q1 ?_ (fI1 _)⟩,⟨by decide,_,rfl,Q1 ?_ (fI2 _)⟩,⟨by decide,_,rfl,Q1 ?_ (fI [_])⟩,⟨by decide,_,rfl,Q1 ?_ (fI [_])⟩,trivial⟩
           ·exact QR (g:=(Qk ·.1)) hol (-1,0)
           ·exact QR (g:=(Qk ·.2)) hol (-1,0)
           ·rfl
           ·rfl)
      repeat' first|refine And.intro ?_ ?_|(intro h;try first|exact dzi|replace h:=cvi)
      all_goals try exact cz
      exact⟨_,rC fs (i+1) 1 (out++[(-1,0)]) [Qk (i:Int)] [Qk (fs.getD i default).kids],.refl _ _ _,⟨_,_,_,⟨hnx,rfl⟩,.inr (.inr ⟨[],[],_,_,⟨QS,QS,rfl,rfl⟩,rfl⟩)⟩,by omega⟩
     ·rw[YL,if_neg hc]at hnx
      repeat' first|refine And.intro ?_ ?_|(intro h;try first|exact dzi|replace h:=cvi)
      all_goals try exact cz
      all_goals(try first|((with_reducible show(_:Int)≤(_:Int));simp only[hx2,hx3,hx4,Q8,Qf,Z2,Nat.zero_add];omega)|((with_reducible show(_:Int)<(_:Int));simp only[hx2,hx3,hx4,Q8,Qf,Z2,Nat.zero_add];omega)|((with_reducible show(_:Nat)≤(_:Nat));simp only[hx2,hx3,hx4,X6,List.length_set,Nat.zero_add];omega)|((with_reducible show(_:Nat)<(_:Nat));simp only[hx2,hx3,hx4,X6,List.length_set,Nat.zero_add];omega)|((with_reducible show isC _ _ _=true);simp only[hx2,hx3,hx4,Q8,Qf,Z2,Nat.zero_add];exact rfl))
      all_goals
       refine⟨_,rC fs (i+1) 0 (out++[(-1,0)]) R S,Q0 [5,7,2,3] rfl ?_ ?_,⟨_,_,_,⟨hnx,rfl⟩,.inr (.inr ⟨R,S,_,_,⟨hfR,hfS,rfl,rfl⟩,rfl⟩)⟩,by omega⟩
       ·exact⟨.refl _,Q3 (by first|rfl|omega),Q3 (by first|rfl|omega),Q3 (by first|rfl|omega),Q3 (by first|rfl|omega),.refl _,trivial⟩
       ·refine⟨⟨by decide,_,rfl,Q1 ?_ (fI1 _)⟩,⟨by decide,_,rfl,Q1 ?_ (fI2 _)⟩,⟨by decide,_,rfl,Qd hfR⟩,⟨by decide,_,rfl,Q1 ?_ hfS⟩,trivial⟩
        ·exact QR (g:=(Qk ·.1)) hol (-1,0)
        ·exact QR (g:=(Qk ·.2)) hol (-1,0)
        ·rfl
    |cons q t=>
     obtain⟨a,k⟩:=q
     have hx4:((↑(t.length+1):Int)-1).toNat=t.length:=by omega
     have hx1:True=True:=rfl
     have hx2:R.getD t.length []=Qk a:=by rw[hR1];simp[List.getElem?_append,List.getElem?_map]
     have hx3:S.getD t.length []=Qk k:=by rw[hS1];simp[List.getElem?_append,List.getElem?_map]
     have hRl:t.length<R.length:=by rw[hR1];simp
     have hSl:t.length<S.length:=by rw[hS1];simp
     have hkb:=hb1 (a,k) (List.mem_cons_self ..)
     have htl:t.length+1≤st.length:=hl1
     simp only at hkb
     rw[List.length_cons]
     by_cases hk0:k=0
     ·skip
      have hpz:Xb ((a,k)::t)=Xb t:=by rw[Xb,if_pos hk0]
      repeat' first|refine And.intro ?_ ?_|(intro h;try first|exact dzi|replace h:=cvi)
      all_goals try exact cz
      all_goals(try first|((with_reducible show(_:Int)≤(_:Int));simp only[hx2,hx3,hx4,Q8,Qf,Z2,Nat.zero_add];omega)|((with_reducible show(_:Nat)≤(_:Nat));simp only[hx2,hx3,hx4,X6,List.length_set,Nat.zero_add];omega)|((with_reducible show isC _ _ _=true);simp only[hx2,hx3,hx4,Q8,Qf,Z2,Nat.zero_add];exact rfl))
      refine⟨t.length,rC fs i t.length out R S,Q0 [0,1,2,3] rfl ?_ ?_,⟨t,Qk a::q1,Qk k::q2,⟨rfl,hpz▸hp1,by rw[hR1];simp,by rw[hS1];simp,Y7 (fun x hx=>by simp[Qk]at hx;subst hx;rfl) hq1,Y7 (fun x hx=>by simp[Qk]at hx;subst hx;rfl) hq2,fun p hp=>hb1 p (List.mem_cons_of_mem _ hp),by omega⟩,rfl⟩,by omega⟩
      ·exact⟨.refl _,.refl _,.refl _,Q3 (by first|rfl|omega),Q3 (by first|rfl|omega),.refl _,trivial⟩
      ·exact⟨⟨by decide,_,rfl,Qd (fI1 _)⟩,⟨by decide,_,rfl,Qd (fI2 _)⟩,⟨by decide,_,rfl,Qd hfR⟩,⟨by decide,_,rfl,Qd hfS⟩,trivial⟩
     ·skip
      have hpz:Xb ((a,k)::t)=(a,k)::t:=by rw[Xb,if_neg hk0]
      rw[hpz]at hnx
      have hset:S.set t.length (Qk (k-1))=((a,k-1)::t).reverse.map (Qk ·.2)++q2:=by rw[hS1];simp[List.set_append]
      have hRq:R=((a,k-1)::t).reverse.map (Qk ·.1)++q1:=by rw[hR1];simp
      have hfS2:Qj (S.set t.length (Qk (k-1))):=hset▸Qr (fI2 _) hq2
      by_cases hc:(fs.getD i default).kind=0∧0<(fs.getD i default).kids
      ·rw[YL,if_pos hc]at hnx
       repeat' first|refine And.intro ?_ ?_|(intro h;try first|exact dzi|replace h:=cvi)
       all_goals try exact cz
       all_goals(try first|((with_reducible show(_:Int)≤(_:Int));simp only[hx2,hx3,hx4,Q8,Qf,Z2,Nat.zero_add];omega)|((with_reducible show(_:Int)<(_:Int));simp only[hx2,hx3,hx4,Q8,Qf,Z2,Nat.zero_add];omega)|((with_reducible show(_:Nat)≤(_:Nat));simp only[hx2,hx3,hx4,X6,List.length_set,Nat.zero_add];omega)|((with_reducible show(_:Nat)<(_:Nat));simp only[hx2,hx3,hx4,X6,List.length_set,Nat.zero_add];omega)|((with_reducible show isC _ _ _=true);simp only[hx2,hx3,hx4,Q8,Qf,Z2,Nat.zero_add];exact rfl))
       refine⟨rD fs i (t.length+1+1) (out++[(a,((t.length+1:Nat):Int))]) (((((i:Nat):Int),(fs.getD i default).kids)::(a,k-1)::t).reverse.map (Qk ·.1)) (((((i:Nat):Int),(fs.getD i default).kids)::(a,k-1)::t).reverse.map (Qk ·.2)),?_,?_⟩
       · repeat' first|refine And.intro ?_ ?_|(intro h;try first|exact dzi|replace h:=cvi)
         all_goals try exact cz
         all_goals(try first|((with_reducible show(_:Int)≤(_:Int));simp only[hx2,hx3,hx4,Q8,Qf,Z2,Nat.zero_add];omega)|((with_reducible show(_:Int)<(_:Int));simp only[hx2,hx3,hx4,Q8,Qf,Z2,Nat.zero_add];omega)|((with_reducible show(_:Nat)≤(_:Nat));simp only[hx2,hx3,hx4,X6,List.length_set,Nat.zero_add];omega)|((with_reducible show(_:Nat)<(_:Nat));simp only[hx2,hx3,hx4,X6,List.length_set,Nat.zero_add];omega)|((with_reducible show isC _ _ _=true);simp only[hx2,hx3,hx4,Q8,Qf,Z2,Nat.zero_add];exact rfl))
         all_goals refine Exists.intro () ?_
         all_goals first
         |(refine Q0 [6,8,10,12] (by exact rfl) ?_ ?_
           ·exact⟨.refl _,Q3 (by first|rfl|omega),Q3 (by first|rfl|omega),Q3 (by first|rfl|omega),Q3 (by first|rfl|omega),.refl _,trivial⟩
           ·refine⟨⟨by decide,_,rfl,Q1 ?_ (fI1 _)⟩,⟨by decide,_,rfl,Q1 ?_ (fI2 _)⟩,⟨by decide,_,rfl,Q1 ?_ (fI1 _)⟩,⟨by decide,_,rfl,Q1 ?_ (fI2 _)⟩,trivial⟩
            ·show List.take i (List.drop 0 (out.map (Qk ·.1)))++[[.int .i64 (asI ((R.getD (0+((↑(t.length+1):Int)-1).toNat) []).getD 0 .any))]]=_;rw[Nat.zero_add,hx4,hx2];exact QR (g:=(Qk ·.1)) hol (a,((t.length+1:Nat):Int))
            ·exact QR (g:=(Qk ·.2)) hol (a,((t.length+1:Nat):Int))
            ·show List.take (t.length+1) (List.drop 0 R)++[Qk i]=_;rw[hRq,YC (by simp)];simp
            ·show List.take (t.length+1) (List.drop 0 (S.set (0+((↑(t.length+1):Int)-1).toNat) (Qy (S.getD (0+((↑(t.length+1):Int)-1).toNat) []) 0 [.int .i64 (asI ((S.getD (0+((↑(t.length+1):Int)-1).toNat) []).getD 0 .any)-1)])))++[Qk (fs.getD i default).kids]=_;rw[Nat.zero_add,hx4,hx3,show Qy (Qk k) 0 [.int .i64 (asI ((Qk k).getD 0 .any)-1)]=Qk (k-1) from rfl,hset,YC (by simp)];simp)
         |(refine Q0 [6,8,11,12] (by exact rfl) ?_ ?_
           ·exact⟨.refl _,Q3 (by first|rfl|omega),Q3 (by first|rfl|omega),Q3 (by first|rfl|omega),Q3 (by first|rfl|omega),.refl _,trivial⟩
           ·refine⟨⟨by decide,_,rfl,Q1 ?_ (fI1 _)⟩,⟨by decide,_,rfl,Q1 ?_ (fI2 _)⟩,⟨by decide,_,rfl,Q1 ?_ (fI1 _)⟩,⟨by decide,_,rfl,Q1 ?_ (fI2 _)⟩,trivial⟩
            ·show List.take i (List.drop 0 (out.map (Qk ·.1)))++[[.int .i64 (asI ((R.getD (0+((↑(t.length+1):Int)-1).toNat) []).getD 0 .any))]]=_;rw[Nat.zero_add,hx4,hx2];exact QR (g:=(Qk ·.1)) hol (a,((t.length+1:Nat):Int))
            ·exact QR (g:=(Qk ·.2)) hol (a,((t.length+1:Nat):Int))
            ·show List.take (t.length+1) (List.drop 0 R)++[Qk i]=_;rw[hRq,YC (by simp)];simp
            ·show List.take (t.length+1) (List.drop 0 (S.set (0+((↑(t.length+1):Int)-1).toNat) (Qy (S.getD (0+((↑(t.length+1):Int)-1).toNat) []) 0 [.int .i64 (asI ((S.getD (0+((↑(t.length+1):Int)-1).toNat) []).getD 0 .any)-1)])))++[Qk (fs.getD i default).kids]=_;rw[Nat.zero_add,hx4,hx3,show Qy (Qk k) 0 [.int .i64 (asI ((Qk k).getD 0 .any)-1)]=Qk (k-1) from rfl,hset,YC (by simp)];simp)
         |(refine Q0 [6,8,12,11] (by exact rfl) ?_ ?_
           ·exact⟨.refl _,Q3 (by first|rfl|omega),Q3 (by first|rfl|omega),Q3 (by first|rfl|omega),Q3 (by first|rfl|omega),.refl _,trivial⟩
           ·refine⟨⟨by decide,_,rfl,Q1 ?_ (fI1 _)⟩,⟨by decide,_,rfl,Q1 ?_ (fI2 _)⟩,⟨by decide,_,rfl,Q1 ?_ (fI1 _)⟩,⟨by decide,_,rfl,Q1 ?_ (fI2 _)⟩,trivial⟩
            ·show List.take i (List.drop 0 (out.map (Qk ·.1)))++[[.int .i64 (asI ((R.getD (0+((↑(t.length+1):Int)-1).toNat) []).getD 0 .any))]]=_;rw[Nat.zero_add,hx4,hx2];exact QR (g:=(Qk ·.1)) hol (a,((t.length+1:Nat):Int))
            ·exact QR (g:=(Qk ·.2)) hol (a,((t.length+1:Nat):Int))
            ·show List.take (t.length+1) (List.drop 0 R)++[Qk i]=_;rw[hRq,YC (by simp)];simp
            ·show List.take (t.length+1) (List.drop 0 (S.set (0+((↑(t.length+1):Int)-1).toNat) (Qy (S.getD (0+((↑(t.length+1):Int)-1).toNat) []) 0 [.int .i64 (asI ((S.getD (0+((↑(t.length+1):Int)-1).toNat) []).getD 0 .any)-1)])))++[Qk (fs.getD i default).kids]=_;rw[Nat.zero_add,hx4,hx3,show Qy (Qk k) 0 [.int .i64 (asI ((Qk k).getD 0 .any)-1)]=Qk (k-1) from rfl,hset,YC (by simp)];simp)
         |(refine Q0 [6,8,12,10] (by exact rfl) ?_ ?_
           ·exact⟨.refl _,Q3 (by first|rfl|omega),Q3 (by first|rfl|omega),Q3 (by first|rfl|omega),Q3 (by first|rfl|omega),.refl _,trivial⟩
           ·refine⟨⟨by decide,_,rfl,Q1 ?_ (fI1 _)⟩,⟨by decide,_,rfl,Q1 ?_ (fI2 _)⟩,⟨by decide,_,rfl,Q1 ?_ (fI1 _)⟩,⟨by decide,_,rfl,Q1 ?_ (fI2 _)⟩,trivial⟩
            ·show List.take i (List.drop 0 (out.map (Qk ·.1)))++[[.int .i64 (asI ((R.getD (0+((↑(t.length+1):Int)-1).toNat) []).getD 0 .any))]]=_;rw[Nat.zero_add,hx4,hx2];exact QR (g:=(Qk ·.1)) hol (a,((t.length+1:Nat):Int))
            ·exact QR (g:=(Qk ·.2)) hol (a,((t.length+1:Nat):Int))
            ·show List.take (t.length+1) (List.drop 0 R)++[Qk i]=_;rw[hRq,YC (by simp)];simp
            ·show List.take (t.length+1) (List.drop 0 (S.set (0+((↑(t.length+1):Int)-1).toNat) (Qy (S.getD (0+((↑(t.length+1):Int)-1).toNat) []) 0 [.int .i64 (asI ((S.getD (0+((↑(t.length+1):Int)-1).toNat) []).getD 0 .any)-1)])))++[Qk (fs.getD i default).kids]=_;rw[Nat.zero_add,hx4,hx3,show Qy (Qk k) 0 [.int .i64 (asI ((Qk k).getD 0 .any)-1)]=Qk (k-1) from rfl,hset,YC (by simp)];simp)
       repeat' first|refine And.intro ?_ ?_|(intro h;try first|exact dzi|replace h:=cvi)
       all_goals try exact cz
       exact⟨_,rC fs (i+1) (t.length+1+1) (out++[(a,((t.length+1:Nat):Int))]) (((((i:Nat):Int),(fs.getD i default).kids)::(a,k-1)::t).reverse.map (Qk ·.1)) (((((i:Nat):Int),(fs.getD i default).kids)::(a,k-1)::t).reverse.map (Qk ·.2)),.refl _ _ _,⟨_,_,_,⟨hnx,rfl⟩,.inr (.inr ⟨[],[],_,_,⟨QS,QS,(List.append_nil _).symm,(List.append_nil _).symm⟩,rfl⟩)⟩,by omega⟩
      ·rw[YL,if_neg hc]at hnx
       repeat' first|refine And.intro ?_ ?_|(intro h;try first|exact dzi|replace h:=cvi)
       all_goals try exact cz
       all_goals(try first|((with_reducible show(_:Int)≤(_:Int));simp only[hx2,hx3,hx4,Q8,Qf,Z2,Nat.zero_add];omega)|((with_reducible show(_:Int)<(_:Int));simp only[hx2,hx3,hx4,Q8,Qf,Z2,Nat.zero_add];omega)|((with_reducible show(_:Nat)≤(_:Nat));simp only[hx2,hx3,hx4,X6,List.length_set,Nat.zero_add];omega)|((with_reducible show(_:Nat)<(_:Nat));simp only[hx2,hx3,hx4,X6,List.length_set,Nat.zero_add];omega)|((with_reducible show isC _ _ _=true);simp only[hx2,hx3,hx4,Q8,Qf,Z2,Nat.zero_add];exact rfl))
       all_goals
        refine⟨_,rC fs (i+1) (t.length+1) (out++[(a,((t.length+1:Nat):Int))]) R (S.set t.length (Qk (k-1))),Q0 [6,8,2,3] rfl ?_ ?_,⟨_,_,_,⟨hnx,rfl⟩,.inr (.inr ⟨q1,q2,_,_,⟨hq1,hq2,hRq,hset⟩,rfl⟩)⟩,by omega⟩
        ·exact⟨.refl _,Q3 (by first|rfl|omega),Q3 (by first|rfl|omega),Q3 (by first|rfl|omega),Q3 (by first|rfl|omega),.refl _,trivial⟩
        ·refine⟨⟨by decide,_,rfl,Q1 ?_ (fI1 _)⟩,⟨by decide,_,rfl,Q1 ?_ (fI2 _)⟩,⟨by decide,_,rfl,Qd hfR⟩,⟨by decide,_,rfl,Q1 ?_ hfS2⟩,trivial⟩
         ·show List.take i (List.drop 0 (out.map (Qk ·.1)))++[[.int .i64 (asI ((R.getD (0+((↑(t.length+1):Int)-1).toNat) []).getD 0 .any))]]=_;rw[Nat.zero_add,hx4,hx2];exact QR (g:=(Qk ·.1)) hol (a,((t.length+1:Nat):Int))
         ·exact QR (g:=(Qk ·.2)) hol (a,((t.length+1:Nat):Int))
         ·show S.set (0+((↑(t.length+1):Int)-1).toNat) (Qy (S.getD (0+((↑(t.length+1):Int)-1).toNat) []) 0 [.int .i64 (asI ((S.getD (0+((↑(t.length+1):Int)-1).toNat) []).getD 0 .any)-1)])=S.set t.length (Qk (k-1));rw[Nat.zero_add,hx4,hx3];rfl
  · repeat' first|refine And.intro ?_ ?_|(intro h;try first|exact dz|replace h:=cv)
    all_goals try exact cz
    have hrun:=hI.run
    rw[List.drop_of_length_le (by omega),BQ]at hrun
    simp only[M1,List.append_nil]at hrun
    exact⟨_,M9 (out:=out) rfl rfl rfl rfl hol,_,rfl,by rw[hrun];rfl,rfl⟩
end
section
set_option maxRecDepth 100000
set_option maxHeartbeats 4000000
def S_rwalk:SpecI:=fun args K=>∃fs,args=[vF fs]∧FsOk fs∧K (.tup [vI (Qu fs),vI (XW fs)])
theorem H5[Syms]:Zi Try.prog 78 S_rwalk:=by
 rintro args K ⟨fs,rfl,h,hk⟩
 exact⟨rfl,_,rfl,hk,fnI Qp Qq Q5 Qb QJ (L2 fs h.len h.kids)⟩
end
section
set_option maxRecDepth 100000
set_option maxHeartbeats 4000000
theorem NE[Syms](fs:List Fd)(hF:FsOk fs):
 fnT Q9 (Qe 78 (Xw S_rwalk) Q9) (QN fns) (Qz tys) (QV plt) 100 48 [vF fs] [] 0 (fun v H _=>v=vI (Qu fs)∧H=[]):=by
 refine⟨fs,rfl,hF,?_⟩
 repeat' first|refine And.intro ?_ ?_|(intro h;try first|exact dz|replace h:=cv)
 all_goals try exact cz
 exact⟨_,Q4 [2] rfl,_,rfl,rfl,rfl⟩
theorem L5[Syms]:Zi Try.prog 48 S_par:=by
 rintro args K ⟨fs,rfl,h,hk⟩
 exact⟨rfl,_,rfl,hk,fnI Qp Qq Q5 (Qm H5 Qb) QJ (NE fs h)⟩
abbrev Np:CallT:=Qe 48 (Xw S_par) Q9
theorem Iz[Syms]:Np.ok Try.prog:=Qm L5 Qb
end
section
set_option maxRecDepth 100000
set_option maxHeartbeats 4000000
def rlE(fs:List Fd)(ps:List Int)(i:Nat)(o:AVal):Env:=[(0,vF fs),(3,vI ps),(4,o),(5,.int .i64 i)]
def rlA(fs:List Fd)(ps:List Int)(i:Nat):St:=⟨rlE fs ps i .nils,[],0⟩
def rlB(fs:List Fd)(ps:List Int)(i:Nat):St:=⟨rlE fs ps i (.slice 0 0 (Z7 fs ps i).length 4 none),[(0,some (.cells ((Z7 fs ps i).map Zt) false))],1⟩
def clA(fs:List Fd)(ps:List Int)(i:Nat)(x:Lf)(k:Int):St:=⟨rlE fs ps i .nils++[(6,.ptr 0 0 0),(7,.int .i64 k)],[(0,some (.cells [Zt x] false))],1⟩
def clB(fs:List Fd)(ps:List Int)(i:Nat)(x:Lf)(k:Int):St:=⟨rlE fs ps i (.slice 0 0 (Z7 fs ps i).length 4 none)++[(6,.ptr 1 0 0),(7,.int .i64 k)],[(0,some (.cells ((Z7 fs ps i).map Zt) false)),(1,some (.cells [Zt x] false))],2⟩
theorem HP{a b:Lf}(h1:a.field=b.field)(h2:a.r=b.r)(h3:a.d=b.d)(h4:a.kind=b.kind):a=b:=by cases a;cases b;simp_all
theorem CK[Syms](fs:List Fd)(hF:FsOk fs):
 fnT Q9 Np (QN fns) (Qz tys) (QV plt) 100 21 [vF fs] [] 0 (fun v H _=>v=vL (QP fs)∧H=[]):=by
 have hl:=hF.len
 refine⟨fs,rfl,hF,?_⟩
 have hpl:=W5 fs
 have ha:=U0 fs
 unfold QP
 generalize Qu fs=ps at *
 refine⟨fun m s=>∃i:Nat,(i≤fs.length∧m=fs.length-i)∧((Z7 fs ps i=[]∧s=rlA fs ps i)∨s=rlB fs ps i),⟨_,rlA fs ps 0,Q4 [0,3,4,5] rfl,0,⟨by omega,rfl⟩,.inl ⟨rfl,rfl⟩⟩,?_⟩
 rintro m s ⟨i,⟨hi,rfl⟩,(⟨h0,rfl⟩|rfl)⟩
 ·have hol:=Zs fs ps i
  by_cases hin:i<fs.length
  ·by_cases hk:(fs.getD i default).kind=0
   · repeat' first|refine And.intro ?_ ?_|(intro h;try first|exact dz|replace h:=cv)
     all_goals try exact cz
     exact⟨_,rlA fs ps (i+1),Q4 [0,3,4,5] rfl,⟨i+1,⟨by omega,rfl⟩,.inl ⟨by rw[Q7,if_neg (fun h=>h hk)];exact h0,rfl⟩⟩,by omega⟩
   · repeat' first|refine And.intro ?_ ?_|(intro h;try first|exact dz|replace h:=cv)
     all_goals try exact cz
     have hq:=WL (fs:=fs) ha fs.length (Nat.le_refl _) i hin
     have hL:mkL fs ps (Qh fs ps i) i=(Qh fs ps fs.length).getD i default:=(YD fs ps hin).symm
     have hR:upR fs ps fs.length i=(mkL fs ps (Qh fs ps i) i).r:=by rw[upR,if_pos (by omega),hL];rfl
     have hD:upD fs ps fs.length i=(mkL fs ps (Qh fs ps i) i).d:=by rw[upD,if_pos (by omega),hL];rfl
     rw[←hL]at hq
     have hf0:(mkL fs ps (Qh fs ps i) i).field=i:=rfl
     have hf3:(mkL fs ps (Qh fs ps i) i).kind=(fs.getD i default).kind:=rfl
     have hl1:(Z7 fs ps (i+1)).length=(Z7 fs ps i).length+1:=by rw[Q7,if_pos hk,List.length_append];rfl
     have hl2:Z7 fs ps (i+1)=Z7 fs ps i++[mkL fs ps (Qh fs ps i) i]:=by rw[Q7,if_pos hk]
     generalize mkL fs ps (Qh fs ps i) i=L at *
     refine⟨fun m s=>∃(k r d:Int),(m=(k+1).toNat∧ -1≤k∧k≤i∧r+upR fs ps fs.length k=L.r∧d+upD fs ps fs.length k=L.d∧0≤r∧r≤i-k∧0≤d∧d≤i-k)∧s=clA fs ps i ⟨i,r,d,(fs.getD i default).kind⟩ k,⟨_,clA fs ps i ⟨i,0,0,(fs.getD i default).kind⟩ i,Q0 [0] rfl ?_ ?_,i,0,0,⟨rfl,by omega,by omega,by omega,by omega,by omega,by omega,by omega,by omega⟩,rfl⟩,?_⟩
     ·exact⟨.refl _,.refl _,.refl _,.refl _,.refl _,.refl _,trivial⟩
     ·exact⟨⟨by decide,_,rfl,Q1 rfl (fL [_])⟩,trivial⟩
     rintro m s ⟨k,r,d,⟨rfl,hk1,hk2,hr1,hd1,hr0,hr2,hd0,hd2⟩,rfl⟩
     by_cases hk0:0≤k
     ·obtain⟨k,rfl⟩:=Int.eq_ofNat_of_zero_le hk0
      have hs1:=FK (fs:=fs) ha (k:=k) (by omega)
      have hs2:=FL (fs:=fs) ha (k:=k) (by omega)
      have hq2:=ha k (by omega)
      rw[hs1]at hr1
      rw[hs2]at hd1
      repeat' first|refine And.intro ?_ ?_|(intro h;try first|exact dz|replace h:=cv)
      all_goals try exact cz
      all_goals(try first|(show(-9223372036854775808:Int)≤r+1;omega)|(show r+1≤(9223372036854775807:Int);omega)|(show(-9223372036854775808:Int)≤d+1;omega)|(show d+1≤(9223372036854775807:Int);omega))
      ·rw[if_pos (by assumption)]at hr1
       rw[if_pos (by assumption)]at hd1
       refine⟨_,clA fs ps i ⟨i,r+1,d+1,(fs.getD i default).kind⟩ (ps.getD k 0),Q0 [0] rfl ?_ ?_,⟨_,_,_,⟨rfl,by omega,by omega,by omega,by omega,by omega,by omega,by omega,by omega⟩,rfl⟩,by omega⟩
       ·exact⟨.refl _,.refl _,.refl _,.refl _,.refl _,.refl _,trivial⟩
       ·exact⟨⟨by decide,_,rfl,Q1 rfl (fL [_])⟩,trivial⟩
      ·rw[if_neg (by assumption)]at hr1
       rw[if_pos (by assumption)]at hd1
       refine⟨_,clA fs ps i ⟨i,r,d+1,(fs.getD i default).kind⟩ (ps.getD k 0),Q0 [0] rfl ?_ ?_,⟨_,_,_,⟨rfl,by omega,by omega,by omega,by omega,by omega,by omega,by omega,by omega⟩,rfl⟩,by omega⟩
       ·exact⟨.refl _,.refl _,.refl _,.refl _,.refl _,.refl _,trivial⟩
       ·exact⟨⟨by decide,_,rfl,Q1 rfl (fL [_])⟩,trivial⟩
      ·rw[if_neg (by assumption)]at hr1
       rw[if_neg (fun hh=>hh (by assumption))]at hd1
       refine⟨_,clA fs ps i ⟨i,r,d,(fs.getD i default).kind⟩ (ps.getD k 0),Q0 [0] rfl ?_ ?_,⟨_,_,_,⟨rfl,by omega,by omega,by omega,by omega,by omega,by omega,by omega,by omega⟩,rfl⟩,by omega⟩
       ·exact⟨.refl _,.refl _,.refl _,.refl _,.refl _,.refl _,trivial⟩
       ·exact⟨⟨by decide,_,rfl,Q1 rfl (fL [_])⟩,trivial⟩
     ·have hu1:upR fs ps fs.length k=0:=by rw[upR,if_neg hk0]
      have hu2:upD fs ps fs.length k=0:=by rw[upD,if_neg hk0]
      have hxL:(⟨i,r,d,(fs.getD i default).kind⟩:Lf)=L:=HP hf0.symm (by show r=L.r;omega) (by show d=L.d;omega) hf3.symm
      repeat' first|refine And.intro ?_ ?_|(intro h;try first|exact dz|replace h:=cv)
      all_goals try exact cz
      refine⟨_,rlB fs ps (i+1),Q0 [2] rfl ?_ ?_,⟨i+1,⟨by omega,rfl⟩,.inr rfl⟩,by omega⟩
      ·exact⟨.refl _,.refl _,Q3 (by rw[hl1];rw[h0];rfl),.refl _,trivial⟩
      ·refine⟨⟨by decide,_,rfl,Q1 ?_ (fL _)⟩,trivial⟩
       rw[hl2,h0,←hxL];rfl
  · repeat' first|refine And.intro ?_ ?_|(intro h;try first|exact dz|replace h:=cv)
    all_goals try exact cz
    obtain rfl:i=fs.length:=by omega
    exact⟨_,V1 (k:=2) 4 Zt default rfl,_,rfl,by rw[h0];rfl,rfl⟩
 ·have hol:=Zs fs ps i
  by_cases hin:i<fs.length
  ·by_cases hk:(fs.getD i default).kind=0
   · repeat' first|refine And.intro ?_ ?_|(intro h;try first|exact dz|replace h:=cv)
     all_goals try exact cz
     refine⟨_,rlB fs ps (i+1),Q0 [0] rfl ?_ ?_,⟨i+1,⟨by omega,rfl⟩,.inr rfl⟩,by omega⟩
     ·exact⟨.refl _,.refl _,Q3 (by rw[Q7,if_neg (fun h=>h hk)]),.refl _,trivial⟩
     ·exact⟨⟨by decide,_,rfl,Q1 (by rw[Q7,if_neg (fun h=>h hk)]) (fL _)⟩,trivial⟩
   · repeat' first|refine And.intro ?_ ?_|(intro h;try first|exact dz|replace h:=cv)
     all_goals try exact cz
     have hq:=WL (fs:=fs) ha fs.length (Nat.le_refl _) i hin
     have hL:mkL fs ps (Qh fs ps i) i=(Qh fs ps fs.length).getD i default:=(YD fs ps hin).symm
     have hR:upR fs ps fs.length i=(mkL fs ps (Qh fs ps i) i).r:=by rw[upR,if_pos (by omega),hL];rfl
     have hD:upD fs ps fs.length i=(mkL fs ps (Qh fs ps i) i).d:=by rw[upD,if_pos (by omega),hL];rfl
     rw[←hL]at hq
     have hf0:(mkL fs ps (Qh fs ps i) i).field=i:=rfl
     have hf3:(mkL fs ps (Qh fs ps i) i).kind=(fs.getD i default).kind:=rfl
     have hl1:(Z7 fs ps (i+1)).length=(Z7 fs ps i).length+1:=by rw[Q7,if_pos hk,List.length_append];rfl
     have hl2:Z7 fs ps (i+1)=Z7 fs ps i++[mkL fs ps (Qh fs ps i) i]:=by rw[Q7,if_pos hk]
     generalize mkL fs ps (Qh fs ps i) i=L at *
     refine⟨fun m s=>∃(k r d:Int),(m=(k+1).toNat∧ -1≤k∧k≤i∧r+upR fs ps fs.length k=L.r∧d+upD fs ps fs.length k=L.d∧0≤r∧r≤i-k∧0≤d∧d≤i-k)∧s=clB fs ps i ⟨i,r,d,(fs.getD i default).kind⟩ k,⟨_,clB fs ps i ⟨i,0,0,(fs.getD i default).kind⟩ i,Q0 [0,1] rfl ?_ ?_,i,0,0,⟨rfl,by omega,by omega,by omega,by omega,by omega,by omega,by omega,by omega⟩,rfl⟩,?_⟩
     ·exact⟨.refl _,.refl _,.refl _,.refl _,.refl _,.refl _,trivial⟩
     ·exact⟨⟨by decide,_,rfl,Qd (fL _)⟩,⟨by decide,_,rfl,Q1 rfl (fL [_])⟩,trivial⟩
     rintro m s ⟨k,r,d,⟨rfl,hk1,hk2,hr1,hd1,hr0,hr2,hd0,hd2⟩,rfl⟩
     by_cases hk0:0≤k
     ·obtain⟨k,rfl⟩:=Int.eq_ofNat_of_zero_le hk0
      have hs1:=FK (fs:=fs) ha (k:=k) (by omega)
      have hs2:=FL (fs:=fs) ha (k:=k) (by omega)
      have hq2:=ha k (by omega)
      rw[hs1]at hr1
      rw[hs2]at hd1
      repeat' first|refine And.intro ?_ ?_|(intro h;try first|exact dz|replace h:=cv)
      all_goals try exact cz
      all_goals(try first|(show(-9223372036854775808:Int)≤r+1;omega)|(show r+1≤(9223372036854775807:Int);omega)|(show(-9223372036854775808:Int)≤d+1;omega)|(show d+1≤(9223372036854775807:Int);omega))
      ·rw[if_pos (by assumption)]at hr1
       rw[if_pos (by assumption)]at hd1
       refine⟨_,clB fs ps i ⟨i,r+1,d+1,(fs.getD i default).kind⟩ (ps.getD k 0),Q0 [0,1] rfl ?_ ?_,⟨_,_,_,⟨rfl,by omega,by omega,by omega,by omega,by omega,by omega,by omega,by omega⟩,rfl⟩,by omega⟩
       ·exact⟨.refl _,.refl _,.refl _,.refl _,.refl _,.refl _,trivial⟩
       ·exact⟨⟨by decide,_,rfl,Qd (fL _)⟩,⟨by decide,_,rfl,Q1 rfl (fL [_])⟩,trivial⟩
      ·rw[if_neg (by assumption)]at hr1
       rw[if_pos (by assumption)]at hd1
       refine⟨_,clB fs ps i ⟨i,r,d+1,(fs.getD i default).kind⟩ (ps.getD k 0),Q0 [0,1] rfl ?_ ?_,⟨_,_,_,⟨rfl,by omega,by omega,by omega,by omega,by omega,by omega,by omega,by omega⟩,rfl⟩,by omega⟩
       ·exact⟨.refl _,.refl _,.refl _,.refl _,.refl _,.refl _,trivial⟩
       ·exact⟨⟨by decide,_,rfl,Qd (fL _)⟩,⟨by decide,_,rfl,Q1 rfl (fL [_])⟩,trivial⟩
      ·rw[if_neg (by assumption)]at hr1
       rw[if_neg (fun hh=>hh (by assumption))]at hd1
       refine⟨_,clB fs ps i ⟨i,r,d,(fs.getD i default).kind⟩ (ps.getD k 0),Q0 [0,1] rfl ?_ ?_,⟨_,_,_,⟨rfl,by omega,by omega,by omega,by omega,by omega,by omega,by omega,by omega⟩,rfl⟩,by omega⟩
       ·exact⟨.refl _,.refl _,.refl _,.refl _,.refl _,.refl _,trivial⟩
       ·exact⟨⟨by decide,_,rfl,Qd (fL _)⟩,⟨by decide,_,rfl,Q1 rfl (fL [_])⟩,trivial⟩
     ·have hu1:upR fs ps fs.length k=0:=by rw[upR,if_neg hk0]
      have hu2:upD fs ps fs.length k=0:=by rw[upD,if_neg hk0]
      have hxL:(⟨i,r,d,(fs.getD i default).kind⟩:Lf)=L:=HP hf0.symm (by show r=L.r;omega) (by show d=L.d;omega) hf3.symm
      repeat' first|refine And.intro ?_ ?_|(intro h;try first|exact dz|replace h:=cv)
      all_goals try exact cz
      refine⟨_,rlB fs ps (i+1),Q0 [3] rfl ?_ ?_,⟨i+1,⟨by omega,rfl⟩,.inr rfl⟩,by omega⟩
      ·exact⟨.refl _,.refl _,Q3 (by rw[hl1]),.refl _,trivial⟩
      ·refine⟨⟨by decide,_,rfl,Q1 ?_ (fL _)⟩,trivial⟩
       rw[hl2,List.map_append,←hxL];show List.take _ (List.drop 0 ((Z7 fs ps i).map Zt))++[_]=_;rw[List.drop_zero,List.take_of_length_le (by rw[List.length_map];exact Nat.le_refl _)];rfl
  · repeat' first|refine And.intro ?_ ?_|(intro h;try first|exact dz|replace h:=cv)
    all_goals try exact cz
    obtain rfl:i=fs.length:=by omega
    exact⟨_,YQ (enc:=Zt) (k:=2) default (l:=Z7 fs ps fs.length) rfl rfl (fL _) (List.take_of_length_le (by simp)) (by simp),_,rfl,rfl,rfl⟩
theorem DZ[Syms]:Zi Try.prog 21 S_leaves:=by
 rintro args K ⟨fs,rfl,h,hk⟩
 exact⟨rfl,_,rfl,hk,fnI Qp Qq Q5 Iz QJ (CK fs h)⟩
end
end Go.Proofs.Ytajieadpaeggcaa
