/-
  A striping:the cells of what is not there. The document's walk over a shape:of each field its group,and its depth. The document's 'walk':what is asked of it,and what it answers. The document's 'Parents':it answers as the program's.
-/
import Derived.Test.YtcpikannlnmafaaL10
import Derived.Test.YtcpikannlnmafaaL4
import Derived.Test.YtcpikannlnmafaaL2
import Derived.Test.YtcpikannlnmafaaSxOne
import Derived.Test.YtcpikannlnmafaaL5
set_option linter.unusedVariables false
set_option linter.unusedSimpArgs false
namespace Go.Proofs.Ytcpikannlnmafaa
open Go Go.Av
section
set_option maxRecDepth 100000
set_option maxHeartbeats 4000000
structure WkOk(W:Wk):Prop where
 len:W.fs.length≤14
 par:W.ps.length=W.fs.length
 lfl:W.lf.length=W.fs.length
 rrl:W.rr.length=W.fs.length
 L:W.L≤15
 lf:∀a,a<W.fs.length→(W.fs.getD a default).kind≠0→W.lf.getD a 0=(loL W.fs W.ps a:Nat)∧loL W.fs W.ps a<W.L
 rr:∀a,a<W.fs.length→W.rr.getD a 0=upR W.fs W.ps W.ps.length a
def H5(F:Nat):FamS:=fun rest W E Q=>∃(a:Nat) (r d:Int),rest=[.int .i64 (a:Nat),.int .i64 r,.int .i64 d]∧(WkOk W∧a<W.fs.length∧W.fs.length-a≤F∧E.length+(ZL W.fs W.ps F a r d).length≤1000000)∧Q (E++ZL W.fs W.ps F a r d)
abbrev cNo(F:Nat):CallT:=Qv 54 (ED S_cell) (Qv 55 (ED (H5 F)) Qz)
noncomputable def PV:Nat→Nat→Pl:=Kz [(55,6)] (ZS plt)
def nS(W:Wk)(E:List Cl)(a:Nat)(r d:Int)(j:Nat):St:=⟨[(0,.ptr 0 0 0),(1,.int .i64 a),(2,.int .i64 r),(3,.int .i64 d),(8,.int .i64 j)],wkH 52 W E,100⟩
theorem DN[Syms]{N nx c j:Nat}{e:Env}{W:Wk}{E:List Cl}{a:Nat}{r d:Int}(hL:W.L≤15)(hc:Nat.ble 4 c=true)(hs:okC c=true)(h0:e.get 0= .ptr 0 0 0)(h1:e.get 1= .int .i64 a)(h2:e.get 2= .int .i64 r)(h3:e.get 3= .int .i64 d)(h8:WkV (e.get 8) (.int .i64 j)):Reb 50 N ⟨e,wkH c W E,nx⟩ (nS W E a r d j):=
 Yo (by decide) (by decide) hc hs hL (by omega) (fun τ t0=>⟨by rw[h0];exact wkp t0,by rw[h1];exact .refl _,by rw[h2];exact .refl _,by rw[h3];exact .refl _,h8,trivial⟩) (Zh rfl)
theorem Ih[Syms]{W:Wk}{E:List Cl}{Q:List Cl→Prop}(F a:Nat)(r d:Int)(hW:WkOk W)(ha:a<W.fs.length)(hk:(W.fs.getD a default).kind≠0)(hE:E.length≤1000000)(hQ:Q (E++[⟨loL W.fs W.ps a,r,d,none⟩])):
 fnT Qz (cNo F) (Zc fns) (Z5 tys) PV 100 55 [.ptr 0 0 0,.int .i64 (a:Nat),.int .i64 r,.int .i64 d] (wkH 4 W E) 50 fun v H nx=>v= .tup []∧nx=100∧ ∃E',Q E'∧H=wkH 52 W E':=by
 have hlen:=hW.len
 have hL:=hW.L
 obtain⟨hl1,hl2⟩:=hW.lf a ha hk
 have hlf:=hW.lfl
 repeat' first|refine And.intro ?_ ?_|(intro h;try first|exact dz|replace h:=cv)
 all_goals try exact cz
 refine⟨4,[.int .i64 (a:Nat),.int .i64 r,.int .i64 d,.agg [.int .i64 0,.str []],.bool false],W,E,rfl,rfl,rfl,⟨by decide,by decide,hL,rfl,rfl⟩,a,loL W.fs W.ps a,r,d,0,[],false,rfl,⟨hL,by omega,hl1,hl2,hE⟩,?_⟩
 repeat' first|refine And.intro ?_ ?_|(intro h;try first|exact dz|replace h:=cv)
 all_goals try exact cz
 exact⟨⟨[],wkH 52 W (E++[⟨loL W.fs W.ps a,r,d,none⟩]),100⟩,Yo (W:=W) (na:=50) (b:=52) (nx':=100) (c:=102) (e3:=[]) (by decide) (by decide) rfl rfl hL (by omega) (fun τ _=>trivial) (Zh rfl),_,rfl,⟨rfl,rfl,_,hQ,rfl⟩⟩
theorem Ec[Syms]{W:Wk}{E:List Cl}{Q:List Cl→Prop}(F a:Nat)(r d:Int)(hW:WkOk W)(ha:a<W.fs.length)(hF:W.fs.length-a≤F+1)(hk:(W.fs.getD a default).kind=0)(hE:E.length+(ZL W.fs W.ps (F+1) a r d).length≤1000000)(hQ:Q (E++ZL W.fs W.ps (F+1) a r d)):
 fnT Qz (cNo F) (Zc fns) (Z5 tys) PV 100 55 [.ptr 0 0 0,.int .i64 (a:Nat),.int .i64 r,.int .i64 d] (wkH 4 W E) 50 fun v H nx=>v= .tup []∧nx=100∧ ∃E',Q E'∧H=wkH 52 W E':=by
 have hlen:=hW.len
 have hL:=hW.L
 have hpar:=hW.par
 rw[ZL,if_neg (fun h=>h hk)]at hE hQ
 generalize hC:E++ZP W.ps a (fun j _=>ZL W.fs W.ps F j r d) (W.fs.length-(a+1)) (a+1) 0=C at *
 have hCl:C.length≤1000000:=by rw[←hC,List.length_append];exact hE
 clear hE
 repeat' first|refine And.intro ?_ ?_|(intro h;try first|exact dz|replace h:=cv)
 all_goals try exact cz
 refine⟨fun m s=>∃(j q:Nat) (E:List Cl),(a<j∧j≤W.fs.length∧m=W.fs.length-j∧E++ZP W.ps a (fun j _=>ZL W.fs W.ps F j r d) (W.fs.length-j) j q=C)∧s=nS W E a r d j,⟨_,nS W E a r d (a+1),DN hL rfl rfl rfl rfl rfl rfl (Q3 (by first|rfl|omega)),a+1,0,E,⟨by omega,by omega,rfl,hC⟩,rfl⟩,?_⟩
 clear hC
 rintro m s ⟨j,q,E,⟨hij,hj,rfl,hC⟩,rfl⟩
 by_cases h1:j<W.fs.length
 ·have hc:W.fs.length-j=(W.fs.length-(j+1))+1:=by omega
  rw[hc,ZP]at hC
  have hj':(j:Int)<(W.ps.length:Int):=by rw[hpar];omega
  by_cases h2:W.ps.getD j 0=a
  ·rw[if_pos h2,←List.append_assoc]at hC
   have hEl:E.length+(ZL W.fs W.ps F j r d).length≤1000000:=by
    rw[←hC,List.length_append,List.length_append]at hCl
    omega
   repeat' first|refine And.intro ?_ ?_|(intro h;try first|exact dz|replace h:=cv)
   all_goals try exact cz
   refine⟨52,[.int .i64 (j:Nat),.int .i64 r,.int .i64 d],W,E,rfl,rfl,rfl,⟨by decide,by decide,hL,rfl,rfl⟩,j,r,d,rfl,⟨hW,h1,by omega,hEl⟩,?_⟩
   refine⟨nS W (E++ZL W.fs W.ps F j r d) a r d j,DN (c:=152) hL rfl rfl rfl rfl rfl rfl (.refl _),?_⟩
   repeat' first|refine And.intro ?_ ?_|(intro h;try first|exact dz|replace h:=cv)
   all_goals try exact cz
   exact⟨_,nS W (E++ZL W.fs W.ps F j r d) a r d (j+1),DN (c:=52) hL rfl rfl rfl rfl rfl rfl (Q3 (by first|rfl|omega)),⟨j+1,q+1,_,⟨by omega,by omega,rfl,hC⟩,rfl⟩,by omega⟩
  ·rw[if_neg h2]at hC
   repeat' first|refine And.intro ?_ ?_|(intro h;try first|exact dz|replace h:=cv)
   all_goals try exact cz
   exact⟨_,nS W E a r d (j+1),DN (c:=52) hL rfl rfl rfl rfl rfl rfl (Q3 (by first|rfl|omega)),⟨j+1,q,_,⟨by omega,by omega,rfl,hC⟩,rfl⟩,by omega⟩
 ·obtain rfl:j=W.fs.length:=by omega
  rw[Nat.sub_self,ZP,List.append_nil]at hC
  subst hC
  repeat' first|refine And.intro ?_ ?_|(intro h;try first|exact dz|replace h:=cv)
  all_goals try exact cz
  exact⟨⟨[],wkH 52 W E,100⟩,Yo (W:=W) (na:=50) (b:=52) (nx':=100) (c:=52) (e3:=[]) (by decide) (by decide) rfl rfl hL (by omega) (fun τ _=>trivial) (Zh rfl),_,rfl,⟨rfl,rfl,_,hQ,rfl⟩⟩
theorem Hy[Syms]:∀F:Nat,FamS.ok Try.prog 55 (H5 F)
 |0=>by
  rintro rest W E Q ⟨a,r,d,rfl,⟨hW,ha,hF,hE⟩,hQ⟩
  omega
 |F+1=>by
  rintro rest W E Q ⟨a,r,d,rfl,⟨hW,ha,hF,hE⟩,hQ⟩
  have hc:(cNo F).ok Try.prog:=Uz HT (Uz (Hy F) Qy)
  by_cases hk:(W.fs.getD a default).kind=0
  ·exact QS QN QO Qn hc Za (Ec F a r d hW ha hF hk hE hQ)
  ·rw[ZL,if_pos hk]at hE hQ
   exact QS QN QO Qn hc Za (Ih F a r d hW ha hk (by omega) hQ)
end
section
set_option maxRecDepth 100000
set_option maxHeartbeats 4000000
def rE(fs:List Fd)(i:Nat)(p d o l:AVal):Env:=[(0,vF fs),(4,p),(5,d),(6,o),(7,l),(8,.int .i64 i)]
def sI(k n:Nat):AVal:=.slice k 0 n 1 none
def rA(fs:List Fd)(i:Nat):St:=⟨rE fs i .nils .nils .nils .nils,[],0⟩
def rB(fs:List Fd)(i:Nat)(out:List (Int×Int)):St:=⟨rE fs i (sI 0 i) (sI 1 i) .nils .nils,[(0,some (.cells (out.map (encI ·.1)) false)),(1,some (.cells (out.map (encI ·.2)) false))],2⟩
def rC(fs:List Fd)(i n:Nat)(out:List (Int×Int))(R S:List (List AVal)):St:=
 ⟨rE fs i (sI 0 i) (sI 1 i) (sI 2 n) (sI 3 n),[(0,some (.cells (out.map (encI ·.1)) false)),(1,some (.cells (out.map (encI ·.2)) false)),(2,some (.cells R false)),(3,some (.cells S false))],4⟩
def rD(fs:List Fd)(i n:Nat)(out:List (Int×Int))(R S:List (List AVal)):St:=
 ⟨rE fs i (sI 0 (i+1)) (sI 1 (i+1)) (sI 2 n) (sI 3 n),[(0,some (.cells (out.map (encI ·.1)) false)),(1,some (.cells (out.map (encI ·.2)) false)),(2,some (.cells R false)),(3,some (.cells S false))],4⟩
structure RInv(fs:List Fd)(i:Nat)(st:Stk)(out:List (Int×Int)):Prop where
 le:i≤fs.length
 len:out.length=i
 run:out++Fm (fs.drop i) i st=Fm fs 0 []
 pos:∀p∈st,0≤p.2∧p.2≤9223372036854775807
 sl:st.length≤i
def rSt(fs:List Fd)(i:Nat)(st:Stk)(out:List (Int×Int))(s:St):Prop:=
 (i=0∧st=[]∧out=[]∧s=rA fs i)∨(st=[]∧s=rB fs i out)∨(∃j1 j2 R S,(Qe j1∧Qe j2∧R=st.reverse.map (encI ·.1)++j1∧S=st.reverse.map (encI ·.2)++j2)∧s=rC fs i st.length out R S)
theorem NI{fs:List Fd}{i:Nat}{st:Stk}(h:i<fs.length):Fm (fs.drop i) i st=(XO (X2 st),((X2 st).length:Int))::Fm (fs.drop (i+1)) (i+1) (YY i (fs.getD i default) (Yk (X2 st))):=by
 rw[UB h];rfl
theorem BS:∀st:Stk,(X2 st).length≤st.length
 |[]=>Nat.le_refl _
 |(a,k)::t=>by rw[X2];split<;>simp;have:=BS t;omega
theorem Jk{fs:List Fd}{i:Nat}{st:Stk}{out:List (Int×Int)}(hk:∀i,(fs.getD i default).kids≤9223372036854775807)(h:RInv fs i st out)(hi:i<fs.length):
 RInv fs (i+1) (YY i (fs.getD i default) (Yk (X2 st))) (out++[(XO (X2 st),((X2 st).length:Int))]):=by
 have hn:Ki st:=fun p hp=>(h.pos p hp).1
 refine⟨hi,by simp[h.len],?_,fun p hp=>⟨Mg hn i _ p hp,?_⟩,?_⟩
 ·rw[←h.run,NI hi];simp
 ·have hd:∀p∈Yk (X2 st),p.2≤9223372036854775807:=by
   intro p hp
   cases hq:X2 st with
   |nil=>rw[hq]at hp;simp[Yk]at hp
   |cons q t=>
    obtain⟨a,k⟩:=q
    have hm:∀r∈(a,k)::t,r.2≤9223372036854775807:=fun r hr=>(h.pos r (BR (by rw[hq];exact hr))).2
    rw[hq]at hp
    simp only[Yk,List.mem_cons]at hp
    rcases hp with rfl|hp
    ·have:=hm (a,k) (List.mem_cons_self ..);simp only at this ⊢;omega
    ·exact hm p (List.mem_cons_of_mem _ hp)
  unfold YY at hp
  split at hp
  ·rcases List.mem_cons.1 hp with rfl|hp
   ·exact hk i
   ·exact hd p hp
  ·exact hd p hp
 ·have h1:=BS st
  have h2:(Yk (X2 st)).length≤(X2 st).length:=by cases X2 st<;>simp[Yk]
  have:=h.sl
  unfold YY
  split<;>simp<;>omega
theorem fI1(l:List (Int×Int)):Qe (l.map (encI ·.1)):=Qa (fun a x hx=>by simp[encI]at hx;subst hx;rfl) l
theorem fI2(l:List (Int×Int)):Qe (l.map (encI ·.2)):=Qa (fun a x hx=>by simp[encI]at hx;subst hx;rfl) l
theorem Qx{g:Int×Int→List AVal}{l:List (Int×Int)}{i:Nat}(hl:l.length=i)(x:Int×Int):List.take i (List.drop 0 (l.map g))++[g x]=(l++[x]).map g:=by
 rw[List.drop_zero,List.take_of_length_le (by rw[List.length_map];omega)];simp
theorem E3[Syms]{na N:Nat}{e:Env}{H:Heap}{nx:Nat}(h2:(e.get 2).isZ 1=true)(h3:(e.get 3).isZ 1=true):Reb na N ⟨e,H,nx⟩ ⟨[(3,vI []),(2,vI [])],[],nx⟩:=by
 refine(Xv (k:=2) (y:=vI []) fun ι v hv=>.vt _ _ _ _ (hv.isZ h2)).trans ((Xv (e:=(2,vI [])::e) (k:=3) (y:=vI []) fun ι v hv=>.vt _ _ _ _ (RelV.isZ (ι:=ι) (sz:=1) h3 (show RelV ι (e.get 3) v from hv))).trans (Ku (fun j=>?_) (fun m b h=>by rw[Heap.get_nil]at h;cases h)))
 rw[Env.get_cons,Env.get_cons,Env.get_cons,Env.get_cons,Env.get_nil]
 cases Nat.beq j 3<;>cases Nat.beq j 2<;>simp
theorem Fw[Syms]{na N:Nat}{e:Env}{H:Heap}{nx i:Nat}{out:List (Int×Int)}(h2:e.get 2=sI 0 i)(h3:e.get 3=sI 1 i)(hb0:H.get 0=some (.cells (out.map (encI ·.1)) false))(hb1:H.get 1=some (.cells (out.map (encI ·.2)) false))(hol:out.length=i):
 Reb na N ⟨e,H,nx⟩ ⟨[(3,vI (out.map (·.2))),(2,vI (out.map (·.1)))],[],nx⟩:=by
 refine(Kv (enc:=encI) (k:=2) 0 (l:=out.map (·.1)) [(3,sI 1 i)] [(1,some (.cells (out.map (encI ·.2)) false))] h2 hb0 (fI1 _) ?_ ?_ ?_ ?_).trans (Kv (enc:=encI) (k:=3) 0 (l:=out.map (·.2)) [(2,vI (out.map (·.1)))] [] rfl rfl (fI2 _) ?_ ?_ ?_ ?_)
 ·rw[List.take_of_length_le (by simp;omega),List.map_map];rfl
 ·simp;omega
 ·intro p hp;simp only[List.mem_singleton]at hp;subst hp;exact⟨show(3:Nat)≠2 by decide,h3⟩
 ·intro m b h
  rw[Heap.get_cons,Heap.get_nil]at h
  by_cases hm:m=1
  ·subst hm;rw[Nat.beq_refl]at h;rw[Heap.get_set_ne _ _ (by decide),hb1];exact h
  ·rw[Qd hm]at h;cases h
 ·rw[List.take_of_length_le (by simp;omega),List.map_map];rfl
 ·simp;omega
 ·intro p hp;simp only[List.mem_singleton]at hp;subst hp;exact⟨show(2:Nat)≠3 by decide,rfl⟩
 ·intro m b h;rw[Heap.get_nil]at h;cases h
theorem YI{st:Stk}{q:List (List AVal)}{g:Int×Int→List AVal}{n:Nat}(hn:n=st.length):List.take n (List.drop 0 (st.reverse.map g++q))=st.reverse.map g:=by
 rw[List.drop_zero,hn,show st.length=(st.reverse.map g).length by simp];exact List.take_left
theorem NH[Syms](fs:List Fd)(hl:fs.length<1000)(hk:∀i,(fs.getD i default).kids≤9223372036854775807):
 fnT Qz Qz (Zc fns) (Z5 tys) (ZS plt) 100 36 [vF fs] [] 0 (fun v H _=>v= .tup [vI (Q0 fs),vI (Xk fs)]∧H=[]):=by
 refine⟨fun n s=>∃i st out,(RInv fs i st out∧n=fs.length-i)∧rSt fs i st out s,⟨_,rA fs 0,Q1 [] rfl ?_ ?_,0,[],[],⟨⟨by omega,rfl,rfl,by simp,by simp⟩,rfl⟩,.inl ⟨rfl,rfl,rfl,rfl⟩⟩,?_⟩
 ·exact⟨.refl _,.refl _,.refl _,.refl _,.refl _,.refl _,trivial⟩
 ·exact trivial
 rintro n s ⟨i,st,out,⟨hI,rfl⟩,(⟨h0,rfl,rfl,rfl⟩|⟨rfl,rfl⟩|⟨j1,j2,R,S,⟨hj1,hj2,hR,hS⟩,rfl⟩)⟩
 ·have hle:=hI.le
  have hol:=hI.len
  by_cases hin:i<fs.length
  ·have hnx:=Jk hk hI hin
   by_cases hc:(fs.getD i default).kind=0∧0<(fs.getD i default).kids
   ·rw[YY,if_pos hc,show X2 []=[] from rfl]at hnx
    repeat' first|refine And.intro ?_ ?_|(intro h;try first|exact dz|replace h:=cv)
    all_goals try exact cz
    refine XQ ?_
    repeat' first|refine And.intro ?_ ?_|(intro h;try first|exact dz|replace h:=cv)
    all_goals try exact cz
    all_goals(try exact NoSel.mk (by kernel_rfl))
    refine⟨rD fs i 1 ([]++[(-1,0)]) [encI ((i:Nat):Int)] [encI (fs.getD i default).kids],?_,?_⟩
    · repeat' first|refine And.intro ?_ ?_|(intro h;try first|exact dz|replace h:=cv)
      all_goals try exact cz
      all_goals(try exact Apart.mk (by kernel_rfl))
      all_goals refine Exists.intro () ?_
      all_goals first
      |(refine Q1 [1,3,5,7] (by exact rfl) ?_ ?_
        ·exact⟨.refl _,Q4 (by first|rfl|omega),Q4 (by first|rfl|omega),.refl _,.refl _,.refl _,trivial⟩
        ·exact⟨⟨by decide,_,rfl,Q2 (by subst h0;rfl) (fI1 _)⟩,⟨by decide,_,rfl,Q2 (by subst h0;rfl) (fI2 _)⟩,⟨by decide,_,rfl,Q2 rfl (fI [_])⟩,⟨by decide,_,rfl,Q2 rfl (fI [_])⟩,trivial⟩)
      |(refine Q1 [1,3,6,7] (by exact rfl) ?_ ?_
        ·exact⟨.refl _,Q4 (by first|rfl|omega),Q4 (by first|rfl|omega),.refl _,.refl _,.refl _,trivial⟩
        ·exact⟨⟨by decide,_,rfl,Q2 (by subst h0;rfl) (fI1 _)⟩,⟨by decide,_,rfl,Q2 (by subst h0;rfl) (fI2 _)⟩,⟨by decide,_,rfl,Q2 rfl (fI [_])⟩,⟨by decide,_,rfl,Q2 rfl (fI [_])⟩,trivial⟩)
      |(refine Q1 [1,3,7,6] (by exact rfl) ?_ ?_
        ·exact⟨.refl _,Q4 (by first|rfl|omega),Q4 (by first|rfl|omega),.refl _,.refl _,.refl _,trivial⟩
        ·exact⟨⟨by decide,_,rfl,Q2 (by subst h0;rfl) (fI1 _)⟩,⟨by decide,_,rfl,Q2 (by subst h0;rfl) (fI2 _)⟩,⟨by decide,_,rfl,Q2 rfl (fI [_])⟩,⟨by decide,_,rfl,Q2 rfl (fI [_])⟩,trivial⟩)
      |(refine Q1 [1,3,7,5] (by exact rfl) ?_ ?_
        ·exact⟨.refl _,Q4 (by first|rfl|omega),Q4 (by first|rfl|omega),.refl _,.refl _,.refl _,trivial⟩
        ·exact⟨⟨by decide,_,rfl,Q2 (by subst h0;rfl) (fI1 _)⟩,⟨by decide,_,rfl,Q2 (by subst h0;rfl) (fI2 _)⟩,⟨by decide,_,rfl,Q2 rfl (fI [_])⟩,⟨by decide,_,rfl,Q2 rfl (fI [_])⟩,trivial⟩)
    repeat' first|refine And.intro ?_ ?_|(intro h;try first|exact dz|replace h:=cv)
    all_goals try exact cz
    exact⟨_,rC fs (i+1) 1 ([]++[(-1,0)]) [encI ((i:Nat):Int)] [encI (fs.getD i default).kids],.refl _ _ _,⟨_,_,_,⟨hnx,rfl⟩,.inr (.inr ⟨[],[],_,_,⟨QG,QG,rfl,rfl⟩,rfl⟩)⟩,by omega⟩
   ·rw[YY,if_neg hc,show X2 []=[] from rfl]at hnx
    repeat' first|refine And.intro ?_ ?_|(intro h;try first|exact dz|replace h:=cv)
    all_goals try exact cz
    refine XQ ?_
    repeat' first|refine And.intro ?_ ?_|(intro h;try first|exact dz|replace h:=cv)
    all_goals try exact cz
    all_goals
     refine⟨_,rB fs (i+1) ([]++[(-1,0)]),Q1 [1,3] rfl ?_ ?_,⟨_,_,_,⟨hnx,rfl⟩,.inr (.inl ⟨rfl,rfl⟩)⟩,by omega⟩
     ·exact⟨.refl _,Q4 (by first|rfl|omega),Q4 (by first|rfl|omega),.refl _,.refl _,.refl _,trivial⟩
     ·exact⟨⟨by decide,_,rfl,Q2 (by subst h0;rfl) (fI1 _)⟩,⟨by decide,_,rfl,Q2 (by subst h0;rfl) (fI2 _)⟩,trivial⟩
  · repeat' first|refine And.intro ?_ ?_|(intro h;try first|exact dz|replace h:=cv)
    all_goals try exact cz
    have h0:fs=[]:=List.eq_nil_of_length_eq_zero (by omega)
    subst h0
    exact⟨_,E3 rfl rfl,_,rfl,rfl,rfl⟩
 ·have hle:=hI.le
  have hol:=hI.len
  by_cases hin:i<fs.length
  ·have hnx:=Jk hk hI hin
   by_cases hc:(fs.getD i default).kind=0∧0<(fs.getD i default).kids
   ·rw[YY,if_pos hc,show X2 []=[] from rfl]at hnx
    repeat' first|refine And.intro ?_ ?_|(intro h;try first|exact dz|replace h:=cv)
    all_goals try exact cz
    refine XQ ?_
    repeat' first|refine And.intro ?_ ?_|(intro h;try first|exact dz|replace h:=cv)
    all_goals try exact cz
    all_goals(try exact NoSel.mk (by kernel_rfl))
    refine⟨rD fs i 1 (out++[(-1,0)]) [encI ((i:Nat):Int)] [encI (fs.getD i default).kids],?_,?_⟩
    · repeat' first|refine And.intro ?_ ?_|(intro h;try first|exact dz|replace h:=cv)
      all_goals try exact cz
      all_goals(try exact Apart.mk (by kernel_rfl))
      all_goals refine Exists.intro () ?_
      all_goals first
      |(refine Q1 [3,5,7,9] (by exact rfl) ?_ ?_
        ·exact⟨.refl _,Q4 (by first|rfl|omega),Q4 (by first|rfl|omega),.refl _,.refl _,.refl _,trivial⟩
        ·exact⟨⟨by decide,_,rfl,Q2 (Qx (g:=(encI ·.1)) hol (-1,0)) (fI1 _)⟩,⟨by decide,_,rfl,Q2 (Qx (g:=(encI ·.2)) hol (-1,0)) (fI2 _)⟩,⟨by decide,_,rfl,Q2 rfl (fI [_])⟩,⟨by decide,_,rfl,Q2 rfl (fI [_])⟩,trivial⟩)
      |(refine Q1 [3,5,8,9] (by exact rfl) ?_ ?_
        ·exact⟨.refl _,Q4 (by first|rfl|omega),Q4 (by first|rfl|omega),.refl _,.refl _,.refl _,trivial⟩
        ·exact⟨⟨by decide,_,rfl,Q2 (Qx (g:=(encI ·.1)) hol (-1,0)) (fI1 _)⟩,⟨by decide,_,rfl,Q2 (Qx (g:=(encI ·.2)) hol (-1,0)) (fI2 _)⟩,⟨by decide,_,rfl,Q2 rfl (fI [_])⟩,⟨by decide,_,rfl,Q2 rfl (fI [_])⟩,trivial⟩)
      |(refine Q1 [3,5,9,8] (by exact rfl) ?_ ?_
        ·exact⟨.refl _,Q4 (by first|rfl|omega),Q4 (by first|rfl|omega),.refl _,.refl _,.refl _,trivial⟩
        ·exact⟨⟨by decide,_,rfl,Q2 (Qx (g:=(encI ·.1)) hol (-1,0)) (fI1 _)⟩,⟨by decide,_,rfl,Q2 (Qx (g:=(encI ·.2)) hol (-1,0)) (fI2 _)⟩,⟨by decide,_,rfl,Q2 rfl (fI [_])⟩,⟨by decide,_,rfl,Q2 rfl (fI [_])⟩,trivial⟩)
      |(refine Q1 [3,5,9,7] (by exact rfl) ?_ ?_
        ·exact⟨.refl _,Q4 (by first|rfl|omega),Q4 (by first|rfl|omega),.refl _,.refl _,.refl _,trivial⟩
        ·exact⟨⟨by decide,_,rfl,Q2 (Qx (g:=(encI ·.1)) hol (-1,0)) (fI1 _)⟩,⟨by decide,_,rfl,Q2 (Qx (g:=(encI ·.2)) hol (-1,0)) (fI2 _)⟩,⟨by decide,_,rfl,Q2 rfl (fI [_])⟩,⟨by decide,_,rfl,Q2 rfl (fI [_])⟩,trivial⟩)
    repeat' first|refine And.intro ?_ ?_|(intro h;try first|exact dz|replace h:=cv)
    all_goals try exact cz
    exact⟨_,rC fs (i+1) 1 (out++[(-1,0)]) [encI ((i:Nat):Int)] [encI (fs.getD i default).kids],.refl _ _ _,⟨_,_,_,⟨hnx,rfl⟩,.inr (.inr ⟨[],[],_,_,⟨QG,QG,rfl,rfl⟩,rfl⟩)⟩,by omega⟩
   ·rw[YY,if_neg hc,show X2 []=[] from rfl]at hnx
    repeat' first|refine And.intro ?_ ?_|(intro h;try first|exact dz|replace h:=cv)
    all_goals try exact cz
    refine XQ ?_
    repeat' first|refine And.intro ?_ ?_|(intro h;try first|exact dz|replace h:=cv)
    all_goals try exact cz
    all_goals
     refine⟨_,rB fs (i+1) (out++[(-1,0)]),Q1 [3,5] rfl ?_ ?_,⟨_,_,_,⟨hnx,rfl⟩,.inr (.inl ⟨rfl,rfl⟩)⟩,by omega⟩
     ·exact⟨.refl _,Q4 (by first|rfl|omega),Q4 (by first|rfl|omega),.refl _,.refl _,.refl _,trivial⟩
     ·exact⟨⟨by decide,_,rfl,Q2 (Qx (g:=(encI ·.1)) hol (-1,0)) (fI1 _)⟩,⟨by decide,_,rfl,Q2 (Qx (g:=(encI ·.2)) hol (-1,0)) (fI2 _)⟩,trivial⟩
  · repeat' first|refine And.intro ?_ ?_|(intro h;try first|exact dz|replace h:=cv)
    all_goals try exact cz
    have hrun:=hI.run
    rw[List.drop_of_length_le (by omega),Hm]at hrun
    simp only[Fm,List.append_nil]at hrun
    exact⟨_,Fw (out:=out) rfl rfl rfl rfl hol,_,rfl,by rw[hrun];rfl,rfl⟩
 ·have hle:=hI.le
  have hol:=hI.len
  have hsl:=hI.sl
  have hfR:Qe R:=hR▸QC (fI1 _) hj1
  have hfS:Qe S:=hS▸QC (fI2 _) hj2
  by_cases hin:i<fs.length
  · repeat' first|refine And.intro ?_ ?_|(intro h;try first|exact dz|replace h:=cv)
    all_goals try exact cz
    refine⟨fun m s=>∃(st1:Stk) (q1 q2:List (List AVal)),(m=st1.length∧X2 st1=X2 st∧R=st1.reverse.map (encI ·.1)++q1∧S=st1.reverse.map (encI ·.2)++q2∧Qe q1∧Qe q2∧(∀p∈st1,0≤p.2∧p.2≤9223372036854775807)∧st1.length≤st.length)∧s=rC fs i st1.length out R S,⟨_,rC fs i st.length out R S,Hs [0,4,5,6,7,8],st,j1,j2,⟨rfl,rfl,hR,hS,hj1,hj2,hI.pos,Nat.le_refl _⟩,rfl⟩,?_⟩
    rintro m s ⟨st1,q1,q2,⟨rfl,hp1,hR1,hS1,hq1,hq2,hb1,hl1⟩,rfl⟩
    have hnx:=Jk hk hI hin
    rw[←hp1]at hnx
    clear hI hj1 hj2 hR hS
    cases st1 with
    |nil=>
     have hx1:True=True:=rfl
     have hx2:True=True:=rfl
     have hx3:True=True:=rfl
     have hx4:True=True:=rfl
     by_cases hc:(fs.getD i default).kind=0∧0<(fs.getD i default).kids
     ·rw[YY,if_pos hc]at hnx
      repeat' first|refine And.intro ?_ ?_|(intro h;try first|exact dzi|replace h:=cvi)
      all_goals try exact cz
      all_goals(try first|((with_reducible show(_:Int)≤(_:Int));simp only[hx2,hx3,hx4,Q6,Qb,QI,Nat.zero_add];omega)|((with_reducible show(_:Int)<(_:Int));simp only[hx2,hx3,hx4,Q6,Qb,QI,Nat.zero_add];omega)|((with_reducible show(_:Nat)≤(_:Nat));simp only[hx2,hx3,hx4,ZG,List.length_set,Nat.zero_add];omega)|((with_reducible show(_:Nat)<(_:Nat));simp only[hx2,hx3,hx4,ZG,List.length_set,Nat.zero_add];omega)|((with_reducible show isC _ _ _=true);simp only[hx2,hx3,hx4,Q6,Qb,QI,Nat.zero_add];exact rfl))
      refine⟨rD fs i 1 (out++[(-1,0)]) [encI (i:Int)] [encI (fs.getD i default).kids],?_,?_⟩
      · repeat' first|refine And.intro ?_ ?_|(intro h;try first|exact dzi|replace h:=cvi)
        all_goals try exact cz
        all_goals(try first|((with_reducible show(_:Int)≤(_:Int));simp only[hx2,hx3,hx4,Q6,Qb,QI,Nat.zero_add];omega)|((with_reducible show(_:Int)<(_:Int));simp only[hx2,hx3,hx4,Q6,Qb,QI,Nat.zero_add];omega)|((with_reducible show(_:Nat)≤(_:Nat));simp only[hx2,hx3,hx4,ZG,List.length_set,Nat.zero_add];omega)|((with_reducible show(_:Nat)<(_:Nat));simp only[hx2,hx3,hx4,ZG,List.length_set,Nat.zero_add];omega)|((with_reducible show isC _ _ _=true);simp only[hx2,hx3,hx4,Q6,Qb,QI,Nat.zero_add];exact rfl))
        all_goals refine Exists.intro () ?_
        all_goals first
        |(refine Q1 [5,7,9,11] (by exact rfl) ?_ ?_
          ·exact⟨.refl _,Q4 (by first|rfl|omega),Q4 (by first|rfl|omega),Q4 (by first|rfl|omega),Q4 (by first|rfl|omega),.refl _,trivial⟩
          ·refine⟨⟨by decide,_,rfl,Q2 ?_ (fI1 _)⟩,⟨by decide,_,rfl,Q2 ?_ (fI2 _)⟩,⟨by decide,_,rfl,Q2 ?_ (fI [_])⟩,⟨by decide,_,rfl,Q2 ?_ (fI [_])⟩,trivial⟩
           ·exact Qx (g:=(encI ·.1)) hol (-1,0)
           ·exact Qx (g:=(encI ·.2)) hol (-1,0)
           ·rfl
           ·rfl)
        |(refine Q1 [5,7,10,11] (by exact rfl) ?_ ?_
          ·exact⟨.refl _,Q4 (by first|rfl|omega),Q4 (by first|rfl|omega),Q4 (by first|rfl|omega),Q4 (by first|rfl|omega),.refl _,trivial⟩
          ·refine⟨⟨by decide,_,rfl,Q2 ?_ (fI1 _)⟩,⟨by decide,_,rfl,Q2 ?_ (fI2 _)⟩,⟨by decide,_,rfl,Q2 ?_ (fI [_])⟩,⟨by decide,_,rfl,Q2 ?_ (fI [_])⟩,trivial⟩
           ·exact Qx (g:=(encI ·.1)) hol (-1,0)
           ·exact Qx (g:=(encI ·.2)) hol (-1,0)
           ·rfl
           ·rfl)
        |(refine Q1 [5,7,11,10] (by exact rfl) ?_ ?_
          ·exact⟨.refl _,Q4 (by first|rfl|omega),Q4 (by first|rfl|omega),Q4 (by first|rfl|omega),Q4 (by first|rfl|omega),.refl _,trivial⟩
          ·refine⟨⟨by decide,_,rfl,Q2 ?_ (fI1 _)⟩,⟨by decide,_,rfl,Q2 ?_ (fI2 _)⟩,⟨by decide,_,rfl,Q2 ?_ (fI [_])⟩,⟨by decide,_,rfl,Q2 ?_ (fI [_])⟩,trivial⟩
           ·exact Qx (g:=(encI ·.1)) hol (-1,0)
           ·exact Qx (g:=(encI ·.2)) hol (-1,0)
           ·rfl
           ·rfl)
        |(refine Q1 [5,7,11,9] (by exact rfl) ?_ ?_
          ·exact⟨.refl _,Q4 (by first|rfl|omega),Q4 (by first|rfl|omega),Q4 (by first|rfl|omega),Q4 (by first|rfl|omega),.refl _,trivial⟩
          ·refine⟨⟨by decide,_,rfl,Q2 ?_ (fI1 _)⟩,⟨by decide,_,rfl,Q2 ?_ (fI2 _)⟩,⟨by decide,_,rfl,Q2 ?_ (fI [_])⟩,⟨by decide,_,rfl,Q2 ?_ (fI [_])⟩,trivial⟩
           ·exact Qx (g:=(encI ·.1)) hol (-1,0)
           ·exact Qx (g:=(encI ·.2)) hol (-1,0)
           ·rfl
           ·rfl)
      repeat' first|refine And.intro ?_ ?_|(intro h;try first|exact dzi|replace h:=cvi)
      all_goals try exact cz
      exact⟨_,rC fs (i+1) 1 (out++[(-1,0)]) [encI (i:Int)] [encI (fs.getD i default).kids],.refl _ _ _,⟨_,_,_,⟨hnx,rfl⟩,.inr (.inr ⟨[],[],_,_,⟨QG,QG,rfl,rfl⟩,rfl⟩)⟩,by omega⟩
     ·rw[YY,if_neg hc]at hnx
      repeat' first|refine And.intro ?_ ?_|(intro h;try first|exact dzi|replace h:=cvi)
      all_goals try exact cz
      all_goals(try first|((with_reducible show(_:Int)≤(_:Int));simp only[hx2,hx3,hx4,Q6,Qb,QI,Nat.zero_add];omega)|((with_reducible show(_:Int)<(_:Int));simp only[hx2,hx3,hx4,Q6,Qb,QI,Nat.zero_add];omega)|((with_reducible show(_:Nat)≤(_:Nat));simp only[hx2,hx3,hx4,ZG,List.length_set,Nat.zero_add];omega)|((with_reducible show(_:Nat)<(_:Nat));simp only[hx2,hx3,hx4,ZG,List.length_set,Nat.zero_add];omega)|((with_reducible show isC _ _ _=true);simp only[hx2,hx3,hx4,Q6,Qb,QI,Nat.zero_add];exact rfl))
      all_goals
       refine⟨_,rC fs (i+1) 0 (out++[(-1,0)]) R S,Q1 [5,7,2,3] rfl ?_ ?_,⟨_,_,_,⟨hnx,rfl⟩,.inr (.inr ⟨R,S,_,_,⟨hfR,hfS,rfl,rfl⟩,rfl⟩)⟩,by omega⟩
       ·exact⟨.refl _,Q4 (by first|rfl|omega),Q4 (by first|rfl|omega),Q4 (by first|rfl|omega),Q4 (by first|rfl|omega),.refl _,trivial⟩
       ·refine⟨⟨by decide,_,rfl,Q2 ?_ (fI1 _)⟩,⟨by decide,_,rfl,Q2 ?_ (fI2 _)⟩,⟨by decide,_,rfl,Qc hfR⟩,⟨by decide,_,rfl,Q2 ?_ hfS⟩,trivial⟩
        ·exact Qx (g:=(encI ·.1)) hol (-1,0)
        ·exact Qx (g:=(encI ·.2)) hol (-1,0)
        ·rfl
    |cons q t=>
     obtain⟨a,k⟩:=q
     have hx4:((↑(t.length+1):Int)-1).toNat=t.length:=by omega
     have hx1:True=True:=rfl
     have hx2:R.getD t.length []=encI a:=by rw[hR1];simp[List.getElem?_append,List.getElem?_map]
     have hx3:S.getD t.length []=encI k:=by rw[hS1];simp[List.getElem?_append,List.getElem?_map]
     have hRl:t.length<R.length:=by rw[hR1];simp
     have hSl:t.length<S.length:=by rw[hS1];simp
     have hkb:=hb1 (a,k) (List.mem_cons_self ..)
     have htl:t.length+1≤st.length:=hl1
     simp only at hkb
     rw[List.length_cons]
     by_cases hk0:k=0
     ·skip
      have hpz:X2 ((a,k)::t)=X2 t:=by rw[X2,if_pos hk0]
      repeat' first|refine And.intro ?_ ?_|(intro h;try first|exact dzi|replace h:=cvi)
      all_goals try exact cz
      all_goals(try first|((with_reducible show(_:Int)≤(_:Int));simp only[hx2,hx3,hx4,Q6,Qb,QI,Nat.zero_add];omega)|((with_reducible show(_:Nat)≤(_:Nat));simp only[hx2,hx3,hx4,ZG,List.length_set,Nat.zero_add];omega)|((with_reducible show isC _ _ _=true);simp only[hx2,hx3,hx4,Q6,Qb,QI,Nat.zero_add];exact rfl))
      refine⟨t.length,rC fs i t.length out R S,Q1 [0,1,2,3] rfl ?_ ?_,⟨t,encI a::q1,encI k::q2,⟨rfl,hpz▸hp1,by rw[hR1];simp,by rw[hS1];simp,Xs (fun x hx=>by simp[encI]at hx;subst hx;rfl) hq1,Xs (fun x hx=>by simp[encI]at hx;subst hx;rfl) hq2,fun p hp=>hb1 p (List.mem_cons_of_mem _ hp),by omega⟩,rfl⟩,by omega⟩
      ·exact⟨.refl _,.refl _,.refl _,Q4 (by first|rfl|omega),Q4 (by first|rfl|omega),.refl _,trivial⟩
      ·exact⟨⟨by decide,_,rfl,Qc (fI1 _)⟩,⟨by decide,_,rfl,Qc (fI2 _)⟩,⟨by decide,_,rfl,Qc hfR⟩,⟨by decide,_,rfl,Qc hfS⟩,trivial⟩
     ·skip
      have hpz:X2 ((a,k)::t)=(a,k)::t:=by rw[X2,if_neg hk0]
      rw[hpz]at hnx
      have hset:S.set t.length (encI (k-1))=((a,k-1)::t).reverse.map (encI ·.2)++q2:=by rw[hS1];simp[List.set_append]
      have hRq:R=((a,k-1)::t).reverse.map (encI ·.1)++q1:=by rw[hR1];simp
      have hfS2:Qe (S.set t.length (encI (k-1))):=hset▸QC (fI2 _) hq2
      by_cases hc:(fs.getD i default).kind=0∧0<(fs.getD i default).kids
      ·rw[YY,if_pos hc]at hnx
       repeat' first|refine And.intro ?_ ?_|(intro h;try first|exact dzi|replace h:=cvi)
       all_goals try exact cz
       all_goals(try first|((with_reducible show(_:Int)≤(_:Int));simp only[hx2,hx3,hx4,Q6,Qb,QI,Nat.zero_add];omega)|((with_reducible show(_:Int)<(_:Int));simp only[hx2,hx3,hx4,Q6,Qb,QI,Nat.zero_add];omega)|((with_reducible show(_:Nat)≤(_:Nat));simp only[hx2,hx3,hx4,ZG,List.length_set,Nat.zero_add];omega)|((with_reducible show(_:Nat)<(_:Nat));simp only[hx2,hx3,hx4,ZG,List.length_set,Nat.zero_add];omega)|((with_reducible show isC _ _ _=true);simp only[hx2,hx3,hx4,Q6,Qb,QI,Nat.zero_add];exact rfl))
       refine⟨rD fs i (t.length+1+1) (out++[(a,((t.length+1:Nat):Int))]) (((((i:Nat):Int),(fs.getD i default).kids)::(a,k-1)::t).reverse.map (encI ·.1)) (((((i:Nat):Int),(fs.getD i default).kids)::(a,k-1)::t).reverse.map (encI ·.2)),?_,?_⟩
       · repeat' first|refine And.intro ?_ ?_|(intro h;try first|exact dzi|replace h:=cvi)
         all_goals try exact cz
         all_goals(try first|((with_reducible show(_:Int)≤(_:Int));simp only[hx2,hx3,hx4,Q6,Qb,QI,Nat.zero_add];omega)|((with_reducible show(_:Int)<(_:Int));simp only[hx2,hx3,hx4,Q6,Qb,QI,Nat.zero_add];omega)|((with_reducible show(_:Nat)≤(_:Nat));simp only[hx2,hx3,hx4,ZG,List.length_set,Nat.zero_add];omega)|((with_reducible show(_:Nat)<(_:Nat));simp only[hx2,hx3,hx4,ZG,List.length_set,Nat.zero_add];omega)|((with_reducible show isC _ _ _=true);simp only[hx2,hx3,hx4,Q6,Qb,QI,Nat.zero_add];exact rfl))
         all_goals refine Exists.intro () ?_
         all_goals first
         |(refine Q1 [6,8,10,12] (by exact rfl) ?_ ?_
           ·exact⟨.refl _,Q4 (by first|rfl|omega),Q4 (by first|rfl|omega),Q4 (by first|rfl|omega),Q4 (by first|rfl|omega),.refl _,trivial⟩
           ·refine⟨⟨by decide,_,rfl,Q2 ?_ (fI1 _)⟩,⟨by decide,_,rfl,Q2 ?_ (fI2 _)⟩,⟨by decide,_,rfl,Q2 ?_ (fI1 _)⟩,⟨by decide,_,rfl,Q2 ?_ (fI2 _)⟩,trivial⟩
            ·show List.take i (List.drop 0 (out.map (encI ·.1)))++[[.int .i64 (asI ((R.getD (0+((↑(t.length+1):Int)-1).toNat) []).getD 0 .any))]]=_;rw[Nat.zero_add,hx4,hx2];exact Qx (g:=(encI ·.1)) hol (a,((t.length+1:Nat):Int))
            ·exact Qx (g:=(encI ·.2)) hol (a,((t.length+1:Nat):Int))
            ·show List.take (t.length+1) (List.drop 0 R)++[encI i]=_;rw[hRq,YI (by simp)];simp
            ·show List.take (t.length+1) (List.drop 0 (S.set (0+((↑(t.length+1):Int)-1).toNat) (Qm (S.getD (0+((↑(t.length+1):Int)-1).toNat) []) 0 [.int .i64 (asI ((S.getD (0+((↑(t.length+1):Int)-1).toNat) []).getD 0 .any)-1)])))++[encI (fs.getD i default).kids]=_;rw[Nat.zero_add,hx4,hx3,show Qm (encI k) 0 [.int .i64 (asI ((encI k).getD 0 .any)-1)]=encI (k-1) from rfl,hset,YI (by simp)];simp)
         |(refine Q1 [6,8,11,12] (by exact rfl) ?_ ?_
           ·exact⟨.refl _,Q4 (by first|rfl|omega),Q4 (by first|rfl|omega),Q4 (by first|rfl|omega),Q4 (by first|rfl|omega),.refl _,trivial⟩
           ·refine⟨⟨by decide,_,rfl,Q2 ?_ (fI1 _)⟩,⟨by decide,_,rfl,Q2 ?_ (fI2 _)⟩,⟨by decide,_,rfl,Q2 ?_ (fI1 _)⟩,⟨by decide,_,rfl,Q2 ?_ (fI2 _)⟩,trivial⟩
            ·show List.take i (List.drop 0 (out.map (encI ·.1)))++[[.int .i64 (asI ((R.getD (0+((↑(t.length+1):Int)-1).toNat) []).getD 0 .any))]]=_;rw[Nat.zero_add,hx4,hx2];exact Qx (g:=(encI ·.1)) hol (a,((t.length+1:Nat):Int))
            ·exact Qx (g:=(encI ·.2)) hol (a,((t.length+1:Nat):Int))
            ·show List.take (t.length+1) (List.drop 0 R)++[encI i]=_;rw[hRq,YI (by simp)];simp
            ·show List.take (t.length+1) (List.drop 0 (S.set (0+((↑(t.length+1):Int)-1).toNat) (Qm (S.getD (0+((↑(t.length+1):Int)-1).toNat) []) 0 [.int .i64 (asI ((S.getD (0+((↑(t.length+1):Int)-1).toNat) []).getD 0 .any)-1)])))++[encI (fs.getD i default).kids]=_;rw[Nat.zero_add,hx4,hx3,show Qm (encI k) 0 [.int .i64 (asI ((encI k).getD 0 .any)-1)]=encI (k-1) from rfl,hset,YI (by simp)];simp)
         |(refine Q1 [6,8,12,11] (by exact rfl) ?_ ?_
           ·exact⟨.refl _,Q4 (by first|rfl|omega),Q4 (by first|rfl|omega),Q4 (by first|rfl|omega),Q4 (by first|rfl|omega),.refl _,trivial⟩
           ·refine⟨⟨by decide,_,rfl,Q2 ?_ (fI1 _)⟩,⟨by decide,_,rfl,Q2 ?_ (fI2 _)⟩,⟨by decide,_,rfl,Q2 ?_ (fI1 _)⟩,⟨by decide,_,rfl,Q2 ?_ (fI2 _)⟩,trivial⟩
            ·show List.take i (List.drop 0 (out.map (encI ·.1)))++[[.int .i64 (asI ((R.getD (0+((↑(t.length+1):Int)-1).toNat) []).getD 0 .any))]]=_;rw[Nat.zero_add,hx4,hx2];exact Qx (g:=(encI ·.1)) hol (a,((t.length+1:Nat):Int))
            ·exact Qx (g:=(encI ·.2)) hol (a,((t.length+1:Nat):Int))
            ·show List.take (t.length+1) (List.drop 0 R)++[encI i]=_;rw[hRq,YI (by simp)];simp
            ·show List.take (t.length+1) (List.drop 0 (S.set (0+((↑(t.length+1):Int)-1).toNat) (Qm (S.getD (0+((↑(t.length+1):Int)-1).toNat) []) 0 [.int .i64 (asI ((S.getD (0+((↑(t.length+1):Int)-1).toNat) []).getD 0 .any)-1)])))++[encI (fs.getD i default).kids]=_;rw[Nat.zero_add,hx4,hx3,show Qm (encI k) 0 [.int .i64 (asI ((encI k).getD 0 .any)-1)]=encI (k-1) from rfl,hset,YI (by simp)];simp)
         |(refine Q1 [6,8,12,10] (by exact rfl) ?_ ?_
           ·exact⟨.refl _,Q4 (by first|rfl|omega),Q4 (by first|rfl|omega),Q4 (by first|rfl|omega),Q4 (by first|rfl|omega),.refl _,trivial⟩
           ·refine⟨⟨by decide,_,rfl,Q2 ?_ (fI1 _)⟩,⟨by decide,_,rfl,Q2 ?_ (fI2 _)⟩,⟨by decide,_,rfl,Q2 ?_ (fI1 _)⟩,⟨by decide,_,rfl,Q2 ?_ (fI2 _)⟩,trivial⟩
            ·show List.take i (List.drop 0 (out.map (encI ·.1)))++[[.int .i64 (asI ((R.getD (0+((↑(t.length+1):Int)-1).toNat) []).getD 0 .any))]]=_;rw[Nat.zero_add,hx4,hx2];exact Qx (g:=(encI ·.1)) hol (a,((t.length+1:Nat):Int))
            ·exact Qx (g:=(encI ·.2)) hol (a,((t.length+1:Nat):Int))
            ·show List.take (t.length+1) (List.drop 0 R)++[encI i]=_;rw[hRq,YI (by simp)];simp
            ·show List.take (t.length+1) (List.drop 0 (S.set (0+((↑(t.length+1):Int)-1).toNat) (Qm (S.getD (0+((↑(t.length+1):Int)-1).toNat) []) 0 [.int .i64 (asI ((S.getD (0+((↑(t.length+1):Int)-1).toNat) []).getD 0 .any)-1)])))++[encI (fs.getD i default).kids]=_;rw[Nat.zero_add,hx4,hx3,show Qm (encI k) 0 [.int .i64 (asI ((encI k).getD 0 .any)-1)]=encI (k-1) from rfl,hset,YI (by simp)];simp)
       repeat' first|refine And.intro ?_ ?_|(intro h;try first|exact dzi|replace h:=cvi)
       all_goals try exact cz
       exact⟨_,rC fs (i+1) (t.length+1+1) (out++[(a,((t.length+1:Nat):Int))]) (((((i:Nat):Int),(fs.getD i default).kids)::(a,k-1)::t).reverse.map (encI ·.1)) (((((i:Nat):Int),(fs.getD i default).kids)::(a,k-1)::t).reverse.map (encI ·.2)),.refl _ _ _,⟨_,_,_,⟨hnx,rfl⟩,.inr (.inr ⟨[],[],_,_,⟨QG,QG,(List.append_nil _).symm,(List.append_nil _).symm⟩,rfl⟩)⟩,by omega⟩
      ·rw[YY,if_neg hc]at hnx
       repeat' first|refine And.intro ?_ ?_|(intro h;try first|exact dzi|replace h:=cvi)
       all_goals try exact cz
       all_goals(try first|((with_reducible show(_:Int)≤(_:Int));simp only[hx2,hx3,hx4,Q6,Qb,QI,Nat.zero_add];omega)|((with_reducible show(_:Int)<(_:Int));simp only[hx2,hx3,hx4,Q6,Qb,QI,Nat.zero_add];omega)|((with_reducible show(_:Nat)≤(_:Nat));simp only[hx2,hx3,hx4,ZG,List.length_set,Nat.zero_add];omega)|((with_reducible show(_:Nat)<(_:Nat));simp only[hx2,hx3,hx4,ZG,List.length_set,Nat.zero_add];omega)|((with_reducible show isC _ _ _=true);simp only[hx2,hx3,hx4,Q6,Qb,QI,Nat.zero_add];exact rfl))
       all_goals
        refine⟨_,rC fs (i+1) (t.length+1) (out++[(a,((t.length+1:Nat):Int))]) R (S.set t.length (encI (k-1))),Q1 [6,8,2,3] rfl ?_ ?_,⟨_,_,_,⟨hnx,rfl⟩,.inr (.inr ⟨q1,q2,_,_,⟨hq1,hq2,hRq,hset⟩,rfl⟩)⟩,by omega⟩
        ·exact⟨.refl _,Q4 (by first|rfl|omega),Q4 (by first|rfl|omega),Q4 (by first|rfl|omega),Q4 (by first|rfl|omega),.refl _,trivial⟩
        ·refine⟨⟨by decide,_,rfl,Q2 ?_ (fI1 _)⟩,⟨by decide,_,rfl,Q2 ?_ (fI2 _)⟩,⟨by decide,_,rfl,Qc hfR⟩,⟨by decide,_,rfl,Q2 ?_ hfS2⟩,trivial⟩
         ·show List.take i (List.drop 0 (out.map (encI ·.1)))++[[.int .i64 (asI ((R.getD (0+((↑(t.length+1):Int)-1).toNat) []).getD 0 .any))]]=_;rw[Nat.zero_add,hx4,hx2];exact Qx (g:=(encI ·.1)) hol (a,((t.length+1:Nat):Int))
         ·exact Qx (g:=(encI ·.2)) hol (a,((t.length+1:Nat):Int))
         ·show S.set (0+((↑(t.length+1):Int)-1).toNat) (Qm (S.getD (0+((↑(t.length+1):Int)-1).toNat) []) 0 [.int .i64 (asI ((S.getD (0+((↑(t.length+1):Int)-1).toNat) []).getD 0 .any)-1)])=S.set t.length (encI (k-1));rw[Nat.zero_add,hx4,hx3];rfl
  · repeat' first|refine And.intro ?_ ?_|(intro h;try first|exact dz|replace h:=cv)
    all_goals try exact cz
    have hrun:=hI.run
    rw[List.drop_of_length_le (by omega),Hm]at hrun
    simp only[Fm,List.append_nil]at hrun
    exact⟨_,Fw (out:=out) rfl rfl rfl rfl hol,_,rfl,by rw[hrun];rfl,rfl⟩
end
section
set_option maxRecDepth 100000
set_option maxHeartbeats 4000000
def S_rwalk:SpecI:=fun args K=>∃fs,args=[vF fs]∧FsOk fs∧K (.tup [vI (Q0 fs),vI (Xk fs)])
theorem Lg[Syms]:X0 Try.prog 36 S_rwalk:=by
 rintro args K ⟨fs,rfl,h,hk⟩
 exact⟨rfl,_,rfl,hk,fnI QN QO Qn Qy Za (NH fs h.len h.kids)⟩
end
section
set_option maxRecDepth 100000
set_option maxHeartbeats 4000000
theorem OY[Syms](fs:List Fd)(hF:FsOk fs):
 fnT Qz (Qv 36 (Yh S_rwalk) Qz) (Zc fns) (Z5 tys) (ZS plt) 100 20 [vF fs] [] 0 (fun v H _=>v=vI (Q0 fs)∧H=[]):=by
 refine⟨fs,rfl,hF,?_⟩
 repeat' first|refine And.intro ?_ ?_|(intro h;try first|exact dz|replace h:=cv)
 all_goals try exact cz
 exact⟨_,QP [2] rfl,_,rfl,rfl,rfl⟩
theorem DF[Syms]:X0 Try.prog 20 S_par:=by
 rintro args K ⟨fs,rfl,h,hk⟩
 exact⟨rfl,_,rfl,hk,fnI QN QO Qn (Qp Lg Qy) Za (OY fs h)⟩
end
end Go.Proofs.Ytcpikannlnmafaa
