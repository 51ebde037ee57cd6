/-
  A striping on its way:its box,its columns' row,and the columns' blocks one behind the other. A cell of a leaf,laid behind its column.
-/
import Derived.Test.YtcpikannlnmafaaSxOne
import Derived.Test.YtcpikannlnmafaaL7
import Derived.Test.YtcpikannlnmafaaL9
set_option linter.unusedVariables false
set_option linter.unusedSimpArgs false
namespace Go.Proofs.Ytcpikannlnmafaa
open Go Go.Av
structure Wk where
 fs:List Fd
 ps:List Int
 lf:List Int
 rr:List Int
 L:Nat
abbrev UV(W:Wk):List AVal:=[vF W.fs,vI W.ps,vI W.lf,vI W.rr,.slice 2 0 W.L 3 none]
def ofK(E:List Cl)(k:Nat):List Cl:=E.filter fun c=>Nat.beq c.k k
def QJ(E:List Cl)(k:Nat):List Int:=(ofK E k).map Cl.r
def W7(E:List Cl)(k:Nat):List Int:=(ofK E k).map Cl.d
def Y5(E:List Cl)(k:Nat):List (Int×List UInt8):=(ofK E k).filterMap Cl.v
def vE1(x:Int):List AVal:=[.int .i64 x]
def vE2(v:Int×List UInt8):List AVal:=[.int .i64 v.1,.str v.2]
def Wz(b:Nat)(E:List Cl)(k:Nat):List AVal:=[Z8 (b+3*k) 1 (QJ E k),Z8 (b+3*k+1) 1 (W7 E k),Z8 (b+3*k+2) 2 (Y5 E k)]
def Xp(b L:Nat)(E:List Cl):List (List AVal):=(List.range L).map (Wz b E)
def fB(E:List Cl)(j:Nat):Option Blk:=if j%3=0 then Zi vE1 (QJ E (j/3))else if j%3=1 then Zi vE1 (W7 E (j/3))else Zi vE2 (Y5 E (j/3))
def wkH(b:Nat)(W:Wk)(E:List Cl):Heap:=(0,some (.cells [UV W] false))::(2,some (.cells (Xp b W.L E) false))::(STP,none)::Xy b (fB E) (3*W.L)
theorem ZY(b L:Nat)(E:List Cl):(Xp b L E).length=L:=by rw[Xp,List.length_map,List.length_range]
theorem WB{b L:Nat}{E:List Cl}{k:Nat}(h:k<L):(Xp b L E)[k]?=some (Wz b E k):=by
 rw[Xp,List.getElem?_map,List.getElem?_range h];rfl
theorem Pq(E:List Cl)(k:Nat):fB E (3*k)=Zi vE1 (QJ E k):=by
 rw[fB,if_pos (by omega),show 3*k/3=k by omega]
theorem Pp(E:List Cl)(k:Nat):fB E (3*k+1)=Zi vE1 (W7 E k):=by
 rw[fB,if_neg (by omega),if_pos (by omega),show(3*k+1)/3=k by omega]
theorem Po(E:List Cl)(k:Nat):fB E (3*k+2)=Zi vE2 (Y5 E k):=by
 rw[fB,if_neg (by omega),if_neg (by omega),show(3*k+2)/3=k by omega]
theorem Jv(E:List Cl)(c:Cl){k:Nat}(h:c.k≠k):ofK (E++[c]) k=ofK E k:=by
 rw[ofK,List.filter_append,List.filter_cons,if_neg (by rw[Qd h];decide),List.filter_nil,List.append_nil];rfl
theorem KD(E:List Cl)(c:Cl):ofK (E++[c]) c.k=ofK E c.k++[c]:=by
 rw[ofK,List.filter_append,List.filter_cons,if_pos (Nat.beq_refl _),List.filter_nil];rfl
theorem DK(E:List Cl)(k:Nat):(ofK E k).length≤E.length:=List.length_filter_le _ _
theorem N0(E:List Cl)(c:Cl){j:Nat}(h:c.k≠j/3):fB (E++[c]) j=fB E j:=by
 unfold fB QJ W7 Y5;rw[Jv E c h]
theorem KC{α:Type}(τ:Nat→Nat)(n sz:Nat)(l:List α):(Z8 n sz l).ren τ=Z8 (τ n) sz l:=by cases l<;>rfl
theorem Ye{α:Type}{n B:Nat}(sz:Nat)(l:List α)(h:n<B):(Z8 n sz l).under B=true:=by
 cases l with
 |nil=>rfl
 |cons a t=>show Nat.blt n B=true;rw[Nat.blt_eq];exact h
theorem Wy(τ:Nat→Nat)(b:Nat)(E:List Cl)(k:Nat):AVal.renL τ (Wz b E k)=[Z8 (τ (b+3*k)) 1 (QJ E k),Z8 (τ (b+3*k+1)) 1 (W7 E k),Z8 (τ (b+3*k+2)) 2 (Y5 E k)]:=by
 simp only[Wz,AVal.renL,KC]
theorem Vz{α:Type}{enc:α→List AVal}(hf:∀a,∀x∈enc a,x.flat=true){l:List α}{b:Blk}(h:Zi enc l=some b):∃rows,b= .cells rows false∧Qe rows:=by
 cases l with
 |nil=>cases h
 |cons a t=>cases h;exact⟨_,rfl,Qa hf _⟩
theorem X7(a:Int):∀x∈vE1 a,x.flat=true:=fun x hx=>by simp[vE1]at hx;subst hx;rfl
theorem V6(a:Int×List UInt8):∀x∈vE2 a,x.flat=true:=fun x hx=>by simp[vE2]at hx;rcases hx with rfl|rfl<;>rfl
theorem YN{E:List Cl}{j:Nat}{b:Blk}(h:fB E j=some b):∃rows,b= .cells rows false∧Qe rows:=by
 unfold fB at h
 split at h
 ·exact Vz X7 h
 ·split at h
  ·exact Vz X7 h
  ·exact Vz V6 h
theorem VG(B:Nat){x:AVal}(h:x.flat=true):x.under B=true:=by
 cases x<;>first|rfl|cases h
theorem Z3(B:Nat){rows:List (List AVal)}{ro:Bool}(h:Qe rows):(Blk.cells rows ro).under B=true:=
 List.all_eq_true.2 fun r hr=>List.all_eq_true.2 fun x hx=>VG B (h r hr x hx)
theorem NA(b:Nat)(W:Wk)(E:List Cl):(wkH b W E).get 0=some (.cells [UV W] false):=rfl
theorem IV(b:Nat)(W:Wk)(E:List Cl):(wkH b W E).get 2=some (.cells (Xp b W.L E) false):=rfl
theorem I2{b:Nat}(W:Wk)(E:List Cl){j:Nat}(h2:4≤b)(hb:b+j≠4294967295)(h:j<3*W.L):(wkH b W E).get (b+j)=fB E j:=by
 rw[wkH,Heap.get_cons,Qd (by omega),cond_false,Heap.get_cons,Qd (by omega),cond_false,Heap.get_cons,Qd hb,cond_false]
 exact Vj h
theorem GO{b:Nat}{W:Wk}{E:List Cl}{n:Nat}{c:Blk}(h:(wkH b W E).get n=some c):(n=0∧c= .cells [UV W] false)∨(n=2∧c= .cells (Xp b W.L E) false)∨ ∃j,j<3*W.L∧n=b+j∧fB E j=some c:=by
 rw[wkH,Heap.get_cons]at h
 by_cases h0:n=0
 ·subst h0
  cases h
  exact .inl ⟨rfl,rfl⟩
 ·rw[Qd h0,cond_false,Heap.get_cons]at h
  by_cases h1:n=2
  ·subst h1
   cases h
   exact .inr (.inl ⟨rfl,rfl⟩)
  ·rw[Qd h1,cond_false,Heap.get_cons]at h
   by_cases h2:n=STP
   ·subst h2;cases h
   ·rw[Qd h2,cond_false]at h
    exact .inr (.inr (KO h))
theorem V5{τ:Nat→Nat}(h:τ 2=2)(W:Wk):AVal.renL τ (UV W)=UV W:=by
 simp only[UV,AVal.renL,Vb τ (show(vF W.fs).flat=true from rfl),Vb τ (show(vI W.ps).flat=true from rfl),Vb τ (show(vI W.lf).flat=true from rfl),Vb τ (show(vI W.rr).flat=true from rfl),AVal.ren,h]
def okC(c:Nat):Bool:=Nat.ble c 3000000000||Nat.ble 4294967296 c
theorem Mq{c j:Nat}(h:okC c=true)(hj:j≤1000):c+j≠4294967295:=by
 simp only[okC,Bool.or_eq_true]at h
 rcases h with h|h<;>have:=Nat.le_of_ble_eq_true h<;>omega
def I3(b:Nat)(σ:Nat→Nat)(n:Nat):Nat:=if b≤n then σ (n-b)else n
theorem E7[Syms]{na N nx nx' b:Nat}{e e3:Env}{H:Heap}{W:Wk}{E:List Cl}{rows:List (List AVal)}(σ:Nat→Nat)(hna:na≤b)(hb:4≤b)(hnx:b+3*W.L≤nx')(h0:H.get 0=some (.cells [UV W] false))(h1:H.get 2=some (.cells rows false))(hl:rows.length=W.L)
 (hr:∀k,k<W.L→ ∀r,rows[k]?=some r→Jd r [Z8 (σ (3*k)) 1 (QJ E k),Z8 (σ (3*k+1)) 1 (W7 E k),Z8 (σ (3*k+2)) 2 (Y5 E k)])
 (hf:∀j,j<3*W.L→ ∀c,fB E j=some c→H.get (σ j)=some c) (hi:∀i j,i<3*W.L→j<3*W.L→σ i=σ j→i=j) (h2:∀j,j<3*W.L→4≤σ j) (he:UU (I3 b σ) e e3) (hel:Fi nx' e3):Reb na N ⟨e,H,nx⟩ ⟨e3,wkH b W E,nx'⟩:=by
 have t0:I3 b σ 0=0:=if_neg (by omega)
 have t1:I3 b σ 2=2:=if_neg (by omega)
 have tj:∀j,I3 b σ (b+j)=σ j:=fun j=>by rw[I3,if_pos (by omega),show b+j-b=j by omega]
 refine GB (I3 b σ) (by omega) (fun n hn=>if_neg (by omega)) (fun n m c d hn hm hnm=>?_) he hel ⟨⟨by omega,_,(by rw[t0];exact h0),Zg (by rw[V5 t1];exact ZO _)⟩,⟨by omega,_,(by rw[t1];exact h1),?_⟩,Ws fun j hj c hc=>⟨by omega,c,(by rw[tj];exact hf j hj c hc),?_⟩⟩ (fun n c hn=>?_)
 ·rcases GO hn with⟨rfl,_⟩|⟨rfl,_⟩|⟨i,i1,rfl,_⟩<;>rcases GO hm with⟨rfl,_⟩|⟨rfl,_⟩|⟨j,j1,rfl,_⟩
  ·rfl
  ·rw[t0,t1]at hnm;cases hnm
  ·rw[t0,tj]at hnm;have:=h2 j j1;omega
  ·rw[t0,t1]at hnm;cases hnm
  ·rfl
  ·rw[t1,tj]at hnm;have:=h2 j j1;omega
  ·rw[t0,tj]at hnm;have:=h2 i i1;omega
  ·rw[t1,tj]at hnm;have:=h2 i i1;omega
  ·rw[tj,tj]at hnm;rw[hi i j i1 j1 hnm]
 ·simp only[Blk.ren]
  refine .each _ _ _ (by rw[List.length_map,ZY,hl]) fun k r r' g1 g2=>?_
  have hk:k<W.L:=by
   have:=(List.getElem?_eq_some_iff.1 g1).1
   omega
  rw[List.getElem?_map,WB hk]at g2
  cases g2
  have:=hr k hk r g1
  rw[Wy,tj,Nat.add_assoc,tj,Nat.add_assoc,tj]
  exact⟨this.at.1.symm,this.at.2⟩
 ·obtain⟨rows,rfl,hfl⟩:=YN hc
  exact Qc hfl
 ·rcases GO hn with⟨rfl,rfl⟩|⟨rfl,rfl⟩|⟨j,j1,rfl,hc⟩
  ·show(Blk.under nx' (.cells [[vF W.fs,vI W.ps,vI W.lf,vI W.rr,.slice 2 0 W.L 3 none]] false))=true
   have hl:(AVal.slice 2 0 W.L 3 none).under nx'=true:=by show Nat.blt 2 nx'=true;rw[Nat.blt_eq];omega
   have h4:∀x:AVal,x.flat=true→x.under nx'=true:=fun x=>VG nx'
   simp[Blk.under,hl,h4 (vF W.fs) rfl,h4 (vI W.ps) rfl,h4 (vI W.lf) rfl,h4 (vI W.rr) rfl]
  ·refine List.all_eq_true.2 fun r hr'=>List.all_eq_true.2 fun x hx=>?_
   rw[Xp,List.mem_map]at hr'
   obtain⟨k,hk,rfl⟩:=hr'
   have hk:=List.mem_range.1 hk
   simp[Wz]at hx
   rcases hx with rfl|rfl|rfl<;>exact Ye _ _ (by omega)
  ·obtain⟨rows,rfl,hfl⟩:=YN hc
   exact Z3 _ hfl
theorem Yo[Syms]{na N nx nx' b c:Nat}{e e3:Env}{W:Wk}{E:List Cl}(hna:na≤b)(hb:4≤b)(hc':Nat.ble 4 c=true)(hs:okC c=true)(hL:W.L≤15)(hnx:b+3*W.L≤nx')(he:∀τ:Nat→Nat,τ 0=0→UU τ e e3)(hel:Fi nx' e3):Reb na N ⟨e,wkH c W E,nx⟩ ⟨e3,wkH b W E,nx'⟩:=
 have hc:4≤c:=Nat.le_of_ble_eq_true hc'
 E7 (fun j=>c+j) hna hb hnx (NA _ _ _) (IV _ _ _) (ZY _ _ _) (fun k hk r hr=>by
  rw[WB hk]at hr;cases hr;exact ZO _) (fun j hj d hd=>by rw[I2 W E hc (Mq hs (by omega)) hj];exact hd) (fun i j _ _ h=>by omega) (fun j _=>by omega) (he _ (if_neg (by omega))) hel
abbrev FamS:=List AVal→Wk→List Cl→(List Cl→Prop)→Prop
def FamS.ok[Syms](P:Program)(f:FuncId)(S:FamS):Prop:=∀rest W E Q,S rest W E Q→YZ P f (.ptr 0 0 0::rest) (wkH 4 W E) 50 fun v H nx=>v= .tup []∧nx=100∧ ∃E',Q E'∧H=wkH 52 W E'
def ED(S:FamS):CallT:=fun _ args H nx K=>∃b rest W E,args= .ptr 0 0 0::rest∧rest.all AVal.imm=true∧H=wkH b W E∧(4≤b∧b+46≤nx∧W.L≤15∧okC b=true∧okC nx=true)∧S rest W E fun E'=>K (.tup []) (wkH (nx+52) W E') (nx+100)
theorem NL(ρ:Nat→Nat){x:AVal}(h:x.imm=true):x.ren ρ=x:=by
 cases x with
 |agg cs=>simp only[AVal.ren];rw[W9 ρ fun x hx=>List.all_eq_true.1 h x hx]
 |tup cs=>simp only[AVal.ren];rw[W9 ρ fun x hx=>List.all_eq_true.1 h x hx]
 |func f cs=>simp only[AVal.ren];rw[W9 ρ fun x hx=>List.all_eq_true.1 h x hx]
 |_=>exact Vb ρ h
theorem F4(ρ:Nat→Nat):∀{l:List AVal},l.all AVal.imm=true→G5 ρ l l
 |[],_=>trivial
 |x::l,h=>by
  rw[List.all_cons,Bool.and_eq_true]at h
  exact⟨by rw[NL ρ h.1];exact .refl _,F4 ρ h.2⟩
theorem Wa{ρ:Nat→Nat}(hinj:∀n m,ρ n=ρ m→n=m):∀(A:Heap) (n:Nat) (b:Blk),A.get n=some b→b.ro=false→(M9 ρ A).get (ρ n)=some (b.ren ρ)
 |[],n,b,h,_=>by rw[Heap.get_nil]at h;cases h
 |(k,o)::t,n,b,h,hr=>by
  rw[Heap.get_cons]at h
  by_cases hk:n=k
  ·subst hk
   rw[Nat.beq_refl]at h
   have h:o=some b:=h
   subst h
   simp only[M9]
   rw[Heap.get_cons,Nat.beq_refl,hr]
   rfl
  ·rw[Qd hk]at h
   have:=Wa hinj t n b h hr
   cases o with
   |none=>simp only[M9];rw[Heap.get_cons,Qd (fun e=>hk (hinj _ _ e))];exact this
   |some a=>simp only[M9];rw[Heap.get_cons,Qd (fun e=>hk (hinj _ _ e))];exact this
theorem Wh:∀(A H:Heap) (m:Nat) (b:Blk),A.get m=some b→(IL A H).get m=some b
 |[],H,m,b,h=>by rw[Heap.get_nil]at h;cases h
 |(k,o)::t,H,m,b,h=>by
  simp only[IL]
  rw[Heap.get_cons]at h ⊢
  by_cases hk:m=k
  ·subst hk;rw[Nat.beq_refl]at h ⊢;exact h
  ·rw[Qd hk]at h ⊢;exact Wh t H m b h
def Ua(b:Nat):List Nat:=0::1::2::3::(List.range 46).map (b+ ·)
theorem YM(b:Nat):(Ua b).length=50:=by simp[Ua]
theorem Oh(b:Nat){j:Nat}(h:j<46):(Ua b).getD (4+j) 0=b+j:=by
 rw[Ua,show 4+j=j+1+1+1+1 by omega,List.getD_cons_succ,List.getD_cons_succ,List.getD_cons_succ,List.getD_cons_succ,List.getD_eq_getElem?_getD,List.getElem?_map,List.getElem?_range h]
 rfl
theorem Og{b nx:Nat}(h2:4≤b)(h:b+46≤nx):WG 0 nx (Ua b)=true:=by
 have hm:∀n∈Ua b,n<nx:=fun n hn=>by
  simp[Ua]at hn
  rcases hn with rfl|rfl|rfl|rfl|⟨j,hj,rfl⟩<;>omega
 have hn:(Ua b).Nodup:=by
  unfold Ua
  refine List.nodup_cons.2 ⟨fun hm=>?_,List.nodup_cons.2 ⟨fun hm=>?_,List.nodup_cons.2 ⟨fun hm=>?_,List.nodup_cons.2 ⟨fun hm=>?_,?_⟩⟩⟩⟩
  all_goals first|(simp at hm;omega)|skip
  ·exact List.Pairwise.map _ (fun x y (h:x≠y)=>by omega) List.nodup_range
 simp only[WG,Bool.and_eq_true,decide_eq_true_eq,List.all_eq_true]
 exact⟨⟨⟨fun n hn=>by rw[Nat.blt_eq];exact hm n hn,hn⟩,by rw[Nat.ble_eq];exact Nat.zero_le _⟩,fun n hn=>by simp at hn⟩
theorem Uz[Syms]{P:Program}{n:Nat}{S:FamS}{d:CallT}(hS:S.ok P n)(hd:d.ok P):(Qv n (ED S) d).ok P:=by
 intro f args H nx0 K h
 unfold Qv at h
 cases hfn:Nat.beq f n with
 |false=>rw[hfn]at h;exact hd f args H nx0 K h
 |true=>
  rw[hfn]at h
  have:=Nat.eq_of_beq_eq_true hfn
  subst this
  obtain⟨b,rest,W,E,rfl,himm,rfl,⟨hb2,hbn,hL,hob,hnx⟩,hs⟩:=h
  have r0:rho (Ua b) nx0 0=0:=Xu (by rw[YM];decide)
  have r1:rho (Ua b) nx0 2=2:=Xu (by rw[YM];decide)
  have rj:∀j,j<46→rho (Ua b) nx0 (4+j)=b+j:=fun j hj=>by rw[Xu (by rw[YM];omega),Oh b hj]
  have rg:∀j,rho (Ua b) nx0 (52+j)=nx0+52+j:=fun j=>by rw[WS (by rw[YM];omega)];omega
  have hok:=Og hb2 hbn
  have hinj:∀n m,rho (Ua b) nx0 n=rho (Ua b) nx0 m→n=m:=by
   have hok':=hok
   simp only[WG,Bool.and_eq_true,decide_eq_true_eq]at hok'
   exact fun n m=>DH hok'.1.1.1 hok'.1.1.2
  have hq:=F1 (S:=fun args H nx Post=>args= .ptr 0 0 0::rest∧H=wkH 4 W E∧nx=50∧ ∀E',K (.tup []) (wkH (nx0+52) W E') (nx0+100)→Post (.tup []) (wkH 52 W E') 100) (f:=f) (P:=P) (fun args H nx Post ⟨a1,a2,a3,hp⟩=>by
   subst a1;subst a2;subst a3
   obtain⟨q1,q2⟩:=hS _ _ _ _ hs
   refine⟨q1,fun ι w vs hv hH hb=>(q2 ι w vs hv hH hb).mono ?_⟩
   rintro e w' ⟨v,H',nx0',r,κ,⟨rfl,rfl,E',hE,rfl⟩,h⟩
   exact⟨_,_,_,r,κ,hp E' hE,h⟩) (args:=.ptr 0 0 0::rest) (H:=wkH b W E) (nx:=nx0)
   (K:=fun v H' nx0'=>v= .tup []∧nx0'=nx0+100∧ ∃E',K (.tup []) (wkH (nx0+52) W E') (nx0+100)∧(wkH (nx0+52) W E').sub H')
   ⟨Ua b,.ptr 0 0 0::rest,wkH 4 W E,hok,⟨by show WkV _ (.ptr (rho _ _ 0) 0 0);rw[r0];exact .refl _,F4 _ himm⟩,?_,rfl,rfl,YM b,fun E' hE=>⟨rfl,rfl,E',hE,?_⟩⟩
  ·refine⟨hq.1,fun ι w vs hv hH hb=>(hq.2 ι w vs hv hH hb).mono ?_⟩
   rintro e w' ⟨v,H',nx0',r,κ,⟨rfl,rfl,E',hK,hsub⟩,h2,h3,h4,h5,h6⟩
   exact⟨_,_,_,r,κ,hK,h2,h3,h4.sub hsub,⟨h5.st.sub_right hsub,h5.up,h5.fresh⟩,h6⟩
  ·refine⟨⟨by rw[YM];decide,_,(by rw[r0];exact NA _ _ _),Zg (by rw[V5 r1];exact ZO _)⟩,⟨by rw[YM];decide,_,(by rw[r1];exact IV _ _ _),?_⟩,Ws fun j hj c hc=>⟨by rw[YM];omega,c,?_,?_⟩⟩
   ·have:(Blk.cells (Xp 4 W.L E) false).ren (rho (Ua b) nx0)= .cells (Xp b W.L E) false:=by
     simp only[Blk.ren,Xp,List.map_map]
     congr 1
     refine List.map_congr_left fun k hk=>?_
     have hk:=List.mem_range.1 hk
     show AVal.renL _ (Wz 4 E k)=_
     rw[Wy,rj _ (by omega),Nat.add_assoc,rj _ (by omega),Nat.add_assoc,rj _ (by omega)]
     rfl
    rw[this]
    exact .refl _
   ·rw[rj _ (by omega),I2 W E hb2 (Mq hob (by omega)) hj];exact hc
   ·obtain⟨rows,rfl,hfl⟩:=YN hc
    exact Qc hfl
  ·intro n c hn
   rcases GO hn with⟨rfl,rfl⟩|⟨rfl,rfl⟩|⟨j,j1,rfl,hc⟩
   ·have:=Wa hinj (wkH 52 W E') 0 _ (NA _ _ _) rfl
    rw[r0]at this
    refine Wh _ _ _ _ (this.trans (congrArg some ?_))
    simp only[Blk.ren,List.map_cons,List.map_nil,V5 r1]
   ·have:=Wa hinj (wkH 52 W E') 2 _ (IV _ _ _) rfl
    rw[r1]at this
    refine Wh _ _ _ _ (this.trans (congrArg some ?_))
    simp only[Blk.ren,Xp,List.map_map]
    congr 1
    refine List.map_congr_left fun k hk=>?_
    show AVal.renL _ (Wz 52 E' k)=_
    rw[Wy,rg,show 52+3*k+1=52+(3*k+1) from rfl,rg,show 52+3*k+2=52+(3*k+2) from rfl,rg]
    rfl
   ·have hg:(wkH 52 W E').get (52+j)=some c:=(I2 W E' (by decide) (by omega) j1).trans hc
    obtain⟨rows,rfl,hfl⟩:=YN hc
    have:=Wa hinj (wkH 52 W E') (52+j) _ hg rfl
    rw[rg,Um _ hfl]at this
    exact Wh _ _ _ _ this
section
set_option maxRecDepth 100000
set_option maxHeartbeats 4000000
def Xt(E:List Cl)(k j:Nat):Option Blk:=if j/3=k then none else fB E j
def fcX(W:Wk)(E:List Cl)(k:Nat)(rl dl:List Int)(vl:List (Int×List UInt8)):List (List AVal):=(Xp 4 W.L E).set k [Z8 52 1 rl,Z8 54 1 dl,Z8 56 2 vl]
def fcH(W:Wk)(E:List Cl)(k:Nat)(bx:List AVal)(rl dl:List Int)(vl:List (Int×List UInt8)):Heap:=
 (0,some (.cells [UV W] false))::(2,some (.cells (fcX W E k rl dl vl) false))::(50,some (.cells [bx] false))::(52,Zi vE1 rl)::(54,Zi vE1 dl)::(56,Zi vE2 vl)::(STP,none)::Xy 4 (Xt E k) (3*W.L)
def fcT(k n:Nat):Nat:=if n=52 then 4+3*k else if n=54 then 4+(3*k+1)else if n=56 then 4+(3*k+2)else n
theorem EB{W:Wk}{E:List Cl}{k n:Nat}{bx:List AVal}{rl dl:List Int}{vl:List (Int×List UInt8)}{c:Blk}(h:(fcH W E k bx rl dl vl).get n=some c):
 n=0∨n=2∨n=50∨n=52∨n=54∨n=56∨ ∃j,j<3*W.L∧n=4+j∧j/3≠k∧fB E j=some c:=by
 by_cases h0:n=0
 ·exact .inl h0
 ·by_cases h1:n=2
  ·exact .inr (.inl h1)
  ·by_cases h50:n=50
   ·exact .inr (.inr (.inl h50))
   ·by_cases h52:n=52
    ·exact .inr (.inr (.inr (.inl h52)))
    ·by_cases h54:n=54
     ·exact .inr (.inr (.inr (.inr (.inl h54))))
     ·by_cases h56:n=56
      ·exact .inr (.inr (.inr (.inr (.inr (.inl h56)))))
      ·refine .inr (.inr (.inr (.inr (.inr (.inr ?_)))))
       rw[fcH,Heap.get_cons,Qd h0,cond_false,Heap.get_cons,Qd h1,cond_false,Heap.get_cons,Qd h50,cond_false,Heap.get_cons,Qd h52,cond_false,Heap.get_cons,Qd h54,cond_false,Heap.get_cons,Qd h56,cond_false,Heap.get_cons]at h
       by_cases hs:n=STP
       ·subst hs;cases h
       ·rw[Qd hs,cond_false]at h
        obtain⟨j,j1,j2,j3⟩:=KO h
        unfold Xt at j3
        split at j3
        ·cases j3
        ·exact⟨j,j1,j2,‹_›,j3⟩
theorem WL{α:Type}{enc:α→List AVal}(hf:∀a,∀x∈enc a,x.flat=true){l:List α}{B:Nat}{b:Blk}(h:Zi enc l=some b):b.under B=true:=by
 obtain⟨rows,rfl,hfl⟩:=Vz hf h
 exact Z3 _ hfl
theorem HF{α:Type}{ρ:Nat→Nat}{n m:Nat}{H t:Heap}{enc:α→List AVal}{l:List α}(hf:∀a,∀x∈enc a,x.flat=true)(hm:m<n)(h:H.get (ρ m)=Zi enc l)(ht:ZR ρ n H t):ZR ρ n H ((m,Zi enc l)::t):=
 OJ (Qa hf l) hm h ht
theorem IU[Syms]{N nx:Nat}{e e3:Env}{H:Heap}{W:Wk}{E:List Cl}{k:Nat}{bx:List AVal}(hk:k<W.L)(hL:W.L≤15)(hbx:∀x∈bx,x.flat=true)(h0:H.get 0=some (.cells [UV W] false))(h1:H.get 2=some (.cells (Xp 4 W.L E) false))(h50:H.get 50=some (.cells [bx] false))
 (hf:∀j,j<3*W.L→H.get (4+j)=fB E j) (he:∀τ:Nat→Nat,τ 0=0→τ 50=50→UU τ e e3) (hel:Fi 60 e3):Reb 50 N ⟨e,H,nx⟩ ⟨e3,fcH W E k bx (QJ E k) (W7 E k) (Y5 E k),60⟩:=by
 have t0:fcT k 0=0:=rfl
 have t1:fcT k 2=2:=rfl
 have t50:fcT k 50=50:=rfl
 have t52:fcT k 52=4+3*k:=rfl
 have t53:fcT k 54=4+(3*k+1):=rfl
 have t54:fcT k 56=4+(3*k+2):=rfl
 have tl:∀n,n<50→fcT k n=n:=fun n hn=>by rw[fcT,if_neg (by omega),if_neg (by omega),if_neg (by omega)]
 refine GB (fcT k) (by omega) tl (fun n m c d hn hm hnm=>?_) (he _ t0 t50) hel ?_ (fun n c hn=>?_)
 ·rcases EB hn with rfl|rfl|rfl|rfl|rfl|rfl|⟨i,i1,rfl,i2,_⟩<;>rcases EB hm with rfl|rfl|rfl|rfl|rfl|rfl|⟨j,j1,rfl,j2,_⟩<;>first|rfl|skip
  all_goals(try rw[t0]at hnm)
  all_goals(try rw[t1]at hnm)
  all_goals(try rw[t50]at hnm)
  all_goals(try rw[t52]at hnm)
  all_goals(try rw[t53]at hnm)
  all_goals(try rw[t54]at hnm)
  all_goals(try rw[tl (4+i) (by omega)]at hnm)
  all_goals(try rw[tl (4+j) (by omega)]at hnm)
  all_goals omega
 ·refine⟨⟨by decide,_,h0,Zg (by rw[V5 t1];exact ZO _)⟩,⟨by decide,_,h1,?_⟩,⟨by decide,_,h50,Du (ZO _) hbx⟩,HF X7 (by decide) ?_ (HF X7 (by decide) ?_ (HF V6 (by decide) ?_ (Ws fun j hj c hc=>⟨by omega,c,?_,?_⟩)))⟩
  ·have:(Blk.cells (fcX W E k (QJ E k) (W7 E k) (Y5 E k)) false).ren (fcT k)= .cells (Xp 4 W.L E) false:=by
    simp only[Blk.ren,fcX]
    congr 1
    refine List.ext_getElem? fun q=>?_
    rw[List.getElem?_map,List.getElem?_set]
    by_cases hq:k=q
    ·subst hq
     rw[if_pos rfl,if_pos (by rw[ZY];exact hk),WB hk]
     simp only[Option.map_some,AVal.renL,KC,t52,t53,t54]
     rfl
    ·rw[if_neg hq]
     by_cases hq2:q<W.L
     ·rw[WB hq2]
      simp only[Option.map_some,Wy,tl _ (show 4+3*q<50 by omega),tl _ (show 4+3*q+1<50 by omega),tl _ (show 4+3*q+2<50 by omega)]
      rfl
     ·rw[List.getElem?_eq_none (by rw[ZY];omega)];rfl
   rw[this]
   exact .refl _
  ·rw[t52,hf _ (by omega),Pq]
  ·rw[t53,hf _ (by omega),Pp]
  ·rw[t54,hf _ (by omega),Po]
  ·unfold Xt at hc
   split at hc
   ·cases hc
   ·rw[tl _ (by omega),hf j hj];exact hc
  ·unfold Xt at hc
   split at hc
   ·cases hc
   ·obtain⟨rows,rfl,hfl⟩:=YN hc
    exact Qc hfl
 ·rcases EB hn with rfl|rfl|rfl|rfl|rfl|rfl|⟨i,i1,rfl,i2,hi⟩
  ·cases hn
   have hl:(AVal.slice 2 0 W.L 3 none).under 60=true:=rfl
   have h4:∀x:AVal,x.flat=true→x.under 60=true:=fun x=>VG 60
   simp[Blk.under,hl,h4 (vF W.fs) rfl,h4 (vI W.ps) rfl,h4 (vI W.lf) rfl,h4 (vI W.rr) rfl]
  ·cases hn
   refine List.all_eq_true.2 fun r hr'=>List.all_eq_true.2 fun x hx=>?_
   rcases List.mem_or_eq_of_mem_set hr' with hr'|rfl
   ·rw[Xp,List.mem_map]at hr'
    obtain⟨q,hq,rfl⟩:=hr'
    have hq:=List.mem_range.1 hq
    simp[Wz]at hx
    rcases hx with rfl|rfl|rfl<;>exact Ye _ _ (by omega)
   ·simp at hx
    rcases hx with rfl|rfl|rfl<;>exact Ye _ _ (by decide)
  ·cases hn
   exact Z3 _ (Xs hbx QG)
  ·exact WL X7 hn
  ·exact WL X7 hn
  ·exact WL V6 hn
  ·obtain⟨rows,rfl,hfl⟩:=YN hi
   exact Z3 _ hfl
theorem Vn[Syms]{N nx:Nat}{e:Env}{l:Heap}{W:Wk}{E:List Cl}{c:Cl}{r0 row:List AVal}{kk:Nat}(a1 a2 a3:Nat)(hl:Ok 4 50 l=true)(ha:50≤a1∧50≤a2∧50≤a3∧a1≠a2∧a1≠a3∧a2≠a3)(hk:c.k<W.L)(hL:W.L≤15)
 (h0:Heap.get (l++Xy 4 (Xt E c.k) (3*W.L)) 0=some (.cells [UV W] false)) (h1:Heap.get (l++Xy 4 (Xt E c.k) (3*W.L)) 2=some (.cells (((Xp 4 W.L E).set c.k r0).set kk row) false)) (hkk:kk=c.k)
 (hrow:Jd row [Z8 a1 1 (QJ (E++[c]) c.k),Z8 a2 1 (W7 (E++[c]) c.k),Z8 a3 2 (Y5 (E++[c]) c.k)])
 (g1:Heap.get (l++Xy 4 (Xt E c.k) (3*W.L)) a1=Zi vE1 (QJ (E++[c]) c.k)) (g2:Heap.get (l++Xy 4 (Xt E c.k) (3*W.L)) a2=Zi vE1 (W7 (E++[c]) c.k)) (g3:Heap.get (l++Xy 4 (Xt E c.k) (3*W.L)) a3=Zi vE2 (Y5 (E++[c]) c.k)):
 Reb 50 N ⟨e,l++Xy 4 (Xt E c.k) (3*W.L),nx⟩ ⟨[],wkH 52 W (E++[c]),100⟩:=by
 subst hkk
 have s0:∀q,(if(3*q)/3=c.k then(if(3*q)%3=0 then a1 else if(3*q)%3=1 then a2 else a3)else 4+3*q)=if q=c.k then a1 else 4+3*q:=fun q=>by
  rw[show 3*q/3=q by omega,show 3*q%3=0 by omega];rfl
 have s1:∀q,(if(3*q+1)/3=c.k then(if(3*q+1)%3=0 then a1 else if(3*q+1)%3=1 then a2 else a3)else 4+(3*q+1))=if q=c.k then a2 else 4+(3*q+1):=fun q=>by
  rw[show(3*q+1)/3=q by omega,show(3*q+1)%3=1 by omega];rfl
 have s2:∀q,(if(3*q+2)/3=c.k then(if(3*q+2)%3=0 then a1 else if(3*q+2)%3=1 then a2 else a3)else 4+(3*q+2))=if q=c.k then a3 else 4+(3*q+2):=fun q=>by
  rw[show(3*q+2)/3=q by omega,show(3*q+2)%3=2 by omega];rfl
 refine E7 (fun j=>if j/3=c.k then(if j%3=0 then a1 else if j%3=1 then a2 else a3)else 4+j) (by decide) (by decide) (by omega) h0 h1 (by rw[List.length_set,List.length_set,ZY]) (fun q hq r hr=>?_) (fun j hj d hd=>?_) (fun i j i1 j1 h=>?_) (fun j hj=>?_) trivial (fun n=>by rw[Env.get_nil];rfl)
 ·rw[s0,s1,s2]
  rw[List.set_set,List.getElem?_set]at hr
  by_cases hqk:c.k=q
  ·subst hqk
   rw[if_pos rfl,if_pos (by rw[ZY];exact hk)]at hr
   cases hr
   rw[if_pos rfl,if_pos rfl,if_pos rfl]
   exact hrow
  ·rw[if_neg hqk,WB hq]at hr
   cases hr
   rw[if_neg (fun h=>hqk h.symm),if_neg (fun h=>hqk h.symm),if_neg (fun h=>hqk h.symm)]
   unfold QJ W7 Y5
   rw[Jv E c hqk]
   exact ZO _
 ·by_cases hjk:j/3=c.k
  ·rw[if_pos hjk]
   by_cases m0:j%3=0
   ·rw[if_pos m0,g1,←hd,show j=3*c.k by omega,Pq]
   ·rw[if_neg m0]
    by_cases m1:j%3=1
    ·rw[if_pos m1,g2,←hd,show j=3*c.k+1 by omega,Pp]
    ·rw[if_neg m1,g3,←hd,show j=3*c.k+2 by omega,Po]
  ·rw[if_neg hjk,KL hl (by omega) (by omega),Vj hj,Xt,if_neg hjk,←N0 E c (fun h=>hjk h.symm)]
   exact hd
 ·split at h<;>split at h<;>(try split at h)<;>(try split at h)<;>(try split at h)<;>(try split at h)<;>omega
 ·split
  ·split
   ·omega
   ·split<;>omega
  ·omega
def S_cell:FamS:=fun rest W E Q=>∃(at_ k:Nat) (r d n:Int) (s:List UInt8) (has:Bool),rest=[.int .i64 (at_:Nat),.int .i64 r,.int .i64 d,.agg [.int .i64 n,.str s],.bool has]∧(W.L≤15∧at_<W.lf.length∧W.lf.getD at_ 0=(k:Nat)∧k<W.L∧E.length≤1000000)∧Q (E++[⟨k,r,d,bif has then some (n,s)else none⟩])
theorem Zh{B:Nat}:∀{e:Env},(e.all fun p=>p.2.under B)=true→Fi B e
 |[],_,k=>by rw[Env.get_nil];rfl
 |(j,v)::t,h,k=>by
  rw[List.all_cons,Bool.and_eq_true]at h
  rw[Env.get_cons]
  by_cases hk:k=j
  ·rw[hk,Nat.beq_refl];exact h.1
  ·rw[Qd hk];exact Zh h.2 k
theorem wkp{τ:Nat→Nat}{n:Nat}(h:τ n=n):WkV (.ptr n 0 0) ((AVal.ptr n 0 0).ren τ):=by
 simp only[AVal.ren,h];exact .refl _
theorem Oj(W:Wk)(E:List Cl)(k:Nat)(rl dl:List Int)(vl:List (Int×List UInt8)):(fcX W E k rl dl vl).length=W.L:=by rw[fcX,List.length_set,ZY]
theorem EC{W:Wk}{E:List Cl}{k:Nat}(rl dl:List Int)(vl:List (Int×List UInt8)){at_:Nat}(hk:k<W.L)(hx:W.lf.getD at_ 0=(k:Nat)):(fcX W E k rl dl vl).getD (0+(asI (((fun i=>encI (W.lf.getD i 0)) ((at_:Int)).toNat).getD 0 AVal.any)).toNat) []=[Z8 52 1 rl,Z8 54 1 dl,Z8 56 2 vl]:=by
 show(fcX W E k rl dl vl).getD (0+(W.lf.getD at_ 0).toNat) []=_
 rw[hx,Nat.zero_add,Int.toNat_natCast,List.getD_eq_getElem?_getD,fcX,List.getElem?_set,if_pos rfl,if_pos (by rw[ZY];exact hk)]
 rfl
theorem L2{B C:Nat}(h:B≤C):∀{x:AVal},x.under B=true→x.under C=true:=by
 have h1:∀x:AVal,x.under1 B=true→x.under1 C=true:=fun x hx=>by
  cases x<;>first|exact hx|(simp only[AVal.under1,Nat.blt_eq]at hx ⊢;omega)
 have hl:∀l:List AVal,l.all (AVal.under1 B)=true→l.all (AVal.under1 C)=true:=fun l hx=>List.all_eq_true.2 fun x hm=>h1 x (List.all_eq_true.1 hx x hm)
 intro x hx
 cases x with
 |agg cs=>exact hl _ hx
 |tup cs=>exact hl _ hx
 |func f cs=>exact hl _ hx
 |ptr n k j=>exact h1 (.ptr n k j) hx
 |slice n a b c d=>exact h1 (.slice n a b c d) hx
 |obj n=>exact h1 (.obj n) hx
 |tagp n t=>exact h1 (.tagp n t) hx
 |tslice n a b c=>exact h1 (.tslice n a b c) hx
 |iface t v=>cases hx
 |_=>rfl
def okN(A B T:Nat):Bool:=Nat.blt 56 A&&(Nat.blt 56 B&&(Nat.blt 56 T&&(!Nat.beq A B&&(!Nat.beq A T&&!Nat.beq B T))))
def cS2(W:Wk)(E:List Cl)(k at_:Nat)(has:Bool)(bx:List AVal)(X:List (List AVal))(rl dl:List Int)(vl:List (Int×List UInt8)):St:=
 ⟨[(0,.ptr 0 0 0),(1,.int .i64 at_),(5,.bool has),(10,.ptr 50 0 0),(12,.ptr 60 0 0)],(0,some (.cells [UV W] false))::(2,some (.cells X false))::(50,some (.cells [bx] false))::(60,some (.cells [[.slice 62 0 rl.length 1 none,.slice 64 0 dl.length 1 none,Z8 56 2 vl]] false))::
  (62,some (.cells (rl.map vE1) false))::(64,some (.cells (dl.map vE1) false))::(56,Zi vE2 vl)::(STP,none)::Xy 4 (Xt E k) (3*W.L),70⟩
def c2T(A B T n:Nat):Nat:=if n=60 then T else if n=62 then A else if n=64 then B else n
theorem LZ{W:Wk}{E:List Cl}{k:Nat}{rl dl:List Int}{vl:List (Int×List UInt8)}(hL:W.L≤15):∀r∈fcX W E k rl dl vl,(∀τ:Nat→Nat,(∀n,n<60→τ n=n)→AVal.renL τ r=r)∧ ∀x∈r,x.under 60=true:=by
 intro r hr
 rw[fcX]at hr
 rcases List.mem_or_eq_of_mem_set hr with hr|rfl
 ·rw[Xp,List.mem_map]at hr
  obtain⟨q,hq,rfl⟩:=hr
  have hq:=List.mem_range.1 hq
  refine⟨fun τ hτ=>?_,fun x hx=>?_⟩
  ·rw[Wy,hτ _ (by omega),hτ _ (by omega),hτ _ (by omega)];rfl
  ·simp[Wz]at hx
   rcases hx with rfl|rfl|rfl<;>exact Ye _ _ (by omega)
 ·refine⟨fun τ hτ=>?_,fun x hx=>?_⟩
  ·simp only[AVal.renL,KC,hτ 52 (by decide),hτ 54 (by decide),hτ 56 (by decide)]
  ·simp at hx
   rcases hx with rfl|rfl|rfl<;>exact Ye _ _ (by decide)
theorem EQ{W:Wk}{E:List Cl}{k at_ n:Nat}{has:Bool}{bx:List AVal}{X:List (List AVal)}{rl dl:List Int}{vl:List (Int×List UInt8)}{c:Blk}(h:(cS2 W E k at_ has bx X rl dl vl).heap.get n=some c):
 n=0∨n=2∨n=50∨n=60∨n=62∨n=64∨n=56∨ ∃j,j<3*W.L∧n=4+j∧fB E j=some c:=by
 by_cases h0:n=0
 ·exact .inl h0
 by_cases h1:n=2
 ·exact .inr (.inl h1)
 by_cases h50:n=50
 ·exact .inr (.inr (.inl h50))
 by_cases h60:n=60
 ·exact .inr (.inr (.inr (.inl h60)))
 by_cases h62:n=62
 ·exact .inr (.inr (.inr (.inr (.inl h62))))
 by_cases h64:n=64
 ·exact .inr (.inr (.inr (.inr (.inr (.inl h64)))))
 by_cases h56:n=56
 ·exact .inr (.inr (.inr (.inr (.inr (.inr (.inl h56))))))
 refine .inr (.inr (.inr (.inr (.inr (.inr (.inr ?_))))))
 rw[cS2,Heap.get_cons,Qd h0,cond_false,Heap.get_cons,Qd h1,cond_false,Heap.get_cons,Qd h50,cond_false,Heap.get_cons,Qd h60,cond_false,Heap.get_cons,Qd h62,cond_false,Heap.get_cons,Qd h64,cond_false,Heap.get_cons,Qd h56,cond_false,Heap.get_cons]at h
 by_cases hs:n=STP
 ·subst hs;cases h
 ·rw[Qd hs,cond_false]at h
  obtain⟨j,j1,j2,j3⟩:=KO h
  unfold Xt at j3
  split at j3
  ·cases j3
  ·exact⟨j,j1,j2,j3⟩
theorem E9[Syms]{N nx A B T n1 n2 k at_:Nat}{e:Env}{l:Heap}{W:Wk}{E:List Cl}{has:Bool}{bx:List AVal}{rA rB:List (List AVal)}{rl dl rl0 dl0:List Int}{vl vl0:List (Int×List UInt8)}(hL:W.L≤15)(hl:Ok 4 50 l=true)(hbx:∀x∈bx,x.flat=true)
 (he0:e.get 0= .ptr 0 0 0) (he1:e.get 1= .int .i64 (at_:Nat)) (he5:e.get 5= .bool has) (he10:e.get 10= .ptr 50 0 0) (h12:e.get 12= .ptr T 0 0) (h0:Heap.get (l++Xy 4 (Xt E k) (3*W.L)) 0=some (.cells [UV W] false)) (h2:Heap.get (l++Xy 4 (Xt E k) (3*W.L)) 2=some (.cells (fcX W E k rl0 dl0 vl0) false)) (h50:Heap.get (l++Xy 4 (Xt E k) (3*W.L)) 50=some (.cells [bx] false))
 (hT:Heap.get (l++Xy 4 (Xt E k) (3*W.L)) T=some (.cells [[.slice A 0 n1 1 none,.slice B 0 n2 1 none,Z8 56 2 vl]] false)) (hn1:n1=rl.length) (hn2:n2=dl.length) (hA:Heap.get (l++Xy 4 (Xt E k) (3*W.L)) A=some (.cells rA false)) (hrA:rA=rl.map vE1) (hB:Heap.get (l++Xy 4 (Xt E k) (3*W.L)) B=some (.cells rB false)) (hrB:rB=dl.map vE1)
 (hV:Heap.get (l++Xy 4 (Xt E k) (3*W.L)) 56=Zi vE2 vl) (hok:okN A B T=true):Reb 50 N ⟨e,l++Xy 4 (Xt E k) (3*W.L),nx⟩ (cS2 W E k at_ has bx (fcX W E k rl0 dl0 vl0) rl dl vl):=by
 subst hn1;subst hn2;subst hrA;subst hrB
 simp only[okN,Bool.and_eq_true,Nat.blt_eq,Bool.not_eq_true']at hok
 obtain⟨o1,o2,o3,o4,o5,o6⟩:=hok
 have o4:A≠B:=fun h=>by rw[h,Nat.beq_refl]at o4;cases o4
 have o5:A≠T:=fun h=>by rw[h,Nat.beq_refl]at o5;cases o5
 have o6:B≠T:=fun h=>by rw[h,Nat.beq_refl]at o6;cases o6
 have t60:c2T A B T 60=T:=rfl
 have t62:c2T A B T 62=A:=rfl
 have t64:c2T A B T 64=B:=rfl
 have tl:∀n,n<60→c2T A B T n=n:=fun n hn=>by rw[c2T,if_neg (by omega),if_neg (by omega),if_neg (by omega)]
 refine GB (c2T A B T) (by omega) (fun n hn=>tl n (by omega)) (fun n m c d hn hm hnm=>?_) ⟨by rw[he0];exact wkp (tl 0 (by decide)),by rw[he1];exact .refl _,by rw[he5];exact .refl _,by rw[he10];exact wkp (tl 50 (by decide)),by rw[h12];exact .refl _,trivial⟩ (Zh rfl) ?_ (fun n c hn=>?_)
 ·rcases EQ (at_:=at_) (has:=has) hn with rfl|rfl|rfl|rfl|rfl|rfl|rfl|⟨i,i1,rfl,_⟩<;>rcases EQ (at_:=at_) (has:=has) hm with rfl|rfl|rfl|rfl|rfl|rfl|rfl|⟨j,j1,rfl,_⟩<;>first|rfl|skip
  all_goals(try rw[tl 0 (by decide)]at hnm)
  all_goals(try rw[tl 2 (by decide)]at hnm)
  all_goals(try rw[tl 50 (by decide)]at hnm)
  all_goals(try rw[tl 56 (by decide)]at hnm)
  all_goals(try rw[t60]at hnm)
  all_goals(try rw[t62]at hnm)
  all_goals(try rw[t64]at hnm)
  all_goals(try rw[tl (4+i) (by omega)]at hnm)
  all_goals(try rw[tl (4+j) (by omega)]at hnm)
  all_goals omega
 ·refine⟨⟨by decide,_,h0,Zg (by rw[V5 (tl 2 (by decide))];exact ZO _)⟩,⟨by decide,_,h2,?_⟩,⟨by decide,_,h50,Du (ZO _) hbx⟩,⟨by decide,_,hT,Zg ?_⟩,⟨by decide,_,hA,Qc (Qa X7 _)⟩,⟨by decide,_,hB,Qc (Qa X7 _)⟩,HF V6 (by decide) hV (Ws fun j hj c hc=>⟨by omega,c,?_,?_⟩)⟩
  ·have:(Blk.cells (fcX W E k rl0 dl0 vl0) false).ren (c2T A B T)= .cells (fcX W E k rl0 dl0 vl0) false:=by
    simp only[Blk.ren]
    congr 1
    exact(List.map_congr_left fun r hr=>(LZ hL r hr).1 _ tl).trans (List.map_id' _)
   rw[this]
   exact .refl _
  ·simp only[AVal.renL,KC,AVal.ren,t62,t64,tl 56 (by decide)]
   exact ZO _
  ·rw[tl _ (by omega),KL hl (by omega) (by omega),Vj hj];exact hc
  ·unfold Xt at hc
   split at hc
   ·cases hc
   ·obtain⟨rows,rfl,hfl⟩:=YN hc
    exact Qc hfl
 ·rcases EQ (at_:=at_) (has:=has) hn with rfl|rfl|rfl|rfl|rfl|rfl|rfl|⟨i,i1,rfl,hi⟩
  ·cases hn
   have hl:(AVal.slice 2 0 W.L 3 none).under 70=true:=rfl
   have h4:∀x:AVal,x.flat=true→x.under 70=true:=fun x=>VG 70
   simp[Blk.under,hl,h4 (vF W.fs) rfl,h4 (vI W.ps) rfl,h4 (vI W.lf) rfl,h4 (vI W.rr) rfl]
  ·cases hn
   refine List.all_eq_true.2 fun r hr'=>List.all_eq_true.2 fun x hx=>L2 (by decide) ((LZ hL r hr').2 x hx)
  ·cases hn
   exact Z3 _ (Xs hbx QG)
  ·cases hn
   have hv:(Z8 56 2 vl).under 70=true:=Ye _ _ (by decide)
   have ha:(AVal.slice 62 0 rl.length 1 none).under 70=true:=rfl
   have hb:(AVal.slice 64 0 dl.length 1 none).under 70=true:=rfl
   simp[Blk.under,hv,ha,hb]
  ·cases hn
   exact Z3 _ (Qa X7 _)
  ·cases hn
   exact Z3 _ (Qa X7 _)
  ·exact WL V6 hn
  ·obtain⟨rows,rfl,hfl⟩:=YN hi
   exact Z3 _ hfl
theorem gr1(l:List Int)(x:Int):List.take l.length (List.drop 0 (l.map vE1))++[[AVal.int .i64 x]]=(l++[x]).map vE1:=by
 rw[List.drop_zero,List.take_of_length_le (by simp),List.map_append];rfl
theorem gr2(l:List (Int×List UInt8))(x:Int)(s:List UInt8):List.take l.length (List.drop 0 (l.map vE2))++[[AVal.int .i64 x,.str s]]=(l++[(x,s)]).map vE2:=by
 rw[List.drop_zero,List.take_of_length_le (by simp),List.map_append];rfl
theorem MT(E:List Cl)(k:Nat)(r d:Int)(v:Option (Int×List UInt8)):QJ (E++[⟨k,r,d,v⟩]) k=QJ E k++[r]:=by
 rw[QJ,KD E ⟨k,r,d,v⟩,List.map_append];rfl
theorem MU(E:List Cl)(k:Nat)(r d:Int)(v:Option (Int×List UInt8)):W7 (E++[⟨k,r,d,v⟩]) k=W7 E k++[d]:=by
 rw[W7,KD E ⟨k,r,d,v⟩,List.map_append];rfl
theorem JP(E:List Cl)(k:Nat)(r d:Int):Y5 (E++[⟨k,r,d,none⟩]) k=Y5 E k:=by
 rw[Y5,KD E ⟨k,r,d,none⟩,List.filterMap_append];exact List.append_nil _
theorem JO(E:List Cl)(k:Nat)(r d:Int)(v:Int×List UInt8):Y5 (E++[⟨k,r,d,some v⟩]) k=Y5 E k++[v]:=by
 rw[Y5,KD E ⟨k,r,d,some v⟩,List.filterMap_append];rfl
theorem K8{W:Wk}{at_ k:Nat}(hx:W.lf.getD at_ 0=(k:Nat)):0+(asI (((fun i=>encI (W.lf.getD i 0)) ((at_:Int)).toNat).getD 0 AVal.any)).toNat=k:=by
 show 0+(W.lf.getD at_ 0).toNat=k
 rw[hx,Int.toNat_natCast,Nat.zero_add]
theorem JH{W:Wk}{E:List Cl}{k:Nat}(rl dl:List Int)(vl:List (Int×List UInt8)){at_:Nat}(hk:k<W.L)(hx:W.lf.getD at_ 0=(k:Nat)):(0+(asI (((fun i=>encI (W.lf.getD i 0)) ((at_:Int)).toNat).getD 0 AVal.any)).toNat).succ≤(fcX W E k rl dl vl).length:=by
 rw[K8 hx,Oj];exact hk
theorem wko{α:Type}{n sz len:Nat}{cap:Option Nat}{l:List α}(hl:len=l.length)(h0:0<l.length):WkV (.slice n 0 len sz cap) (Z8 n sz l):=by
 rw[Vd n sz h0];subst hl;exact .cap _ _ _ _ _
noncomputable def Rf:Nat→Nat→Pl:=Kz [(54,0),(54,2)] (ZS plt)
theorem Pw[Syms]{W:Wk}{E:List Cl}{Q:List Cl→Prop}(at_ k:Nat)(r d n:Int)(s:List UInt8)(has:Bool)(hL:W.L≤15)(hat:at_<W.lf.length)(hx1:W.lf.getD at_ 0=(k:Nat))(hk:k<W.L)(hE:E.length≤1000000)(hQ:Q (E++[⟨k,r,d,bif has then some (n,s)else none⟩])):
 fnT Qz Qz (Zc fns) (Z5 tys) Rf 100 54 [.ptr 0 0 0,.int .i64 (at_:Nat),.int .i64 r,.int .i64 d,.agg [.int .i64 n,.str s],.bool has] (wkH 4 W E) 50 fun v H nx=>v= .tup []∧nx=100∧ ∃E',Q E'∧H=wkH 52 W E':=by
 refine⟨⟨[(0,.ptr 0 0 0),(1,.int .i64 at_),(2,.int .i64 r),(3,.int .i64 d),(5,.bool has),(10,.ptr 50 0 0)],fcH W E k [.int .i64 n,.str s] (QJ E k) (W7 E k) (Y5 E k),60⟩,IU hk hL (fun x hx=>by simp at hx;rcases hx with rfl|rfl<;>rfl) rfl rfl rfl (fun j hj=>?_) (fun τ h0 h50=>?_) ?_,?_⟩
 ·exact(KL (l:=[(0,_),(2,_),(50,_),(STP,none)]) (t:=Xy 4 (fB E) (3*W.L)) (lo:=4) (hi:=50) rfl (by omega) (by omega)).trans (Vj hj)
 ·exact⟨wkp h0,.refl _,.refl _,.refl _,.refl _,wkp h50,trivial⟩
 ·exact Zh rfl
 have hlr:(QJ E k).length≤1000000:=by rw[QJ,List.length_map];exact Nat.le_trans (DK E k) hE
 have hld:(W7 E k).length≤1000000:=by rw[W7,List.length_map];exact Nat.le_trans (DK E k) hE
 have hlv:(Y5 E k).length≤1000000:=Nat.le_trans (List.length_filterMap_le _ _) (Nat.le_trans (DK E k) hE)
 generalize hrl:QJ E k=rl at *
 generalize hdl:W7 E k=dl at *
 generalize hvl:Y5 E k=vl at *
 have hn0:rl.length=dl.length:=by rw[←hrl,←hdl,QJ,W7,List.length_map,List.length_map]
 have hn1:vl.length≤rl.length:=by rw[←hrl,←hvl,QJ,Y5,List.length_map];exact List.length_filterMap_le _ _
 cases rl with
 |nil=>
  obtain rfl:dl=[]:=List.eq_nil_of_length_eq_zero hn0.symm
  obtain rfl:vl=[]:=List.eq_nil_of_length_eq_zero (Nat.le_zero.1 hn1)
  have e3:=EC (E:=E) [] [] [] hk hx1
  repeat' first|refine And.intro ?_ ?_|(intro h;try first|exact dzh|replace h:=cvh)
  all_goals try exact cz
  ·rw[e3];rfl
  all_goals(try first|exact Nat.le_of_ble_eq_true rfl|(show _<_;exact Nat.lt_of_sub_pos rfl))
  rw[e3]
  repeat' first|refine And.intro ?_ ?_|(intro h;try first|exact dzh|replace h:=cvh)
  all_goals try exact cz
  refine⟨cS2 W E k at_ has [.int .i64 n,.str s] (fcX W E k [] [] []) ([]++[r]) ([]++[d]) [],?_,?_⟩
  · repeat' first|refine And.intro ?_ ?_|(intro h;try first|exact dzh|replace h:=cvh)
    all_goals try exact cz
    all_goals(try first|(show(_+1)*8≤_;omega)|(show _+1≤_;omega))
    all_goals(refine Exists.intro () ?_)
    all_goals(refine E9 (l:=[_,_,_,_,_,_,_,_,_,_,_,_]) hL rfl (fun x hx=>?_) rfl rfl rfl rfl rfl rfl rfl rfl rfl ?_ ?_ rfl ?_ rfl ?_ rfl (by kernel_rfl))
    all_goals(first|(simp at hx;rcases hx with rfl|rfl<;>rfl)|(simp;done)|exact gr1 _ _|exact rfl)
  ·have cR1:∀v,QJ (E++[⟨k,r,d,v⟩]) k=[]++[r]:=fun v=>by rw[MT,hrl]
   have cD1:∀v,W7 (E++[⟨k,r,d,v⟩]) k=[]++[d]:=fun v=>by rw[MU,hdl]
   cases has
   ·have cV1:Y5 (E++[⟨k,r,d,none⟩]) k=[]:=by rw[JP,hvl]
    repeat' first|refine And.intro ?_ ?_|(intro h;try first|exact dzh|replace h:=cvh)
    all_goals try exact cz
    ·exact JH _ _ _ hk hx1
    ·rw[e3];exact Nat.le_of_ble_eq_true rfl
    ·exact⟨⟨[],wkH 52 W (E++[⟨k,r,d,none⟩]),100⟩,Vn (c:=⟨k,r,d,none⟩) (l:=[_,_,_,_,_,_,_,_]) 62 64 56 rfl (by decide) hk hL rfl rfl (K8 hx1) (by rw[e3,cR1,cD1,cV1];exact⟨.refl _,.refl _,.refl _,trivial⟩) (by rw[cR1];exact rfl) (by rw[cD1];exact rfl) (by rw[cV1];exact rfl),_,rfl,⟨rfl,rfl,_,hQ,rfl⟩⟩
   ·have cV1:Y5 (E++[⟨k,r,d,some (n,s)⟩]) k=[]++[(n,s)]:=by rw[JO,hvl]
    repeat' first|refine And.intro ?_ ?_|(intro h;try first|exact dzh|replace h:=cvh)
    all_goals try exact cz
    all_goals(try first|(show(_+1)*24≤_;omega)|(show _+1≤_;omega))
    ·exact JH _ _ _ hk hx1
    ·rw[e3];exact Nat.le_of_ble_eq_true rfl
    ·exact⟨⟨[],wkH 52 W (E++[⟨k,r,d,some (n,s)⟩]),100⟩,Vn (c:=⟨k,r,d,some (n,s)⟩) (l:=[_,_,_,_,_,_,_,_,_,_]) 62 64 71 rfl (by decide) hk hL rfl rfl (K8 hx1) (by rw[e3,cR1,cD1,cV1];exact⟨.refl _,.refl _,wko (by simp) (by simp),trivial⟩) (by rw[cR1];exact rfl) (by rw[cD1];exact rfl) (by rw[cV1,ZD vE2 (by simp)];first|exact rfl|exact congrArg (fun z=>some (Blk.cells z false)) (gr2 _ _ _)),_,rfl,⟨rfl,rfl,_,hQ,rfl⟩⟩
 |cons r0 rt=>
  cases dl with
  |nil=>cases hn0
  |cons d0 dt=>
   cases vl with
   |nil=>
    have e3:=EC (E:=E) (r0::rt) (d0::dt) [] hk hx1
    repeat' first|refine And.intro ?_ ?_|(intro h;try first|exact dzh|replace h:=cvh)
    all_goals try exact cz
    ·rw[e3];rfl
    all_goals(try first|exact Nat.le_of_ble_eq_true rfl|(show _<_;exact Nat.lt_of_sub_pos rfl))
    rw[e3]
    repeat' first|refine And.intro ?_ ?_|(intro h;try first|exact dzh|replace h:=cvh)
    all_goals try exact cz
    refine⟨cS2 W E k at_ has [.int .i64 n,.str s] (fcX W E k (r0::rt) (d0::dt) []) ((r0::rt)++[r]) ((d0::dt)++[d]) [],?_,?_⟩
    · repeat' first|refine And.intro ?_ ?_|(intro h;try first|exact dzh|replace h:=cvh)
      all_goals try exact cz
      all_goals(try first|(show(_+1)*8≤_;omega)|(show _+1≤_;omega))
      all_goals(refine Exists.intro () ?_)
      all_goals(refine E9 (l:=[_,_,_,_,_,_,_,_,_,_,_,_]) hL rfl (fun x hx=>?_) rfl rfl rfl rfl rfl rfl rfl rfl rfl ?_ ?_ rfl ?_ rfl ?_ rfl (by kernel_rfl))
      all_goals(first|(simp at hx;rcases hx with rfl|rfl<;>rfl)|(simp;done)|exact gr1 _ _|exact rfl)
    ·have cR1:∀v,QJ (E++[⟨k,r,d,v⟩]) k=(r0::rt)++[r]:=fun v=>by rw[MT,hrl]
     have cD1:∀v,W7 (E++[⟨k,r,d,v⟩]) k=(d0::dt)++[d]:=fun v=>by rw[MU,hdl]
     cases has
     ·have cV1:Y5 (E++[⟨k,r,d,none⟩]) k=[]:=by rw[JP,hvl]
      repeat' first|refine And.intro ?_ ?_|(intro h;try first|exact dzh|replace h:=cvh)
      all_goals try exact cz
      ·exact JH _ _ _ hk hx1
      ·rw[e3];exact Nat.le_of_ble_eq_true rfl
      ·exact⟨⟨[],wkH 52 W (E++[⟨k,r,d,none⟩]),100⟩,Vn (c:=⟨k,r,d,none⟩) (l:=[_,_,_,_,_,_,_,_]) 62 64 56 rfl (by decide) hk hL rfl rfl (K8 hx1) (by rw[e3,cR1,cD1,cV1];exact⟨.refl _,.refl _,.refl _,trivial⟩) (by rw[cR1];exact rfl) (by rw[cD1];exact rfl) (by rw[cV1];exact rfl),_,rfl,⟨rfl,rfl,_,hQ,rfl⟩⟩
     ·have cV1:Y5 (E++[⟨k,r,d,some (n,s)⟩]) k=[]++[(n,s)]:=by rw[JO,hvl]
      repeat' first|refine And.intro ?_ ?_|(intro h;try first|exact dzh|replace h:=cvh)
      all_goals try exact cz
      all_goals(try first|(show(_+1)*24≤_;omega)|(show _+1≤_;omega))
      ·exact JH _ _ _ hk hx1
      ·rw[e3];exact Nat.le_of_ble_eq_true rfl
      ·exact⟨⟨[],wkH 52 W (E++[⟨k,r,d,some (n,s)⟩]),100⟩,Vn (c:=⟨k,r,d,some (n,s)⟩) (l:=[_,_,_,_,_,_,_,_,_,_]) 62 64 71 rfl (by decide) hk hL rfl rfl (K8 hx1) (by rw[e3,cR1,cD1,cV1];exact⟨.refl _,.refl _,wko (by simp) (by simp),trivial⟩) (by rw[cR1];exact rfl) (by rw[cD1];exact rfl) (by rw[cV1,ZD vE2 (by simp)];first|exact rfl|exact congrArg (fun z=>some (Blk.cells z false)) (gr2 _ _ _)),_,rfl,⟨rfl,rfl,_,hQ,rfl⟩⟩
   |cons v0 vt=>
    have e3:=EC (E:=E) (r0::rt) (d0::dt) (v0::vt) hk hx1
    repeat' first|refine And.intro ?_ ?_|(intro h;try first|exact dzh|replace h:=cvh)
    all_goals try exact cz
    ·rw[e3];rfl
    all_goals(try first|exact Nat.le_of_ble_eq_true rfl|(show _<_;exact Nat.lt_of_sub_pos rfl))
    rw[e3]
    repeat' first|refine And.intro ?_ ?_|(intro h;try first|exact dzh|replace h:=cvh)
    all_goals try exact cz
    refine⟨cS2 W E k at_ has [.int .i64 n,.str s] (fcX W E k (r0::rt) (d0::dt) (v0::vt)) ((r0::rt)++[r]) ((d0::dt)++[d]) (v0::vt),?_,?_⟩
    · repeat' first|refine And.intro ?_ ?_|(intro h;try first|exact dzh|replace h:=cvh)
      all_goals try exact cz
      all_goals(try first|(show(_+1)*8≤_;omega)|(show _+1≤_;omega))
      all_goals(refine Exists.intro () ?_)
      all_goals(refine E9 (l:=[_,_,_,_,_,_,_,_,_,_,_,_]) hL rfl (fun x hx=>?_) rfl rfl rfl rfl rfl rfl rfl rfl rfl ?_ ?_ rfl ?_ rfl ?_ rfl (by kernel_rfl))
      all_goals(first|(simp at hx;rcases hx with rfl|rfl<;>rfl)|(simp;done)|exact gr1 _ _|exact rfl)
    ·have cR1:∀v,QJ (E++[⟨k,r,d,v⟩]) k=(r0::rt)++[r]:=fun v=>by rw[MT,hrl]
     have cD1:∀v,W7 (E++[⟨k,r,d,v⟩]) k=(d0::dt)++[d]:=fun v=>by rw[MU,hdl]
     cases has
     ·have cV1:Y5 (E++[⟨k,r,d,none⟩]) k=(v0::vt):=by rw[JP,hvl]
      repeat' first|refine And.intro ?_ ?_|(intro h;try first|exact dzh|replace h:=cvh)
      all_goals try exact cz
      ·exact JH _ _ _ hk hx1
      ·rw[e3];exact Nat.le_of_ble_eq_true rfl
      ·exact⟨⟨[],wkH 52 W (E++[⟨k,r,d,none⟩]),100⟩,Vn (c:=⟨k,r,d,none⟩) (l:=[_,_,_,_,_,_,_,_]) 62 64 56 rfl (by decide) hk hL rfl rfl (K8 hx1) (by rw[e3,cR1,cD1,cV1];exact⟨.refl _,.refl _,.refl _,trivial⟩) (by rw[cR1];exact rfl) (by rw[cD1];exact rfl) (by rw[cV1];exact rfl),_,rfl,⟨rfl,rfl,_,hQ,rfl⟩⟩
     ·have cV1:Y5 (E++[⟨k,r,d,some (n,s)⟩]) k=(v0::vt)++[(n,s)]:=by rw[JO,hvl]
      repeat' first|refine And.intro ?_ ?_|(intro h;try first|exact dzh|replace h:=cvh)
      all_goals try exact cz
      all_goals(try first|(show(_+1)*24≤_;omega)|(show _+1≤_;omega))
      ·exact JH _ _ _ hk hx1
      ·rw[e3];exact Nat.le_of_ble_eq_true rfl
      ·exact⟨⟨[],wkH 52 W (E++[⟨k,r,d,some (n,s)⟩]),100⟩,Vn (c:=⟨k,r,d,some (n,s)⟩) (l:=[_,_,_,_,_,_,_,_,_,_]) 62 64 71 rfl (by decide) hk hL rfl rfl (K8 hx1) (by rw[e3,cR1,cD1,cV1];exact⟨.refl _,.refl _,wko (by simp) (by simp),trivial⟩) (by rw[cR1];exact rfl) (by rw[cD1];exact rfl) (by rw[cV1,ZD vE2 (by simp)];first|exact rfl|exact congrArg (fun z=>some (Blk.cells z false)) (gr2 _ _ _)),_,rfl,⟨rfl,rfl,_,hQ,rfl⟩⟩
theorem HT[Syms]:FamS.ok Try.prog 54 S_cell:=by
 rintro rest W E Q ⟨at_,k,r,d,n,s,has,rfl,⟨h1,h2,h3,h4,h5⟩,hQ⟩
 exact QS QN QO Qn Qy Za (Pw at_ k r d n s has h1 h2 h3 h4 h5 hQ)
end
end Go.Proofs.Ytcpikannlnmafaa
