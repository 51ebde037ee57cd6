/-
  The fields in a field lie one behind the other. Plain. How far two leaves are repeated together,by the fields that both lie in;which leaf is next. Plain. Records as plain trees;and what 'Make' of chapter 8 makes of raw numbers. Plain. The cells of a record,in their order;the machine that reads them,leaf by leaf,goes along. Plain.
-/
import Derived.Test.YtcpikannlnmafaaL2
set_option linter.unusedVariables false
set_option linter.unusedSimpArgs false
namespace Go.Proofs.Ytcpikannlnmafaa
open Go Go.Av
theorem ZU{ps:List Int}(ha:X5 ps ps.length){k:Nat}(h:k<ps.length){x:Int}:x∈upA ps k↔x=k∨x∈upA ps (ps.getD k 0):=by rw[Yq ha h,List.mem_cons]
theorem GV{ps:List Int}(ha:X5 ps ps.length){k:Nat}(h:k<ps.length):(k:Int)∈upA ps k:=(ZU ha h).2 (.inl rfl)
theorem V7{ps:List Int}(ha:X5 ps ps.length):∀(n:Nat) (y:Int),y<n→y<ps.length→ ∀x∈upA ps y,∀z∈upA ps x,z∈upA ps y
 |0,y,h,_,x,hx,z,hz=>by
  rw[XB (by omega)]at hx;cases hx
 |n+1,y,h,hl,x,hx,z,hz=>by
  by_cases h0:y<0
  ·rw[XB h0]at hx;cases hx
  ·obtain⟨y,rfl⟩:=Int.eq_ofNat_of_zero_le (show 0≤y by omega)
   have hy:y<ps.length:=by omega
   rcases(ZU ha hy).1 hx with rfl|hx
   ·exact hz
   ·have hq:=ha y hy
    exact(ZU ha hy).2 (.inr (V7 ha n _ (by omega) (by omega) x hx z hz))
theorem BC{ps:List Int}(ha:X5 ps ps.length):∀(n:Nat) (y:Int),y<n→y<ps.length→ ∀x∈upA ps y,∀z∈upA ps y,z≤x→z∈upA ps x
 |0,y,h,_,x,hx,z,hz,_=>by rw[XB (by omega)]at hx;cases hx
 |n+1,y,h,hl,x,hx,z,hz,hle=>by
  by_cases h0:y<0
  ·rw[XB h0]at hx;cases hx
  ·obtain⟨y,rfl⟩:=Int.eq_ofNat_of_zero_le (show 0≤y by omega)
   have hy:y<ps.length:=by omega
   have hq:=ha y hy
   rcases(ZU ha hy).1 hx with rfl|hx
   ·exact hz
   ·rcases(ZU ha hy).1 hz with rfl|hz
    ·have:=VX ha (k:=ps.getD y 0) (by omega) x hx
     omega
    ·exact BC ha n _ (by omega) (by omega) x hx z hz hle
def VS(ps:List Int)(st:Stk):Prop:=st.map Prod.fst=upA ps (XO st)
theorem IE(ps:List Int):VS ps []:=by
 show[]=upA ps (-1)
 rw[XB (by decide)]
theorem EL{ps:List Int}(ha:X5 ps ps.length){p:Int×Int}{st:Stk}(h:VS ps (p::st))(h0:0≤p.1)(h1:p.1<ps.length):VS ps st:=by
 obtain⟨a,k⟩:=p
 obtain⟨a,rfl⟩:=Int.eq_ofNat_of_zero_le h0
 have hal:a<ps.length:=by have:((a:Nat):Int)<ps.length:=h1;omega
 have hq:=ha a hal
 have h:(a:Int)::st.map Prod.fst=upA ps a:=h
 rw[Yq ha hal,List.cons.injEq]at h
 have h:=h.2
 have key:XO st=ps.getD a 0:=by
  cases st with
  |nil=>
   by_cases hn:ps.getD a 0<0
   ·show(-1:Int)=_;omega
   ·exfalso
    obtain⟨b,hb⟩:=Int.eq_ofNat_of_zero_le (show 0≤ps.getD a 0 by omega)
    rw[hb,Yq ha (by omega)]at h
    cases h
  |cons q t=>
   by_cases hn:ps.getD a 0<0
   ·rw[XB hn]at h;cases h
   ·obtain⟨b,hb⟩:=Int.eq_ofNat_of_zero_le (show 0≤ps.getD a 0 by omega)
    rw[hb,Yq ha (by omega),List.map_cons,List.cons.injEq]at h
    rw[hb]
    exact h.1
 rw[VS,key]
 exact h
theorem Dj{ps:List Int}(ha:X5 ps ps.length):∀{st:Stk},VS ps st→(∀p∈st,0≤p.1∧p.1<ps.length)→VS ps (Z0 st)
 |[],h,_=>h
 |(a,k)::t,h,hm=>by
  rw[Z0]
  split
  ·exact Dj ha (EL ha h (hm _ (List.mem_cons_self ..)).1 (hm _ (List.mem_cons_self ..)).2) fun p hp=>hm p (List.mem_cons_of_mem _ hp)
  ·exact h
theorem GH:∀st:Stk,(Yk st).map Prod.fst=st.map Prod.fst∧XO (Yk st)=XO st
 |[]=>⟨rfl,rfl⟩
 |(a,k)::t=>⟨rfl,rfl⟩
theorem NV{st:Stk}(h:0≤XO st):∃p∈st,p.1=XO st:=by
 cases st with
 |nil=>exact absurd h (by decide)
 |cons p t=>exact⟨p,List.mem_cons_self ..,rfl⟩
structure OpenI(fs:List Fd)(ps:List Int)(i:Nat)(st:Stk):Prop where
 rest:(Zr fs 0 []).drop i=Zr (fs.drop i) i st
 chain:VS ps st
 mem:∀p∈st,0≤p.1∧p.1<i∧p.1∈upA ps ((i:Int)-1)∧(fs.getD p.1.toNat default).kind=0
theorem Uu{fs:List Fd}{ps:List Int}(ha:X5 ps ps.length)(hl:ps.length=fs.length)(he:ps=Q0 fs){i:Nat}{st:Stk}(hi:i<fs.length)(h:OpenI fs ps i st):
 (ps.getD i 0= -1∨0≤ps.getD i 0∧ps.getD i 0∈upA ps ((i:Int)-1)∧(fs.getD (ps.getD i 0).toNat default).kind=0)∧(Xk fs).getD i 0=(upA ps (ps.getD i 0)).length∧ ∃st',OpenI fs ps (i+1) (Zs i (fs.getD i default) st'):=by
 have hpm:∀p∈Z0 st,p∈st:=fun p hp=>Mk hp
 have hc:=Dj ha h.chain fun p hp=>⟨(h.mem p hp).1,by have:=(h.mem p hp).2.1;omega⟩
 have hwl:(Zr fs 0 []).length=fs.length:=XI fs 0 []
 have hr0:=h.rest
 rw[UB hi,List.drop_eq_getElem_cons (by omega),Zr,List.cons.injEq]at hr0
 obtain⟨h10,h2⟩:=hr0
 have h1:ps[i]'(by omega)=XO (Z0 st):=by
  have e:ps[i]'(by omega)=((Zr fs 0 [])[i]'(by omega)).1:=by
   subst he
   simp only[Q0,List.getElem_map]
  rw[e,h10]
 have hdep:(Xk fs).getD i 0=((Z0 st).length:Int):=by
  rw[Xk,List.getD_eq_getElem?_getD,List.getElem?_map,List.getElem?_eq_getElem (by omega),h10];rfl
 have hp:ps.getD i 0=XO (Z0 st):=by
  rw[List.getD_eq_getElem?_getD,List.getElem?_eq_getElem (by omega)];exact h1
 have hcase:ps.getD i 0= -1∨0≤ps.getD i 0:=by have:=ha i (by omega);omega
 refine⟨?_,?_⟩
 ·rcases hcase with h0|h0
  ·exact .inl h0
  ·right
   obtain⟨p,hpm',e⟩:=NV (st:=Z0 st) (by rw[←hp];exact h0)
   obtain⟨m1,m2,m3,m4⟩:=h.mem p (hpm p hpm')
   rw[hp,←e]
   exact⟨m1,m3,m4⟩
 refine⟨by rw[hdep,hp,←hc,List.length_map],?_⟩
 ·have hup:∀p∈Z0 st,p.1∈upA ps ps[i]:=fun p hpp=>by
   have e:ps[i]=XO (Z0 st):=h1
   rw[e,←hc]
   exact List.mem_map_of_mem hpp
  have hsi:∀x,x∈upA ps ps[i]→x∈upA ps (i:Int):=fun x hx=>(ZU ha (by omega)).2 (.inr (by rw[List.getD_eq_getElem?_getD,List.getElem?_eq_getElem (by omega)];exact hx))
  have hd:∀p∈Yk (Z0 st),0≤p.1∧p.1<((i+1:Nat):Int)∧p.1∈upA ps (((i+1:Nat):Int)-1)∧(fs.getD p.1.toNat default).kind=0:=fun p hpd=>by
   have:p.1∈(Yk (Z0 st)).map Prod.fst:=List.mem_map_of_mem hpd
   rw[(GH _).1]at this
   obtain⟨q,hq,e⟩:=List.mem_map.1 this
   obtain⟨m1,m2,m3,m4⟩:=h.mem q (hpm q hq)
   rw[←e,show((i+1:Nat):Int)-1=(i:Int) by omega]
   exact⟨m1,by omega,hsi _ (hup q hq),m4⟩
  have hcd:VS ps (Yk (Z0 st)):=by rw[VS,(GH _).1,(GH _).2];exact hc
  refine⟨_,h2,?_,?_⟩
  ·unfold Zs
   split
   ·show(i:Int)::(Yk (Z0 st)).map Prod.fst=upA ps i
    rw[Yq ha (by omega),hcd,(GH _).2,hp]
   ·exact hcd
  ·unfold Zs
   split
   ·rename_i hk
    intro p hpp
    rcases List.mem_cons.1 hpp with rfl|hpp
    ·refine⟨by show(0:Int)≤(i:Int);omega,by show(i:Int)<_;omega,?_,by show(fs.getD ((i:Nat):Int).toNat default).kind=0;rw[Int.toNat_natCast];exact hk⟩
     show(i:Int)∈upA ps (((i+1:Nat):Int)-1)
     rw[show((i+1:Nat):Int)-1=(i:Int) by omega]
     exact GV ha (by omega)
    ·exact hd p hpp
   ·exact hd
theorem GC{fs:List Fd}{ps:List Int}(ha:X5 ps ps.length)(hl:ps.length=fs.length)(he:ps=Q0 fs):∀i,i≤fs.length→ ∃st,OpenI fs ps i st
 |0,_=>⟨[],by rw[List.drop_zero,List.drop_zero],IE ps,fun p hp=>nomatch hp⟩
 |i+1,h=>by
  obtain⟨st,hs⟩:=GC ha hl he i (by omega)
  obtain⟨st',hs'⟩:=(Uu ha hl he (by omega) hs).2.2
  exact⟨_,hs'⟩
theorem NU(fs:List Fd){i:Nat}(h:i<fs.length):(Q0 fs).getD i 0= -1∨0≤(Q0 fs).getD i 0∧(Q0 fs).getD i 0∈upA (Q0 fs) ((i:Int)-1)∧(fs.getD ((Q0 fs).getD i 0).toNat default).kind=0:=by
 have hl:=Qj fs
 have ha:X5 (Q0 fs) (Q0 fs).length:=by rw[hl];exact QF fs
 obtain⟨st,hs⟩:=GC ha hl rfl i (by omega)
 exact(Uu ha hl rfl h hs).1
theorem Lp(fs:List Fd){i:Nat}(h:i+1<fs.length)(hk:(fs.getD i default).kind=0)(hn:1≤(fs.getD i default).kids):(Q0 fs).getD (i+1) 0=i:=by
 have hl:=Qj fs
 have ha:X5 (Q0 fs) (Q0 fs).length:=by rw[hl];exact QF fs
 obtain⟨st,hs⟩:=GC ha hl rfl i (by omega)
 obtain⟨st',hs'⟩:=(Uu ha hl rfl (show i<fs.length by omega) hs).2.2
 have hwl:(Zr fs 0 []).length=fs.length:=XI fs 0 []
 have hr:=hs'.rest
 rw[UB h,List.drop_eq_getElem_cons (by omega),Zr,List.cons.injEq]at hr
 rw[Q0,List.getD_eq_getElem?_getD,List.getElem?_map,List.getElem?_eq_getElem (by omega),hr.1]
 show XO (Z0 (Zs i (fs.getD i default) st'))=_
 rw[Zs,if_pos hk,Z0,if_neg (by omega)]
 rfl
theorem N8(fs:List Fd){i:Nat}(h:i<fs.length):(Xk fs).getD i 0=(upA (Q0 fs) ((Q0 fs).getD i 0)).length:=by
 have hl:=Qj fs
 have ha:X5 (Q0 fs) (Q0 fs).length:=by rw[hl];exact QF fs
 obtain⟨st,hs⟩:=GC ha hl rfl i (by omega)
 exact(Uu ha hl rfl h hs).2.1
def Sub(ps:List Int)(a j:Nat):Prop:=(a:Int)∈upA ps j
instance (ps:List Int) (a j:Nat):Decidable (Sub ps a j):=inferInstanceAs (Decidable (_∈_))
structure PreO(fs:List Fd)(ps:List Int):Prop where
 len:ps.length=fs.length
 ahead:X5 ps ps.length
 pre:∀i,i<ps.length→ps.getD i 0= -1∨0≤ps.getD i 0∧ps.getD i 0∈upA ps ((i:Int)-1)∧(fs.getD (ps.getD i 0).toNat default).kind=0
theorem Mj(fs:List Fd):PreO fs (Q0 fs):=⟨Qj fs,by rw[Qj];exact QF fs,fun i h=>NU fs (by rw[←Qj fs];exact h)⟩
theorem sub_le{fs:List Fd}{ps:List Int}(h:PreO fs ps){a j:Nat}(hj:j<ps.length)(hs:Sub ps a j):a≤j:=by
 have:=VX h.ahead (k:=j) (by omega) _ hs
 omega
theorem sub_self{fs:List Fd}{ps:List Int}(h:PreO fs ps){a:Nat}(ha:a<ps.length):Sub ps a a:=GV h.ahead ha
theorem sub_trans{fs:List Fd}{ps:List Int}(h:PreO fs ps){a b j:Nat}(hj:j<ps.length)(h1:Sub ps a b)(h2:Sub ps b j):Sub ps a j:=V7 h.ahead (j+1) j (by omega) (by omega) _ h2 _ h1
theorem BG{fs:List Fd}{ps:List Int}(h:PreO fs ps){a b j:Nat}(hj:j<ps.length)(h1:Sub ps a j)(h2:Sub ps b j)(hab:a≤b):Sub ps a b:=BC h.ahead (j+1) j (by omega) (by omega) _ h2 _ h1 (by omega)
theorem L8{fs:List Fd}{ps:List Int}(h:PreO fs ps){a j:Nat}(hj:j+1<ps.length)(haj:a≤j)(hs:Sub ps a (j+1)):Sub ps a j:=by
 rcases(ZU h.ahead hj).1 hs with e|hs
 ·omega
 ·rcases h.pre (j+1) hj with e|⟨e0,e1,_⟩
  ·rw[e,XB (by decide)]at hs;cases hs
  ·rw[show(((j+1:Nat):Int)-1)=(j:Int) by omega]at e1
   exact V7 h.ahead (j+1) j (by omega) (by omega) _ e1 _ hs
theorem He{fs:List Fd}{ps:List Int}(h:PreO fs ps){a:Nat}:∀(d i:Nat),i+d<ps.length→a≤i→Sub ps a (i+d)→Sub ps a i
 |0,i,_,_,hs=>hs
 |d+1,i,hl,hai,hs=>He h d i (by omega) hai (L8 h (j:=i+d) (by omega) (by omega) hs)
def EG(ps:List Int)(a:Nat):Nat→Nat→Nat
 |0,j=>j
 |f+1,j=>if j<ps.length∧Sub ps a j then EG ps a f (j+1)else j
def Z4(ps:List Int)(a:Nat):Nat:=EG ps a (ps.length-a) (a+1)
theorem D7{fs:List Fd}{ps:List Int}(h:PreO fs ps){a:Nat}:∀(f j:Nat),j≤ps.length→ps.length≤j+f→(∀i,a≤i→i<j→Sub ps a i)→a<j→
 j≤EG ps a f j∧EG ps a f j≤ps.length∧(∀i,a≤i→i<EG ps a f j→Sub ps a i)∧ ∀i,EG ps a f j≤i→i<ps.length→ ¬Sub ps a i
 |0,j,h1,h2,h3,h4=>⟨Nat.le_refl _,h1,h3,fun i h5 h6=>by have h5:j≤i:=h5;omega⟩
 |f+1,j,h1,h2,h3,h4=>by
  rw[EG]
  split
  ·rename_i hs
   obtain⟨g1,g2,g3,g4⟩:=D7 h f (j+1) (by omega) (by omega) (fun i h5 h6=>by
    by_cases hij:i=j
    ·subst hij;exact hs.2
    ·exact h3 i h5 (by omega)) (by omega)
   exact⟨by omega,g2,g3,g4⟩
  ·rename_i hs
   refine⟨Nat.le_refl _,h1,h3,fun i h5 h6 h7=>hs ⟨by omega,?_⟩⟩
   obtain⟨d,rfl⟩:=Nat.exists_eq_add_of_le h5
   exact He h d j h6 (by omega) h7
theorem Zd{fs:List Fd}{ps:List Int}(h:PreO fs ps){a:Nat}(ha:a<ps.length):a<Z4 ps a∧Z4 ps a≤ps.length∧ ∀i,a≤i→i<ps.length→(Sub ps a i↔i<Z4 ps a):=by
 obtain⟨g1,g2,g3,g4⟩:=D7 h (ps.length-a) (a+1) (by omega) (by omega) (fun i h5 h6=>by
  obtain rfl:i=a:=by omega
  exact sub_self h ha) (Nat.lt_succ_self a)
 exact⟨g1,g2,fun i h1 h2=>⟨fun hs=>Nat.lt_of_not_le fun hle=>g4 i hle h2 hs,fun hlt=>g3 i h1 hlt⟩⟩
theorem Yb{fs:List Fd}{ps:List Int}(h:PreO fs ps){a j:Nat}(hj:j<ps.length)(e:ps.getD j 0=a):Sub ps a j∧a<j:=by
 have hq:=h.ahead j hj
 have haj:a<j:=by omega
 exact⟨(ZU h.ahead hj).2 (.inr (by rw[e];exact GV h.ahead (by omega))),haj⟩
theorem Uh{fs:List Fd}{ps:List Int}(h:PreO fs ps){a:Nat}(hl:a+1<ps.length)(hs:Sub ps a (a+1)):ps.getD (a+1) 0=a:=by
 rcases(ZU h.ahead hl).1 hs with e|hs
 ·omega
 ·have hq:=h.ahead (a+1) hl
  have:=VX h.ahead (k:=ps.getD (a+1) 0) (by omega) _ hs
  omega
theorem MY{fs:List Fd}{ps:List Int}(h:PreO fs ps){a j:Nat}(hj:j<ps.length)(e:ps.getD j 0=a)(hl:Z4 ps j<ps.length)(hs:Sub ps a (Z4 ps j)):ps.getD (Z4 ps j) 0=a:=by
 obtain⟨g1,g2,g3⟩:=Zd h hj
 obtain⟨c1,c2⟩:=Yb h hj e
 generalize Z4 ps j=k at *
 have hq:=h.ahead k hl
 rcases(ZU h.ahead hl).1 hs with e1|hs1
 ·omega
 ·rcases h.pre k hl with e2|⟨e0,e2,_⟩
  ·rw[e2,XB (by decide)]at hs1;cases hs1
  ·obtain⟨p,hp⟩:=Int.eq_ofNat_of_zero_le e0
   rw[hp]at e2 hs1 ⊢
   have hpl:p<ps.length:=by omega
   have hap:a≤p:=sub_le h hpl hs1
   have hk1:((k:Nat):Int)-1=((k-1:Nat):Int):=by omega
   rw[hk1]at e2
   have hjk:Sub ps j (k-1):=(g3 (k-1) (by omega) (by omega)).2 (by omega)
   by_cases hjp:j≤p
   ·exfalso
    have:Sub ps j p:=BG h (j:=k-1) (by omega) hjk e2 hjp
    have:Sub ps j k:=(ZU h.ahead hl).2 (.inr (by rw[hp];exact this))
    have:=(g3 k (by omega) hl).1 this
    omega
   ·have:Sub ps p j:=BG h (j:=k-1) (by omega) e2 hjk (by omega)
    rcases(ZU h.ahead hj).1 this with e3|e3
    ·omega
    ·rw[e]at e3
     have:=VX h.ahead (k:=(a:Int)) (by omega) _ e3
     omega
theorem EF{fs:List Fd}{ps:List Int}(h:PreO fs ps){a j:Nat}(ha:a<ps.length)(hj:j<ps.length)(hs:Sub ps a j):Z4 ps j≤Z4 ps a:=by
 obtain⟨g1,g2,g3⟩:=Zd h hj
 obtain⟨k1,k2,k3⟩:=Zd h ha
 have haj:=sub_le h hj hs
 have h1:Sub ps j (Z4 ps j-1):=(g3 _ (by omega) (by omega)).2 (by omega)
 have h2:=(k3 (Z4 ps j-1) (by omega) (by omega)).1 (sub_trans h (by omega) hs h1)
 omega
theorem KH{fs:List Fd}{ps:List Int}(h:PreO fs ps){a:Nat}(ha:a<ps.length)(hk:(fs.getD a default).kind≠0):Z4 ps a=a+1:=by
 obtain⟨g1,g2,g3⟩:=Zd h ha
 by_cases hx:a+1<Z4 ps a
 ·exfalso
  have hs:=(g3 (a+1) (by omega) (by omega)).2 hx
  have e:=Uh h (by omega) hs
  rcases h.pre (a+1) (by omega)with e2|⟨_,_,e2⟩
  ·omega
  ·rw[e,Int.toNat_natCast]at e2
   exact hk e2
 ·omega
theorem Nd(fs:List Fd)(S:List Int):Vm fs S []=0:=rfl
theorem Wg(fs:List Fd)(S:List Int)(x:Int)(l:List Int):Vm fs S (x::l)=KU fs S x+Vm fs S l:=rfl
theorem Nf(fs:List Fd)(S:List Int)(x:Int):0≤KU fs S x:=by unfold KU;split<;>decide
theorem CB(fs:List Fd)(S:List Int):∀l:List Int,0≤Vm fs S l
 |[]=>Int.le_refl 0
 |x::l=>by rw[Wg];have:=CB fs S l;have:=Nf fs S x;omega
theorem MV(fs:List Fd)(S:List Int):∀a b:List Int,Vm fs S (a++b)=Vm fs S a+Vm fs S b
 |[],b=>by rw[List.nil_append,Nd];omega
 |x::a,b=>by rw[List.cons_append,Wg,Wg,MV fs S a b];omega
theorem CC(fs:List Fd){S:List Int}:∀l:List Int,(∀x∈l,x∈S)→Vm fs S l=Wl fs l
 |[],_=>rfl
 |x::l,h=>by
  rw[Wg,CC fs l fun y hy=>h y (List.mem_cons_of_mem _ hy)]
  have hx:=h x (List.mem_cons_self ..)
  show _=Wo fs x+Wl fs l
  unfold KU Wo
  by_cases hr:(fs.getD x.toNat default).rep=2
  ·rw[if_pos ⟨hr,hx⟩,if_pos hr]
  ·rw[if_neg fun h=>hr h.1,if_neg hr]
theorem Dh(fs:List Fd){S:List Int}:∀l:List Int,(∀x∈l,x∉S)→Vm fs S l=0
 |[],_=>rfl
 |x::l,h=>by
  rw[Wg,Dh fs l fun y hy=>h y (List.mem_cons_of_mem _ hy)]
  unfold KU
  rw[if_neg fun k=>h x (List.mem_cons_self ..) k.2];rfl
theorem HS(fs:List Fd)(S:List Int):∀l:List Int,Vm fs S l≤Wl fs l
 |[]=>Int.le_refl 0
 |x::l=>by
  have:=HS fs S l
  show KU fs S x+Vm fs S l≤Wo fs x+Wl fs l
  unfold KU Wo
  by_cases hr:(fs.getD x.toNat default).rep=2
  ·rw[if_pos hr];split<;>omega
  ·rw[if_neg fun h=>hr h.1,if_neg hr];omega
theorem Dx{fs:List Fd}{ps:List Int}(h:PreO fs ps)(c:Nat):∀(n k:Nat),k<n→k<ps.length→Sub ps c k→ ∃pre,upA ps k=pre++upA ps c∧ ∀x∈pre,(c:Int)∈upA ps x
 |0,k,hk,_,_=>by omega
 |n+1,k,hk,hl,hs=>by
  rcases(ZU h.ahead hl).1 hs with e|hs1
  ·obtain rfl:c=k:=by omega
   exact⟨[],rfl,fun x hx=>nomatch hx⟩
  ·have hq:=h.ahead k hl
   by_cases h0:ps.getD k 0<0
   ·rw[XB h0]at hs1;cases hs1
   ·obtain⟨p,hp⟩:=Int.eq_ofNat_of_zero_le (show 0≤ps.getD k 0 by omega)
    rw[hp]at hs1 hq
    obtain⟨pre,e,hpre⟩:=Dx h c n p (by omega) (by omega) hs1
    refine⟨(k:Int)::pre,by rw[Yq h.ahead hl,hp,e,List.cons_append],fun x hx=>?_⟩
    rcases List.mem_cons.1 hx with rfl|hx
    ·exact hs
    ·exact hpre x hx
theorem GY{fs:List Fd}{ps:List Int}(h:PreO fs ps){k:Int}(hk:k<ps.length):Wl fs (upA ps k)=upR fs ps ps.length k:=by
 rw[upA]
 exact Hc h.ahead _ _ hk (by omega)
theorem Dc{fs:List Fd}{ps:List Int}(h:PreO fs ps){c a b:Nat}(ha:a<ps.length)(hb:b<ps.length)(h1:Sub ps c a)(h2:Sub ps c b):upR fs ps ps.length c≤Yd fs (Vr ps a) (Vr ps b):=by
 rw[←HQ fs h.ahead (by omega) (by omega)]
 obtain⟨pre,e,_⟩:=Dx h c (a+1) a (by omega) ha h1
 rw[e,MV]
 have hc:=sub_le h ha h1
 have h3:Vm fs (upA ps b) (upA ps c)=Wl fs (upA ps c):=CC fs _ fun x hx=>V7 h.ahead (b+1) b (by omega) (by omega) _ h2 x hx
 rw[h3,GY h (by omega)]
 have:=CB fs (upA ps b) pre
 omega
theorem EI{fs:List Fd}{ps:List Int}(h:PreO fs ps){c a b:Nat}(ha:a<ps.length)(hb:b<ps.length)(h1:Sub ps c a)(h2:¬Sub ps c b):Yd fs (Vr ps a) (Vr ps b)≤upR fs ps ps.length (ps.getD c 0):=by
 rw[←HQ fs h.ahead (by omega) (by omega)]
 obtain⟨pre,e,hp⟩:=Dx h c (a+1) a (by omega) ha h1
 have hc:=sub_le h ha h1
 have hcl:c<ps.length:=by omega
 have hq:=h.ahead c hcl
 rw[e,MV,Dh fs pre fun x hx hxb=>h2 (V7 h.ahead (b+1) b (by omega) (by omega) _ hxb _ (hp x hx)),Yq h.ahead hcl,Wg]
 have h3:KU fs (upA ps b) c=0:=by
  unfold KU
  exact if_neg fun k=>h2 k.2
 rw[h3,←GY h (by omega)]
 have:=HS fs (upA ps b) (upA ps (ps.getD c 0))
 omega
def loL(fs:List Fd)(ps:List Int)(j:Nat):Nat:=(QV fs ps j).length
theorem Zv(fs:List Fd)(ps:List Int)(j:Nat):loL fs ps (j+1)=loL fs ps j+(if(fs.getD j default).kind≠0 then 1 else 0):=by
 unfold loL
 rw[Q9]
 split
 ·rw[List.length_append];rfl
 ·rfl
theorem C8(fs:List Fd)(ps:List Int):∀(d j:Nat),loL fs ps j≤loL fs ps (j+d)
 |0,j=>Nat.le_refl _
 |d+1,j=>by
  have h1:=C8 fs ps d j
  have h2:=Zv fs ps (j+d)
  show loL fs ps j≤loL fs ps (j+d+1)
  split at h2<;>omega
theorem YU(fs:List Fd)(ps:List Int){j k:Nat}(h:j≤k):loL fs ps j≤loL fs ps k:=by
 obtain⟨d,rfl⟩:=Nat.exists_eq_add_of_le h
 exact C8 fs ps d j
theorem XH(fs:List Fd)(ps:List Int):∀(n k:Nat),k<loL fs ps n→ ∃f,f<n∧loL fs ps f=k∧(fs.getD f default).kind≠0
 |0,k,h=>by simp[loL,QV,Qi]at h
 |n+1,k,h=>by
  have h2:=Zv fs ps n
  by_cases hk:k<loL fs ps n
  ·obtain⟨f,h3,h4,h5⟩:=XH fs ps n k hk
   exact⟨f,by omega,h4,h5⟩
  ·split at h2
   ·rename_i hq
    exact⟨n,Nat.lt_succ_self n,by omega,hq⟩
   ·omega
theorem DR{fs:List Fd}{ps:List Int}{n f:Nat}(hf:f<n)(hk:(fs.getD f default).kind≠0):((QV fs ps n).getD (loL fs ps f) default).field=f∧loL fs ps f<loL fs ps n:=by
 obtain⟨h1,h2⟩:=MB (ps:=ps) hf hk
 exact⟨by rw[loL,h1];rfl,h2⟩
structure Leafy(fs:List Fd)(ps:List Int):Prop where
 pre:PreO fs ps
 leaf:∀j,j<ps.length→loL fs ps j<loL fs ps (Z4 ps j)
theorem FU{fs:List Fd}{f:Nat}(hf:f<fs.length)(hk:(fs.getD f default).kind≠0):Yg fs ((loL fs (Q0 fs) f:Nat):Int)=f:=by
 unfold Yg
 rw[Int.toNat_natCast]
 exact(DR (ps:=Q0 fs) hf hk).1
theorem JN{fs:List Fd}{f g:Nat}(hf:f<fs.length)(hg:g<fs.length)(kf:(fs.getD f default).kind≠0)(kg:(fs.getD g default).kind≠0):
 QY fs ((loL fs (Q0 fs) f:Nat):Int) ((loL fs (Q0 fs) g:Nat):Int)=Yd fs (Vr (Q0 fs) f) (Vr (Q0 fs) g):=by
 have h1:=(DR (ps:=Q0 fs) hf kf).2
 have h2:=(DR (ps:=Q0 fs) hg kg).2
 have h1:loL fs (Q0 fs) f<(Q5 fs).length:=h1
 have h2:loL fs (Q0 fs) g<(Q5 fs).length:=h2
 unfold QY
 rw[if_neg (by omega),FU hf kf,FU hg kg]
abbrev ZN(fs:List Fd)(j:Nat):Int:=upR fs (Q0 fs) (Q0 fs).length j
theorem O0{fs:List Fd}(h:Leafy fs (Q0 fs)){a j:Nat}(hj:j<fs.length)(e:(Q0 fs).getD j 0=a)(hend:Z4 (Q0 fs) j<Z4 (Q0 fs) a)(hx:∀x:Int,x≤ZN fs a→x≤ZN fs a){x:Int}(hxa:x≤ZN fs a):
 nx1 fs (((loL fs (Q0 fs) (Z4 (Q0 fs) j)-1:Nat):Nat):Int) x=(loL fs (Q0 fs) (Z4 (Q0 fs) j):Nat):=by
 have hl:=h.pre.len
 have hj':j<(Q0 fs).length:=by omega
 obtain⟨c1,c2⟩:=Yb h.pre hj' e
 have ha:a<(Q0 fs).length:=by omega
 obtain⟨g1,g2,g3⟩:=Zd h.pre hj'
 obtain⟨k1,k2,k3⟩:=Zd h.pre ha
 have hlj:=h.leaf j hj'
 generalize hE:Z4 (Q0 fs) j=E at *
 have hEl:E<(Q0 fs).length:=by omega
 have hlE:=h.leaf E hEl
 obtain⟨m1,m2,m3⟩:=Zd h.pre hEl
 -- the last leaf ahead,the first one behind
 obtain⟨f,f1,f2,f3⟩:=XH fs (Q0 fs) E (loL fs (Q0 fs) E-1) (by omega)
 have hfj:j≤f:=Nat.le_of_not_lt fun hlt=>by have:=YU fs (Q0 fs) (show f+1≤j by omega);have:=Zv fs (Q0 fs) f;rw[if_pos f3]at this;omega
 obtain⟨g,q1,q2,q3⟩:=XH fs (Q0 fs) (Z4 (Q0 fs) E) (loL fs (Q0 fs) E) hlE
 have hgE:E≤g:=Nat.le_of_not_lt fun hlt=>by have:=YU fs (Q0 fs) (show g+1≤E by omega);have:=Zv fs (Q0 fs) g;rw[if_pos q3]at this;omega
 have hE2:=(k3 E (by omega) hEl).2 hend
 have hgl:g<(Q0 fs).length:=by omega
 have s1:Sub (Q0 fs) a f:=sub_trans h.pre (by omega) c1 ((g3 f hfj (by omega)).2 (by omega))
 have s2:Sub (Q0 fs) a g:=sub_trans h.pre hgl hE2 ((m3 g hgE hgl).2 q1)
 have hc:=Dc h.pre (a:=f) (b:=g) (by omega) hgl s1 s2
 rw[←JN (by omega) (by omega) f3 q3,f2,q2]at hc
 unfold nx1
 rw[show(((loL fs (Q0 fs) E-1:Nat):Nat):Int)+1=(loL fs (Q0 fs) E:Nat) by omega,if_pos (Int.le_trans hxa hc)]
theorem Ij{fs:List Fd}(h:Leafy fs (Q0 fs)){c:Nat}(hc:c<fs.length)(hr:(fs.getD c default).rep=2):
 nx1 fs (((loL fs (Q0 fs) (Z4 (Q0 fs) c)-1:Nat):Nat):Int) (ZN fs c)=(loL fs (Q0 fs) c:Nat):=by
 have hl:=h.pre.len
 have hc':c<(Q0 fs).length:=by omega
 obtain⟨g1,g2,g3⟩:=Zd h.pre hc'
 have hlc:=h.leaf c hc'
 have hstep:=YB (fs:=fs) h.pre.ahead hc'
 rw[if_pos hr]at hstep
 generalize hE:Z4 (Q0 fs) c=E at *
 obtain⟨f,f1,f2,f3⟩:=XH fs (Q0 fs) E (loL fs (Q0 fs) E-1) (by omega)
 have hfc:c≤f:=Nat.le_of_not_lt fun hlt=>by have:=YU fs (Q0 fs) (show f+1≤c by omega);have:=Zv fs (Q0 fs) f;rw[if_pos f3]at this;omega
 have sf:Sub (Q0 fs) c f:=(g3 f hfc (by omega)).2 (by omega)
 have hEn:=YU fs (Q0 fs) (show E≤fs.length by omega)
 have hlen:Qf fs=loL fs (Q0 fs) fs.length:=rfl
 -- a leaf beside the field is less together with it
 have low:∀k,k<Qf fs→(k<loL fs (Q0 fs) c∨loL fs (Q0 fs) E≤k)→QY fs ((loL fs (Q0 fs) E-1:Nat):Int) (k:Int)<ZN fs c:=fun k hk hkc=>by
  obtain⟨g,q1,q2,q3⟩:=XH fs (Q0 fs) fs.length k hk
  have ns:¬Sub (Q0 fs) c g:=fun s=>by
   have h1:=sub_le h.pre (by omega) s
   have h2:=(g3 g h1 (by omega)).1 s
   have h3:=YU fs (Q0 fs) h1
   have h4:=YU fs (Q0 fs) (show g+1≤E by omega)
   have h5:=Zv fs (Q0 fs) g
   rw[if_pos q3]at h5
   omega
  have:=EI h.pre (a:=f) (b:=g) (by omega) (by omega) sf ns
  rw[←JN (by omega) (by omega) f3 q3,f2,q2]at this
  show _<upR fs (Q0 fs) (Q0 fs).length c
  omega
 have high:ZN fs c≤QY fs ((loL fs (Q0 fs) E-1:Nat):Int) ((loL fs (Q0 fs) c:Nat):Int):=by
  obtain⟨g,q1,q2,q3⟩:=XH fs (Q0 fs) E (loL fs (Q0 fs) c) hlc
  have hgc:c≤g:=Nat.le_of_not_lt fun hlt=>by have:=YU fs (Q0 fs) (show g+1≤c by omega);have:=Zv fs (Q0 fs) g;rw[if_pos q3]at this;omega
  have:=Dc h.pre (a:=f) (b:=g) (by omega) (by omega) sf ((g3 g hgc (by omega)).2 q1)
  rw[←JN (by omega) (by omega) f3 q3,f2,q2]at this
  exact this
 have hpos:0<ZN fs c:=by
  have hq:=h.pre.ahead c hc'
  have:0≤upR fs (Q0 fs) (Q0 fs).length ((Q0 fs).getD c 0):=by
   unfold upR
   split
   ·exact(YJ (fs:=fs) h.pre.ahead _ (Nat.le_refl _) _ (by omega)).1
   ·exact Int.le_refl 0
  show 0<upR fs (Q0 fs) (Q0 fs).length c
  omega
 unfold nx1
 rw[if_neg]
 ·obtain⟨r1,r2,r3,r4⟩:=KM (fs:=fs) (i:=((loL fs (Q0 fs) E-1:Nat):Int)) (r:=ZN fs c) (Qf fs) (Nat.le_refl _) (loL fs (Q0 fs) c) (by omega) (by omega) high
  obtain⟨k,hk⟩:=Int.eq_ofNat_of_zero_le r1
  rw[hk]at r2 r3 ⊢
  have hkc:k≤loL fs (Q0 fs) c:=by omega
  by_cases hlt:k<loL fs (Q0 fs) c
  ·have:=low k (by omega) (.inl hlt)
   omega
  ·have:k=loL fs (Q0 fs) c:=by omega
   rw[this]
 ·intro hle
  by_cases hb:loL fs (Q0 fs) E<Qf fs
  ·have:=low (loL fs (Q0 fs) E) hb (.inr (Nat.le_refl _))
   rw[show((loL fs (Q0 fs) E-1:Nat):Int)+1=(loL fs (Q0 fs) E:Nat) by omega]at hle
   omega
  ·have hz:QY fs ((loL fs (Q0 fs) E-1:Nat):Int) (((loL fs (Q0 fs) E-1:Nat):Int)+1)=0:=by
    unfold QY
    have:(Q5 fs).length=Qf fs:=rfl
    rw[if_pos (by omega)]
   omega
inductive Tr where
 |mk (kids:List (List Tr)) (n:Int) (s:List UInt8)
instance:Inhabited Tr:=⟨.mk [] 0 []⟩
mutual
def encT:Tr→List AVal
 | .mk ks n s=>[.int .i64 n,.str s,.vs 1 (N4 ks)]
def N4:List (List Tr)→List (List AVal)
 |[]=>[]
 |l::ks=>[.vs 3 (Cw l)]::N4 ks
def Cw:List Tr→List (List AVal)
 |[]=>[]
 |t::l=>encT t::Cw l
end
theorem D8:∀l:List Tr,Cw l=l.map encT
 |[]=>by rw[Cw];rfl
 |t::l=>by rw[Cw,D8 l];rfl
theorem Cx:∀l:List (List Tr),N4 l=l.map fun x=>[.vs 3 (x.map encT)]
 |[]=>by rw[N4];rfl
 |t::l=>by rw[N4,Cx l,D8];rfl
theorem QL(ks:List (List Tr))(n:Int)(s:List UInt8):encT (.mk ks n s)=[.int .i64 n,.str s,.vs 1 (ks.map fun x=>[.vs 3 (x.map encT)])]:=by rw[encT,Cx]
def Z9(ns:List Int)(a:Nat):Int×Nat:=if a<ns.length then(ns.getD a 0,a+1)else(0,a)
def PM:List UInt8:=[97,98,99,97,98,99,97,98,99,97,98,99]
def Gd(k x:Int):Tr:=if k=1 then .mk [] (wi x 2) []else if k=2 then .mk [] (wi x 300-100) []else if k=3 then .mk [] x []else .mk [] 0 (PM.take (wi x 9).toNat)
def WJ(ns:List Int)(f:Fd)(a:Nat):Nat×Nat:=if f.rep=1 then((wi (Z9 ns a).1 2).toNat,(Z9 ns a).2)else if f.rep=2 then((wi (Z9 ns a).1 4).toNat,(Z9 ns a).2)else(1,a)
def Xa(val:Nat→Tr×Nat):Nat→Nat→List Tr→List Tr×Nat
 |0,a,l=>(l,a)
 |k+1,a,l=>Xa val k (val a).2 (l++[(val a).1])
def XR(fs:List Fd)(ps ns:List Int)(i:Nat)(val:Nat→Nat→Tr×Nat):Nat→Nat→Nat→List (List Tr)→List (List Tr)×Nat
 |0,_,a,ks=>(ks,a)
 |c+1,j,a,ks=>if ps.getD j 0=i then
   let k:=WJ ns (fs.getD j default) a
   let l:=Xa (val j) k.1 k.2 []
   XR fs ps ns i val c (j+1) l.2 (ks++[l.1])
  else XR fs ps ns i val c (j+1) a ks
def ZV(fs:List Fd)(ps ns:List Int):Nat→Nat→Nat→Tr×Nat
 |0,_,a=>(default,a)
 |f+1,i,a=>
  if(fs.getD i default).kind≠0 then(Gd (fs.getD i default).kind (Z9 ns a).1,(Z9 ns a).2)
  else
   let q:=XR fs ps ns i (ZV fs ps ns f) (fs.length-(i+1)) (i+1) (Z9 ns a).2 []
   (.mk q.1 0 [],q.2)
theorem Uv(ns:List Int){a:Nat}(h:a≤ns.length):(Z9 ns a).2≤ns.length:=by
 unfold Z9
 split
 ·exact ‹_›
 ·exact h
theorem Oq(ns:List Int)(f:Fd){a:Nat}(h:a≤ns.length):(WJ ns f a).2≤ns.length:=by
 unfold WJ
 split
 ·exact Uv ns h
 ·split
  ·exact Uv ns h
  ·exact h
theorem Hq{m:Nat}{val:Nat→Tr×Nat}(hv:∀a,a≤m→(val a).2≤m):∀(k a:Nat) (l:List Tr),a≤m→(Xa val k a l).2≤m
 |0,a,l,h=>h
 |k+1,a,l,h=>Hq hv k _ _ (hv a h)
theorem MC(fs:List Fd)(ps ns:List Int)(i:Nat){val:Nat→Nat→Tr×Nat}(hv:∀j a,a≤ns.length→(val j a).2≤ns.length):∀(c j a:Nat) (ks:List (List Tr)),a≤ns.length→(XR fs ps ns i val c j a ks).2≤ns.length
 |0,_,a,ks,h=>h
 |c+1,j,a,ks,h=>by
  rw[XR]
  split
  ·exact MC fs ps ns i hv c _ _ _ (Hq (hv j) _ _ _ (Oq ns _ h))
  ·exact MC fs ps ns i hv c _ _ _ h
theorem Vs(fs:List Fd)(ps ns:List Int):∀(f i a:Nat),a≤ns.length→(ZV fs ps ns f i a).2≤ns.length
 |0,_,a,h=>h
 |f+1,i,a,h=>by
  rw[ZV]
  split
  ·exact Uv ns h
  ·exact MC fs ps ns i (fun j a=>Vs fs ps ns f j a) _ _ _ _ (Uv ns h)
def XP(fs:List Fd)(ns:List Int):Tr:=(ZV fs (Q0 fs) ns fs.length 0 0).1
structure Cl where
 k:Nat
 r:Int
 d:Int
 v:Option (Int×List UInt8)
 deriving Inhabited
def Tr.kids:Tr→List (List Tr)
 | .mk ks _ _=>ks
def Tr.num:Tr→Int
 | .mk _ n _=>n
def Tr.txt:Tr→List UInt8
 | .mk _ _ s=>s
def ZP(ps:List Int)(a:Nat)(g:Nat→Nat→List Cl):Nat→Nat→Nat→List Cl
 |0,_,_=>[]
 |c+1,j,m=>if ps.getD j 0=a then g j m++ZP ps a g c (j+1) (m+1)else ZP ps a g c (j+1) m
def YR(ps:List Int)(a:Nat)(P:Nat→Nat→Prop):Nat→Nat→Nat→Prop
 |0,_,_=>True
 |c+1,j,m=>if ps.getD j 0=a then P j m∧YR ps a P c (j+1) (m+1)else YR ps a P c (j+1) m
theorem Vq{ps:List Int}{a:Nat}{P Q:Nat→Nat→Prop}:∀(c j m:Nat),(∀i q,j≤i→i<j+c→ps.getD i 0=a→P i q→Q i q)→YR ps a P c j m→YR ps a Q c j m
 |0,_,_,_,_=>trivial
 |c+1,j,m,h,hp=>by
  rw[YR]at hp ⊢
  split
  ·rename_i e
   rw[if_pos e]at hp
   exact⟨h j m (Nat.le_refl _) (by omega) e hp.1,Vq c (j+1) (m+1) (fun i q h1 h2=>h i q (by omega) (by omega)) hp.2⟩
  ·rename_i e
   rw[if_neg e]at hp
   exact Vq c (j+1) m (fun i q h1 h2=>h i q (by omega) (by omega)) hp
theorem GK{ps:List Int}{a:Nat}{Q:Nat→Nat→Prop}:∀(c j m:Nat),(∀i q,j≤i→i<j+c→ps.getD i 0=a→Q i q)→YR ps a Q c j m
 |0,_,_,_=>trivial
 |c+1,j,m,h=>by
  rw[YR]
  split
  ·rename_i e
   exact⟨h j m (Nat.le_refl _) (by omega) e,GK c (j+1) (m+1) fun i q h1 h2=>h i q (by omega) (by omega)⟩
  ·exact GK c (j+1) m fun i q h1 h2=>h i q (by omega) (by omega)
theorem K4{ps:List Int}{a:Nat}{g:Nat→Nat→List Cl}:∀(c j m:Nat),(∀i,j≤i→i<j+c→ps.getD i 0≠a)→ZP ps a g c j m=[]
 |0,_,_,_=>rfl
 |c+1,j,m,h=>by
  rw[ZP,if_neg (h j (Nat.le_refl _) (by omega))]
  exact K4 c (j+1) m fun i h1 h2=>h i (by omega) (by omega)
def ZL(fs:List Fd)(ps:List Int):Nat→Nat→Int→Int→List Cl
 |0,_,_,_=>[]
 |F+1,a,r,d=>if(fs.getD a default).kind≠0 then[⟨loL fs ps a,r,d,none⟩]else ZP ps a (fun j _=>ZL fs ps F j r d) (fs.length-(a+1)) (a+1) 0
def JL(none:List Cl)(val:Int→Tr→List Cl)(r R:Int):List Tr→List Cl
 |[]=>none
 |t::ts=>val r t++ts.flatMap (val R)
def VU(fs:List Fd)(j:Nat):Int:=if(fs.getD j default).rep≠0 then 1 else 0
def ZM(fs:List Fd)(ps:List Int):Nat→Nat→Int→Int→Tr→List Cl
 |0,_,_,_,_=>[]
 |F+1,a,r,d,t=>if(fs.getD a default).kind≠0 then[⟨loL fs ps a,r,d,some (t.num,t.txt)⟩]else
  ZP ps a (fun j m=>JL (ZL fs ps fs.length j r d) (fun r' t'=>ZM fs ps F j r' (d+VU fs j) t') r (upR fs ps ps.length j) (t.kids.getD m [])) (fs.length-(a+1)) (a+1) 0
def LX(fs:List Fd)(ps:List Int):Nat→Nat→Tr→Prop
 |0,_,_=>True
 |F+1,a,t=>(fs.getD a default).kind≠0∨YR ps a (fun j m=>((fs.getD j default).rep≠2→(t.kids.getD m []).length≤1)∧ ∀t'∈t.kids.getD m [],LX fs ps F j t') (fs.length-(a+1)) (a+1) 0
def QK(k:Nat):List Cl→Int
 |[]=>0
 |c::t=>if c.k=k then c.r else QK k t
def WI(nx:Int→Int→Int):List Cl→List Cl→Int→Int→Prop
 |[],_,a,z=>a=z
 |c::E,T,a,z=>a=c.k∧WI nx E T (nx c.k (QK c.k (E++T))) z
theorem KF{nx:Int→Int→Int}:∀{E1 E2 T:List Cl} {a m z:Int},WI nx E1 (E2++T) a m→WI nx E2 T m z→WI nx (E1++E2) T a z
 |[],E2,T,a,m,z,h1,h2=>by
  have h1:a=m:=h1
  subst h1;exact h2
 |c::E,E2,T,a,m,z,h1,h2=>by
  obtain⟨e,h⟩:=h1
  have h':=KF h h2
  rw[←List.append_assoc]at h'
  exact⟨e,h'⟩
structure Cov(E:List Cl)(lo hi:Nat)(r:Int):Prop where
 in_:∀k,lo≤k→k<hi→ ∀T,QK k (E++T)=r
 out:∀k,(k<lo∨hi≤k)→ ∀T,QK k (E++T)=QK k T
theorem Cov.nil(k:Nat)(r:Int):Cov [] k k r:=⟨fun i h1 h2=>by omega,fun _ _ _=>rfl⟩
theorem Cov.one(k:Nat)(r d:Int)(v:Option (Int×List UInt8)):Cov [⟨k,r,d,v⟩] k (k+1) r:=⟨fun i h1 h2 T=>by
 obtain rfl:i=k:=by omega
 show(if i=i then r else _)=r
 rw[if_pos rfl],fun i h T=>by
 show(if k=i then r else QK i T)=_
 rw[if_neg (by omega)]⟩
theorem Cov.app{E1 E2:List Cl}{a b c:Nat}{r:Int}(h1:Cov E1 a b r)(h2:Cov E2 b c r)(hab:a≤b)(hbc:b≤c):Cov (E1++E2) a c r:=⟨fun k g1 g2 T=>by
 rw[List.append_assoc]
 by_cases hk:k<b
 ·exact h1.in_ k g1 hk _
 ·rw[h1.out k (.inr (by omega)),h2.in_ k (by omega) g2],fun k g T=>by
 rw[List.append_assoc,h1.out k (by omega),h2.out k (by omega)]⟩
theorem Cov.more{E1 E2:List Cl}{a b:Nat}{r:Int}(h1:Cov E1 a b r)(h2:∀k,(k<a∨b≤k)→ ∀T,QK k (E2++T)=QK k T):Cov (E1++E2) a b r:=⟨fun k g1 g2 T=>by
 rw[List.append_assoc];exact h1.in_ k g1 g2 _,fun k g T=>by
 rw[List.append_assoc,h1.out k g,h2 k g]⟩
structure Along(fs:List Fd)(E:List Cl)(j:Nat)(r lim:Int):Prop where
 cov:Cov E (loL fs (Q0 fs) j) (loL fs (Q0 fs) (Z4 (Q0 fs) j)) r
 link:∀(T:List Cl) (x:Int),0≤x→x≤lim→(∀k,loL fs (Q0 fs) j≤k→k<loL fs (Q0 fs) (Z4 (Q0 fs) j)→QK k T=x)→
  WI (nx1 fs) E T (loL fs (Q0 fs) j:Nat) (nx1 fs ((loL fs (Q0 fs) (Z4 (Q0 fs) j)-1:Nat):Int) x)
theorem Along.less{fs:List Fd}{E:List Cl}{j:Nat}{r lim lim':Int}(h:Along fs E j r lim)(hl:lim'≤lim):Along fs E j r lim':=⟨h.cov,fun T x h1 h2 h3=>h.link T x h1 (by omega) h3⟩
theorem Kg{fs:List Fd}(h:Leafy fs (Q0 fs)){a:Nat}(ha:a<fs.length){g:Nat→Nat→List Cl}{r:Int}:∀(c j m e:Nat),j+c=fs.length→a<j→j≤e→e<Z4 (Q0 fs) a→(∀i,j≤i→i<e→(Q0 fs).getD i 0≠a)→(Q0 fs).getD e 0=a→
 YR (Q0 fs) a (fun i q=>Along fs (g i q) i r (ZN fs a)) c j m→
 Cov (ZP (Q0 fs) a g c j m) (loL fs (Q0 fs) e) (loL fs (Q0 fs) (Z4 (Q0 fs) a)) r∧
 ∀(T:List Cl) (x:Int),0≤x→x≤ZN fs a→(∀k,loL fs (Q0 fs) e≤k→k<loL fs (Q0 fs) (Z4 (Q0 fs) a)→QK k T=x)→
  WI (nx1 fs) (ZP (Q0 fs) a g c j m) T (loL fs (Q0 fs) e:Nat) (nx1 fs ((loL fs (Q0 fs) (Z4 (Q0 fs) a)-1:Nat):Int) x)
 |0,j,m,e,h1,h2,h3,h4,h5,h6,h7=>by
  have:=(Zd h.pre (a:=a) (by rw[h.pre.len];exact ha)).2.1
  have:=h.pre.len
  omega
 |c+1,j,m,e,h1,h2,h3,h4,h5,h6,h7=>by
  have hl:=h.pre.len
  have ha':a<(Q0 fs).length:=by omega
  obtain⟨k1,k2,k3⟩:=Zd h.pre ha'
  rw[YR]at h7
  rw[ZP]
  by_cases hj:(Q0 fs).getD j 0=a
  ·rw[if_pos hj]at h7 ⊢
   obtain rfl:e=j:=by
    rcases Nat.lt_or_ge j e with hlt|hge
    ·exact absurd hj (h5 j (Nat.le_refl _) hlt)
    ·omega
   have hj':e<(Q0 fs).length:=by omega
   obtain⟨c1,c2⟩:=Yb h.pre hj' hj
   obtain⟨g1,g2,g3⟩:=Zd h.pre hj'
   have hin:=EF h.pre ha' hj' c1
   have hA:=h7.1
   have hnot:∀i,e+1≤i→i<Z4 (Q0 fs) e→(Q0 fs).getD i 0≠a:=fun i i1 i2 ei=>by
    have s:=(g3 i (by omega) (by omega)).2 i2
    rcases(ZU h.pre.ahead (show i<(Q0 fs).length by omega)).1 s with e1|e1
    ·omega
    ·rw[ei]at e1
     have:=VX h.pre.ahead (k:=(a:Int)) (by omega) _ e1
     omega
   have hlo:=h.leaf e hj'
   have hloE:=YU fs (Q0 fs) hin
   by_cases hlast:Z4 (Q0 fs) e<Z4 (Q0 fs) a
   ·have hE2:=(k3 (Z4 (Q0 fs) e) (by omega) (by omega)).2 hlast
    have hpar:=MY h.pre hj' hj (by omega) hE2
    obtain⟨q1,q2⟩:=Kg h ha c (e+1) (m+1) (Z4 (Q0 fs) e) (by omega) (by omega) (by omega) hlast hnot hpar h7.2
    refine⟨hA.cov.app q1 (by omega) hloE,fun T x x1 x2 hT=>?_⟩
    refine KF (hA.link _ x x1 x2 fun k hk1 hk2=>?_) ?_
    ·rw[q1.out k (.inl hk2)]
     exact hT k hk1 (by omega)
    ·rw[O0 h (a:=a) (by omega) hj hlast (fun _ h=>h) x2]
     exact q2 T x x1 x2 fun k hk1 hk2=>hT k (by omega) hk2
   ·have hE:Z4 (Q0 fs) e=Z4 (Q0 fs) a:=by omega
    have hz:ZP (Q0 fs) a g c (e+1) (m+1)=[]:=K4 c (e+1) (m+1) fun i i1 i2 ei=>by
     by_cases hi:i<Z4 (Q0 fs) e
     ·exact hnot i i1 hi ei
     ·have s:=(Yb h.pre (show i<(Q0 fs).length by omega) ei).1
      have:=(k3 i (by omega) (by omega)).1 s
      omega
    rw[hz,List.append_nil,←hE]
    exact⟨hA.cov,hA.link⟩
  ·rw[if_neg hj]at h7 ⊢
   have hje:j≠e:=fun e1=>hj (by rw[e1];exact h6)
   exact Kg h ha c (j+1) m e (by omega) (by omega) (by omega) h4 (fun i i1 i2=>h5 i (by omega) i2) h6 h7
theorem Gp{fs:List Fd}(h:Leafy fs (Q0 fs)){a:Nat}(ha:a<fs.length)(hk:(fs.getD a default).kind=0){g:Nat→Nat→List Cl}{r:Int}
 (hg:YR (Q0 fs) a (fun i q=>Along fs (g i q) i r (ZN fs a)) (fs.length-(a+1)) (a+1) 0):Along fs (ZP (Q0 fs) a g (fs.length-(a+1)) (a+1) 0) a r (ZN fs a):=by
 have hl:=h.pre.len
 have ha':a<(Q0 fs).length:=by omega
 obtain⟨k1,k2,k3⟩:=Zd h.pre ha'
 have hlo:=h.leaf a ha'
 have hs:=Zv fs (Q0 fs) a
 rw[if_neg (by omega)]at hs
 have hne:a+1≠Z4 (Q0 fs) a:=fun e=>by rw[←e]at hlo;omega
 have hS:=(k3 (a+1) (by omega) (by omega)).2 (by omega)
 have hc:=Uh h.pre (by omega) hS
 obtain⟨q1,q2⟩:=Kg h ha (fs.length-(a+1)) (a+1) 0 (a+1) (by omega) (by omega) (Nat.le_refl _) (by omega) (fun i i1 i2=>by omega) hc hg
 have e0:loL fs (Q0 fs) (a+1)=loL fs (Q0 fs) a:=by omega
 rw[e0]at q1 q2
 exact⟨q1,q2⟩
theorem F7{fs:List Fd}(h:Leafy fs (Q0 fs)){a:Nat}(ha:a<fs.length)(hk:(fs.getD a default).kind≠0)(r d lim:Int)(v:Option (Int×List UInt8)):Along fs [⟨loL fs (Q0 fs) a,r,d,v⟩] a r lim:=by
 have hl:=h.pre.len
 have he:=KH h.pre (a:=a) (by omega) hk
 have hs:=Zv fs (Q0 fs) a
 rw[if_pos hk]at hs
 refine⟨by rw[he,hs];exact Cov.one _ r d v,fun T x x1 x2 hT=>?_⟩
 rw[he,hs]at hT
 rw[he,hs,Nat.add_sub_cancel]
 refine⟨rfl,?_⟩
 show nx1 fs _ (QK (loL fs (Q0 fs) a) T)=_
 rw[hT _ (Nat.le_refl _) (Nat.lt_succ_self _)]
theorem Wn{fs:List Fd}(h:PreO fs (Q0 fs)){a j:Nat}(hj:j<fs.length)(e:(Q0 fs).getD j 0=a):ZN fs a≤ZN fs j:=by
 have hs:=YB (fs:=fs) h.ahead (k:=j) (by rw[h.len];exact hj)
 rw[e]at hs
 show upR fs _ _ _≤upR fs _ _ _
 split at hs<;>omega
theorem Va{fs:List Fd}(h:PreO fs (Q0 fs)){j:Nat}(hj:j<fs.length):0≤ZN fs j:=by
 unfold ZN upR
 rw[if_pos (by omega),Int.toNat_natCast]
 exact(YJ (fs:=fs) h.ahead _ (Nat.le_refl _) _ (by rw[h.len];exact hj)).1
theorem Ms{fs:List Fd}(h:Leafy fs (Q0 fs))(r d:Int):∀(F a:Nat),a<fs.length→fs.length≤a+F→Along fs (ZL fs (Q0 fs) F a r d) a r (ZN fs a)
 |0,a,h1,h2=>by omega
 |F+1,a,h1,h2=>by
  rw[ZL]
  split
  ·rename_i hk
   exact F7 h h1 hk r d _ none
  ·rename_i hk
   refine Gp h h1 (Decidable.not_not.1 hk) (GK _ _ _ fun i q i1 i2 e=>?_)
   exact(Ms h r d F i (by omega) (by omega)).less (Wn h.pre (by omega) e)
theorem IA{fs:List Fd}(h:Leafy fs (Q0 fs)){j:Nat}(hj:j<fs.length){no:List Cl}{val:Int→Tr→List Cl}{r:Int}{l:List Tr}(hno:Along fs no j r (ZN fs j))(hv:∀t∈l,∀r',Along fs (val r' t) j r' (ZN fs j))
 (hl:(fs.getD j default).rep≠2→l.length≤1):Along fs (JL no val r (ZN fs j) l) j r (ZN fs j):=by
 cases l with
 |nil=>exact hno
 |cons t ts=>
  rw[JL]
  have hout:∀us:List Tr,(∀u∈us,u∈t::ts)→ ∀k,(k<loL fs (Q0 fs) j∨loL fs (Q0 fs) (Z4 (Q0 fs) j)≤k)→ ∀T,QK k (us.flatMap (val (ZN fs j))++T)=QK k T:=by
   intro us
   induction us with
   |nil=>intro _ k _ T;rfl
   |cons u us ih=>
    intro hu k hk T
    rw[List.flatMap_cons,List.append_assoc,(hv u (hu u (List.mem_cons_self ..)) _).cov.out k hk,ih (fun w hw=>hu w (List.mem_cons_of_mem _ hw)) k hk]
  have hmem:∀u∈ts,u∈t::ts:=fun u hu=>List.mem_cons_of_mem _ hu
  have h0:=hv t (List.mem_cons_self ..) r
  refine⟨h0.cov.more (hout ts hmem),?_⟩
  by_cases hr:(fs.getD j default).rep=2
  ·have hb:=Ij h hj hr
   -- from the first leaf over the values that are left
   have key:∀us:List Tr,(∀u∈us,u∈t::ts)→us≠[]→ ∀(T:List Cl) (x:Int),0≤x→x≤ZN fs j→(∀k,loL fs (Q0 fs) j≤k→k<loL fs (Q0 fs) (Z4 (Q0 fs) j)→QK k T=x)→
    WI (nx1 fs) (us.flatMap (val (ZN fs j))) T (loL fs (Q0 fs) j:Nat) (nx1 fs ((loL fs (Q0 fs) (Z4 (Q0 fs) j)-1:Nat):Int) x):=by
    intro us
    induction us with
    |nil=>intro _ hne;exact absurd rfl hne
    |cons u us ih=>
     intro hu _ T x x1 x2 hT
     have hA:=hv u (hu u (List.mem_cons_self ..)) (ZN fs j)
     rw[List.flatMap_cons]
     by_cases hne:us=[]
     ·subst hne
      rw[List.flatMap_nil,List.append_nil]
      exact hA.link T x x1 x2 hT
     ·refine KF (m:=(loL fs (Q0 fs) j:Nat)) ?_ (ih (fun w hw=>hu w (List.mem_cons_of_mem _ hw)) hne T x x1 x2 hT)
      have:=hA.link (us.flatMap (val (ZN fs j))++T) (ZN fs j) (Va h.pre hj) (Int.le_refl _) fun k hk1 hk2=>by
       obtain⟨w,ws,rfl⟩:∃w ws,us=w::ws:=by
        cases us with
        |nil=>exact absurd rfl hne
        |cons w ws=>exact⟨w,ws,rfl⟩
       rw[List.flatMap_cons,List.append_assoc]
       exact(hv w (hu w (List.mem_cons_of_mem _ (List.mem_cons_self ..))) _).cov.in_ k hk1 hk2 _
      rwa [hb]at this
   intro T x x1 x2 hT
   by_cases hne:ts=[]
   ·subst hne
    rw[List.flatMap_nil,List.append_nil]
    exact h0.link T x x1 x2 hT
   ·refine KF (m:=(loL fs (Q0 fs) j:Nat)) ?_ (key ts hmem hne T x x1 x2 hT)
    have:=h0.link (ts.flatMap (val (ZN fs j))++T) (ZN fs j) (Va h.pre hj) (Int.le_refl _) fun k hk1 hk2=>by
     obtain⟨w,ws,rfl⟩:∃w ws,ts=w::ws:=by
      cases ts with
      |nil=>exact absurd rfl hne
      |cons w ws=>exact⟨w,ws,rfl⟩
     rw[List.flatMap_cons,List.append_assoc]
     exact(hv w (hmem w (List.mem_cons_self ..)) _).cov.in_ k hk1 hk2 _
    rwa [hb]at this
  ·have hts:ts=[]:=List.eq_nil_of_length_eq_zero (by have:=hl hr;rw[List.length_cons]at this;omega)
   subst hts
   intro T x x1 x2 hT
   rw[List.flatMap_nil,List.append_nil]
   exact h0.link T x x1 x2 hT
theorem Fu{fs:List Fd}(h:Leafy fs (Q0 fs)):∀(F a:Nat) (r d:Int) (t:Tr),a<fs.length→fs.length≤a+F→LX fs (Q0 fs) F a t→Along fs (ZM fs (Q0 fs) F a r d t) a r (ZN fs a)
 |0,a,r,d,t,h1,h2,_=>by omega
 |F+1,a,r,d,t,h1,h2,hf=>by
  rw[ZM]
  split
  ·rename_i hk
   exact F7 h h1 hk r d _ _
  ·rename_i hk
   have hk0:(fs.getD a default).kind=0:=Decidable.not_not.1 hk
   refine Gp h h1 hk0 (Vq _ _ _ (fun i q i1 i2 e hp=>?_) ((hf.resolve_left hk)))
   refine(IA h (by omega) (Ms h r d fs.length i (by omega) (by omega)) (fun t' ht' r'=>Fu h F i r' _ t' (by omega) (by omega) (hp.2 t' ht')) hp.1).less (Wn h.pre (by omega) e)
theorem Kt{fs:List Fd}(h:Leafy fs (Q0 fs))(h0:0<fs.length)(hk:(fs.getD 0 default).kind=0)(hr:(fs.getD 0 default).rep=0)(hend:Z4 (Q0 fs) 0=fs.length){t:Tr}(hf:LX fs (Q0 fs) fs.length 0 t)(T:List Cl)(hT:∀k,QK k T=0):
 WI (nx1 fs) (ZM fs (Q0 fs) fs.length 0 0 0 t) T 0 (nx1 fs ((Qf fs-1:Nat):Int) 0)∧ ∀k,k<Qf fs→ ∀T,QK k (ZM fs (Q0 fs) fs.length 0 0 0 t++T)=0:=by
 have hA:=Fu h fs.length 0 0 0 t h0 (by omega) hf
 have e1:loL fs (Q0 fs) (Z4 (Q0 fs) 0)=Qf fs:=by rw[hend];rfl
 have e0:loL fs (Q0 fs) 0=0:=rfl
 refine⟨?_,fun k hk T=>?_⟩
 ·have:=hA.link T 0 (Int.le_refl 0) (Va h.pre h0) fun k _ _=>hT k
  rw[e1,e0]at this
  exact this
 ·exact hA.cov.in_ k (Nat.zero_le _) (by rw[e1];exact hk) T
end Go.Proofs.Ytcpikannlnmafaa
