/-
  A striping:the cells of a value. A record fits its shape. The document's (chapter 8). Records made of raw numbers. The statements' (chapter 8).
-/
import Derived.Test.YtcpikannlnmafaaL11
import Derived.Test.YtcpikannlnmafaaL13
import Derived.Test.YtcpikannlnmafaaL9
set_option linter.unusedVariables false
set_option linter.unusedSimpArgs false
namespace Go.Proofs.Ytcpikannlnmafaa
open Go Go.Av
section
set_option maxRecDepth 100000
set_option maxHeartbeats 4000000
def P2(c:CallT):CallT:=fun f args H nx K=>∃v0 H0 nx0,c f args H nx (fun v H' nx'=>v=v0∧H'=H0∧nx'=nx0)∧K v0 H0 nx0
theorem BX[Syms]{P:Program}{c:CallT}(hc:c.ok P):(P2 c).det P:=by
 rintro f args H nx K ⟨v0,H0,nx0,h,hK⟩
 obtain⟨h1,h2⟩:=hc f args H nx _ h
 refine⟨v0,H0,nx0,h1,fun ι w vs ha hH hb=>(h2 ι w vs ha hH hb).mono ?_,hK⟩
 rintro e w' ⟨v,H',nx',r,κ,⟨rfl,rfl,rfl⟩,g1,g2,g3,g4,g5⟩
 exact⟨r,κ,g1,g2,g3,g4,g5⟩
theorem Uo:∀l:List AVal,G2 l l
 |[]=>trivial
 |a::t=>⟨.same a,Uo t⟩
theorem HH{n base:Nat}{rows:List (List AVal)}{H:Heap}{f:Nat→Option Blk}:∀{m:Nat},(∀j,j<m→ ∀b,f j=some b→base+j≠n∧ ∃c,H.get (base+j)=some c∧FzB n rows c b)→FzH n rows H (Xy base f m)
 |0,_=>trivial
 |m+1,h=>by
  have ih:FzH n rows H (Xy base f m):=HH fun j hj=>h j (by omega)
  have h0:=h m (Nat.lt_succ_self m)
  rw[Xy]
  cases hf:f m with
  |none=>exact ih
  |some b=>exact⟨h0 b hf,ih⟩
theorem PP[Syms]{na N nx:Nat}{e e3:Env}{H:Heap}{W:Wk}{E:List Cl}{row:List AVal}(hL:W.L≤15)(hf:∀x∈row,x.flat=true)(h50:H.get 50=some (.cells [row] false))(h0:H.get 0=some (.cells [UV W] false))(h2:H.get 2=some (.cells (Xp 4 W.L E) false))(hj:∀j,j<3*W.L→H.get (4+j)=fB E j)(he:FzE 50 [row] e e3):
 Reb na N ⟨e,H,nx⟩ ⟨e3,wkH 4 W E,nx⟩:=
 Zo (n:=50) (rows:=[row]) h50 (Xs hf QG) he ⟨⟨by decide,_,h0,.same _⟩,⟨by decide,_,h2,.same _⟩,HH fun j h b hb=>⟨by omega,b,(hj j h).trans hb,.same _⟩⟩
def S_noneA:FamS:=fun rest W E Q=>H5 W.fs.length rest W E Q
theorem Ly[Syms]:FamS.ok Try.prog 55 S_noneA:=fun rest W E Q h=>Hy W.fs.length rest W E Q h
def GL(F:Nat):FamS:=fun rest W E Q=>∃(a:Nat) (r d:Int) (t:Tr),rest=[.int .i64 (a:Nat),.int .i64 r,.int .i64 d,.agg (encT t)]∧(WkOk W∧a<W.fs.length∧W.fs.length-a≤F∧Wt W.fs W.ps F a t∧(0≤d∧d+F≤1000)∧E.length+(ZM W.fs W.ps F a r d t).length≤1000000)∧Q (E++ZM W.fs W.ps F a r d t)
abbrev cVa(F:Nat):CallT:=Qv 54 (ED S_cell) (Qv 55 (ED S_noneA) (Qv 48 (ED (GL F)) Qz))
theorem Ou[Syms]{F:Nat}(h:FamS.ok Try.prog 48 (GL F)):(cVa F).ok Try.prog:=Uz HT (Uz Ly (Uz h Qy))
noncomputable def PU:Nat→Nat→Pl:=Kz [(48,0),(48,8)] (ZS plt)
def YD(ks:List (List Tr))(n:Int)(s:List UInt8):List AVal:=[.int .i64 n,.str s,.vs 1 (ks.map fun x=>[.vs 3 (x.map encT)])]
theorem Jj(ks:List (List Tr))(n:Int)(s:List UInt8):∀x∈YD ks n s,x.flat=true:=fun x hx=>by simp[YD]at hx;rcases hx with rfl|rfl|rfl<;>rfl
def v0S(W:Wk)(E:List Cl)(a:Nat)(r d:Int)(row:List AVal):St:=⟨[(0,.ptr 0 0 0),(1,.int .i64 a),(2,.int .i64 r),(3,.int .i64 d),(9,.vp row 0)],wkH 4 W E,51⟩
def vGS(W:Wk)(E:List Cl)(a:Nat)(r d:Int)(row:List AVal)(q j:Nat):St:=⟨[(0,.ptr 0 0 0),(1,.int .i64 a),(2,.int .i64 r),(3,.int .i64 d),(9,.vp row 0),(10,.int .i64 q),(11,.int .i64 j)],wkH 52 W E,100⟩
def vKS(W:Wk)(E:List Cl)(a:Nat)(r d:Int)(row:List AVal)(q j:Nat)(l:List Tr):St:=⟨[(0,.ptr 0 0 0),(1,.int .i64 a),(2,.int .i64 r),(3,.int .i64 d),(9,.vp row 0),(10,.int .i64 q),(11,.int .i64 j),(12,.vs 3 (l.map encT))],wkH 52 W E,100⟩
def vIS(W:Wk)(E:List Cl)(a:Nat)(r d:Int)(row:List AVal)(q j:Nat)(l:List Tr)(more:Int)(k:Nat):St:=⟨[(0,.ptr 0 0 0),(1,.int .i64 a),(2,.int .i64 r),(3,.int .i64 d),(9,.vp row 0),(10,.int .i64 q),(11,.int .i64 j),(12,.vs 3 (l.map encT)),(13,.int .i64 more),(14,.int .i64 k)],wkH 52 W E,100⟩
section
variable [Syms] {N nx c:Nat} {e:Env} {W:Wk} {E:List Cl} {a q j k:Nat} {r d more:Int} {row:List AVal} {l:List Tr}
theorem Kp(hL:W.L≤15)(hc:Nat.ble 4 c=true)(hs:okC c=true)(h0:e.get 0= .ptr 0 0 0)(h1:e.get 1= .int .i64 a)(h2:e.get 2= .int .i64 r)(h3:e.get 3= .int .i64 d)(h9:e.get 9= .vp row 0)(h10:WkV (e.get 10) (.int .i64 q))(h11:WkV (e.get 11) (.int .i64 j)):Reb 50 N ⟨e,wkH c W E,nx⟩ (vGS W E a r d row q j):=
 Yo (by decide) (by decide) hc hs hL (by omega) (fun τ t0=>⟨by rw[h0];exact wkp t0,by rw[h1];exact .refl _,by rw[h2];exact .refl _,by rw[h3];exact .refl _,by rw[h9];exact .refl _,h10,h11,trivial⟩) (Zh rfl)
theorem NC(hL:W.L≤15)(hc:Nat.ble 4 c=true)(hs:okC c=true)(h0:e.get 0= .ptr 0 0 0)(h1:e.get 1= .int .i64 a)(h2:e.get 2= .int .i64 r)(h3:e.get 3= .int .i64 d)(h9:e.get 9= .vp row 0)(h10:WkV (e.get 10) (.int .i64 q))(h11:WkV (e.get 11) (.int .i64 j))(h12:WkV (e.get 12) (.vs 3 (l.map encT))):Reb 50 N ⟨e,wkH c W E,nx⟩ (vKS W E a r d row q j l):=
 Yo (by decide) (by decide) hc hs hL (by omega) (fun τ t0=>⟨by rw[h0];exact wkp t0,by rw[h1];exact .refl _,by rw[h2];exact .refl _,by rw[h3];exact .refl _,by rw[h9];exact .refl _,h10,h11,h12,trivial⟩) (Zh rfl)
theorem Ko(hL:W.L≤15)(hc:Nat.ble 4 c=true)(hs:okC c=true)(h0:e.get 0= .ptr 0 0 0)(h1:e.get 1= .int .i64 a)(h2:e.get 2= .int .i64 r)(h3:e.get 3= .int .i64 d)(h9:e.get 9= .vp row 0)(h10:WkV (e.get 10) (.int .i64 q))(h11:WkV (e.get 11) (.int .i64 j))(h12:WkV (e.get 12) (.vs 3 (l.map encT)))(h13:WkV (e.get 13) (.int .i64 more))(h14:WkV (e.get 14) (.int .i64 k)):Reb 50 N ⟨e,wkH c W E,nx⟩ (vIS W E a r d row q j l more k):=
 Yo (by decide) (by decide) hc hs hL (by omega) (fun τ t0=>⟨by rw[h0];exact wkp t0,by rw[h1];exact .refl _,by rw[h2];exact .refl _,by rw[h3];exact .refl _,by rw[h9];exact .refl _,h10,h11,h12,h13,h14,trivial⟩) (Zh rfl)
end
def Fp(none:List Cl)(val:Int→Tr→List Cl)(r R:Int)(l:List Tr):Nat→List Cl
 |0=>JL none val r R l
 |k+1=>(l.drop (k+1)).flatMap (val R)
theorem N6{none:List Cl}{val:Int→Tr→List Cl}{r R:Int}{l:List Tr}(h:0<l.length):Fp none val r R l 0=val r (l.getD 0 default)++Fp none val r R l 1:=by
 cases l with
 |nil=>exact absurd h (Nat.lt_irrefl 0)
 |cons t ts=>rfl
theorem Pt{none:List Cl}{val:Int→Tr→List Cl}{r R:Int}{l:List Tr}{k:Nat}(h0:0<k)(h:k<l.length):Fp none val r R l k=val R (l.getD k default)++Fp none val r R l (k+1):=by
 obtain⟨k,rfl⟩:∃j,k=j+1:=⟨k-1,by omega⟩
 rw[Fp,Fp,List.drop_eq_getElem_cons h,List.flatMap_cons,List.getD_eq_getElem?_getD,List.getElem?_eq_getElem h]
 rfl
theorem N5{none:List Cl}{val:Int→Tr→List Cl}{r R:Int}{l:List Tr}(h:0<l.length):Fp none val r R l l.length=[]:=by
 obtain⟨k,hk⟩:∃j,l.length=j+1:=⟨l.length-1,by omega⟩
 rw[hk,Fp,←hk,List.drop_length]
 rfl
theorem OI(ks:List (List Tr)){q:Nat}(h:q<ks.length):(ks.map fun x=>[AVal.vs 3 (x.map encT)]).getD (q:Int).toNat []=[.vs 3 ((ks.getD q []).map encT)]:=by
 rw[Int.toNat_natCast,List.getD_eq_getElem?_getD,List.getElem?_map,List.getD_eq_getElem?_getD,List.getElem?_eq_getElem h]
 rfl
theorem En(l:List Tr){k:Nat}(h:k<l.length):(l.map encT).getD (k:Int).toNat []=encT (l.getD k default):=by
 rw[Int.toNat_natCast,List.getD_eq_getElem?_getD,List.getElem?_map,List.getD_eq_getElem?_getD,List.getElem?_eq_getElem h]
 rfl
theorem Vk(ks:List (List Tr))(n:Int)(s:List UInt8):encT (.mk ks n s)=YD ks n s:=QL ks n s
theorem Ft[Syms]{N:Nat}{W:Wk}{E:List Cl}(a:Nat)(r d:Int)(row:List AVal)(hL:W.L≤15)(hf:∀x∈row,x.flat=true){e:Env}(h0:e.get 0= .ptr 0 0 0)(h1:e.get 1= .int .i64 a)(h2:e.get 2= .int .i64 r)(h3:e.get 3= .int .i64 d)(h9:e.get 9= .ptr 50 0 0):
 Reb 50 N ⟨e,(0,some (.cells [UV W] false))::(2,some (.cells (Xp 4 W.L E) false))::(50,some (.cells [row] false))::(STP,none)::Xy 4 (fB E) (3*W.L),51⟩ (v0S W E a r d row):=
 PP hL hf rfl rfl rfl (fun j hj=>(KL (l:=[(0,_),(2,_),(50,_),(STP,none)]) (t:=Xy 4 (fB E) (3*W.L)) (lo:=4) (hi:=50) rfl (by omega) (by omega)).trans (Vj hj)) ⟨by rw[h0];exact .same _,by rw[h1];exact .same _,by rw[h2];exact .same _,by rw[h3];exact .same _,by rw[h9];exact .pt 0 0 row row rfl (Uo row),trivial⟩
theorem Dw[Syms]{W:Wk}{E:List Cl}{Q:List Cl→Prop}(F a:Nat)(r d:Int)(ks:List (List Tr))(tn:Int)(ts:List UInt8)(hW:WkOk W)(ha:a<W.fs.length)(hk:(W.fs.getD a default).kind≠0)(hE:E.length≤1000000)(hQ:Q (E++[⟨loL W.fs W.ps a,r,d,some (tn,ts)⟩])):
 fnT (P2 (cVa F)) (cVa F) (Zc fns) (Z5 tys) PU 100 48 [.ptr 0 0 0,.int .i64 (a:Nat),.int .i64 r,.int .i64 d,.agg (YD ks tn ts)] (wkH 4 W E) 50 fun v H nx=>v= .tup []∧nx=100∧ ∃E',Q E'∧H=wkH 52 W E':=by
 have hlen:=hW.len
 have hL:=hW.L
 obtain⟨hl1,hl2⟩:=hW.lf a ha hk
 have hlf:=hW.lfl
 refine⟨v0S W E a r d (YD ks tn ts),Ft a r d _ hL (Jj ks tn ts) rfl rfl rfl rfl rfl,?_⟩
 repeat' first|refine And.intro ?_ ?_|(intro h;try first|exact dz|replace h:=cv)
 all_goals try exact cz
 refine⟨4,[.int .i64 (a:Nat),.int .i64 r,.int .i64 d,.agg [.int .i64 tn,.str ts],.bool true],W,E,rfl,rfl,rfl,⟨by decide,by decide,hL,rfl,rfl⟩,a,loL W.fs W.ps a,r,d,tn,ts,true,rfl,⟨hL,by omega,hl1,hl2,hE⟩,?_⟩
 repeat' first|refine And.intro ?_ ?_|(intro h;try first|exact dz|replace h:=cv)
 all_goals try exact cz
 exact⟨⟨[],wkH 52 W (E++[⟨loL W.fs W.ps a,r,d,some (tn,ts)⟩]),100⟩,Yo (W:=W) (na:=50) (b:=52) (nx':=100) (c:=103) (e3:=[]) (by decide) (by decide) rfl rfl hL (by omega) (fun τ _=>trivial) (Zh rfl),_,rfl,⟨rfl,rfl,_,hQ,rfl⟩⟩
theorem Ds[Syms]{W:Wk}{E:List Cl}{Q:List Cl→Prop}(F a:Nat)(r d:Int)(ks:List (List Tr))(tn:Int)(ts:List UInt8)(hW:WkOk W)(ha:a<W.fs.length)(hF:W.fs.length-a≤F+1)(hk:(W.fs.getD a default).kind=0)(hf:Wt W.fs W.ps (F+1) a (.mk ks tn ts))(hd:0≤d∧d+(F+1:Nat)≤1000)
 (hE:E.length+(ZM W.fs W.ps (F+1) a r d (.mk ks tn ts)).length≤1000000) (hQ:Q (E++ZM W.fs W.ps (F+1) a r d (.mk ks tn ts))):
 fnT (P2 (cVa F)) (cVa F) (Zc fns) (Z5 tys) PU 100 48 [.ptr 0 0 0,.int .i64 (a:Nat),.int .i64 r,.int .i64 d,.agg (YD ks tn ts)] (wkH 4 W E) 50 fun v H nx=>v= .tup []∧nx=100∧ ∃E',Q E'∧H=wkH 52 W E':=by
 have hlen:=hW.len
 have hL:=hW.L
 have hpar:=hW.par
 rw[Wt]at hf
 have hf:=hf.resolve_left fun h=>h.1 hk
 have hf:=hf.2.2.2
 rw[ZM,if_neg (fun h=>h hk)]at hE hQ
 change ks.length=_∧YR W.ps a (fun j m=>wK W.fs (Wt W.fs W.ps F) j (ks.getD m [])) _ _ _ at hf
 change Q (E++ZP W.ps a (fun j m=>JL (ZL W.fs W.ps W.fs.length j r d) (fun r' t'=>ZM W.fs W.ps F j r' (d+VU W.fs j) t') r (upR W.fs W.ps W.ps.length j) (ks.getD m [])) _ _ _)at hQ
 change E.length+(ZP W.ps a (fun j m=>JL (ZL W.fs W.ps W.fs.length j r d) (fun r' t'=>ZM W.fs W.ps F j r' (d+VU W.fs j) t') r (upR W.fs W.ps W.ps.length j) (ks.getD m [])) _ _ _).length≤_ at hE
 obtain⟨hkl,hall⟩:=hf
 generalize hC:E++ZP W.ps a (fun j m=>JL (ZL W.fs W.ps W.fs.length j r d) (fun r' t'=>ZM W.fs W.ps F j r' (d+VU W.fs j) t') r (upR W.fs W.ps W.ps.length j) (ks.getD m [])) (W.fs.length-(a+1)) (a+1) 0=C at *
 have hCl:C.length≤1000000:=by rw[←hC,List.length_append];exact hE
 clear hE
 refine⟨v0S W E a r d (YD ks tn ts),Ft a r d _ hL (Jj ks tn ts) rfl rfl rfl rfl rfl,?_⟩
 repeat' first|refine And.intro ?_ ?_|(intro h;try first|exact dz|replace h:=cv)
 all_goals try exact cz
 refine⟨fun m s=>∃(j q:Nat) (E:List Cl),(a<j∧j≤W.fs.length∧m=W.fs.length-j∧q<j∧q+Kb W.ps a (W.fs.length-j) j=ks.length∧YR W.ps a (fun j m=>wK W.fs (Wt W.fs W.ps F) j (ks.getD m [])) (W.fs.length-j) j q∧E++ZP W.ps a (fun j m=>JL (ZL W.fs W.ps W.fs.length j r d) (fun r' t'=>ZM W.fs W.ps F j r' (d+VU W.fs j) t') r (upR W.fs W.ps W.ps.length j) (ks.getD m [])) (W.fs.length-j) j q=C)∧s=vGS W E a r d (YD ks tn ts) q j,
  ⟨_,vGS W E a r d (YD ks tn ts) 0 (a+1),Kp (c:=4) hL rfl rfl rfl rfl rfl rfl rfl (Q3 (by first|rfl|omega)) (Q3 (by first|rfl|omega)),a+1,0,E,⟨by omega,by omega,rfl,by omega,by omega,hall,hC⟩,rfl⟩,?_⟩
 clear hC hall hkl
 rintro m s ⟨j,q,E,⟨hij,hj,rfl,hqj,hkl,hall,hC⟩,rfl⟩
 by_cases h1:j<W.fs.length
 ·have hc:W.fs.length-j=(W.fs.length-(j+1))+1:=by omega
  rw[hc,ZP]at hC
  rw[hc,YR]at hall
  rw[hc,Kb]at hkl
  have hj':(j:Int)<(W.ps.length:Int):=by rw[hpar];omega
  by_cases h2:W.ps.getD j 0=a
  ·rw[if_pos h2]at hC hall hkl
   have hq:q<ks.length:=by omega
   have e5:(asR ((YD ks tn ts).getD (0+2) AVal.any)).getD (q:Int).toNat []=[AVal.vs 3 ((ks.getD q []).map encT)]:=OI ks hq
   have hq':(q:Int)<((asR ((YD ks tn ts).getD (0+2) AVal.any)).length:Int):=by
    show(q:Int)<((ks.map _).length:Int)
    rw[List.length_map];omega
   obtain⟨⟨w1,w2,w3,w4⟩,hall⟩:=hall
   generalize hl:ks.getD q []=l at *
   repeat' first|refine And.intro ?_ ?_|(intro h;try first|exact dz|replace h:=cv)
   all_goals try exact cz
   ·rw[e5];rfl
   rw[e5]
   repeat' first|refine And.intro ?_ ?_|(intro h;try first|exact dz|replace h:=cv)
   all_goals try exact cz
   refine⟨vKS W E a r d (YD ks tn ts) q j l,NC (c:=52) hL rfl rfl rfl rfl rfl rfl rfl (.refl _) (.refl _) (.refl _),?_⟩
   have hj1:(W.fs.length-(j+1))+1=W.fs.length-j:=by omega
   clear e5 hq' hl hc
   by_cases hl0:l.length=0
   ·obtain rfl:=List.eq_nil_of_length_eq_zero hl0
    rw[JL,←List.append_assoc]at hC
    have hEl:E.length+(ZL W.fs W.ps W.fs.length j r d).length≤1000000:=by
     rw[←hC,List.length_append,List.length_append]at hCl
     omega
    repeat' first|refine And.intro ?_ ?_|(intro h;try first|exact dz|replace h:=cv)
    all_goals try exact cz
    refine⟨52,[.int .i64 (j:Nat),.int .i64 r,.int .i64 d],W,E,rfl,rfl,rfl,⟨by decide,by decide,hL,rfl,rfl⟩,j,r,d,rfl,⟨hW,h1,by omega,hEl⟩,?_⟩
    repeat' first|refine And.intro ?_ ?_|(intro h;try first|exact dz|replace h:=cv)
    all_goals try exact cz
    exact⟨_,vGS W (E++ZL W.fs W.ps W.fs.length j r d) a r d (YD ks tn ts) (q+1) (j+1),Kp (c:=152) hL rfl rfl rfl rfl rfl rfl rfl (Q3 (by first|rfl|omega)) (Q3 (by first|rfl|omega)),⟨j+1,q+1,_,⟨by omega,by omega,rfl,by omega,by omega,hall,hC⟩,rfl⟩,by omega⟩
   ·have hll:((l.map encT).length:Int)=l.length:=by rw[List.length_map]
    have hlp:0<l.length:=by omega
    by_cases hrep:(W.fs.getD j default).rep=0
    ·have hmore:VU W.fs j=0:=by unfold VU;rw[if_neg (fun h=>h hrep)]
     rw[hmore]at hC
     repeat' first|refine And.intro ?_ ?_|(intro h;try first|exact dz|replace h:=cv)
     all_goals try exact cz
     refine⟨fun m s=>∃(k:Nat) (E:List Cl),(k≤l.length∧m=l.length-k∧E++(Fp (ZL W.fs W.ps W.fs.length j r d) (fun r' t'=>ZM W.fs W.ps F j r' (d+0) t') r (upR W.fs W.ps W.ps.length j) l k++ZP W.ps a (fun j m=>JL (ZL W.fs W.ps W.fs.length j r d) (fun r' t'=>ZM W.fs W.ps F j r' (d+VU W.fs j) t') r (upR W.fs W.ps W.ps.length j) (ks.getD m [])) (W.fs.length-(j+1)) (j+1) (q+1))=C)∧s=vIS W E a r d (YD ks tn ts) (q+1) j l 0 k,
      ⟨_,vIS W E a r d (YD ks tn ts) (q+1) j l 0 0,Ko (c:=52) hL rfl rfl rfl rfl rfl rfl rfl (Q3 (by first|rfl|omega)) (.refl _) (.refl _) (.refl _) (.refl _),0,E,⟨Nat.zero_le _,rfl,hC⟩,rfl⟩,?_⟩
     clear hC
     rintro m s ⟨k,E,⟨hkl',rfl,hC⟩,rfl⟩
     by_cases hk2:¬k<l.length
     ·obtain rfl:k=l.length:=by omega
      rw[N5 hlp,List.nil_append]at hC
      repeat' first|refine And.intro ?_ ?_|(intro h;try first|exact dz|replace h:=cv)
      all_goals try exact cz
      exact⟨_,vGS W E a r d (YD ks tn ts) (q+1) (j+1),Kp (c:=52) hL rfl rfl rfl rfl rfl rfl rfl (.refl _) (Q3 (by first|rfl|omega)),⟨j+1,q+1,_,⟨by omega,by omega,rfl,by omega,by omega,hall,hC⟩,rfl⟩,by omega⟩
     have hk2:=Decidable.not_not.1 hk2
     have e7:=En l hk2
     have hw:Wt W.fs W.ps F j (l.getD k default):=w4 _ (by rw[List.getD_eq_getElem?_getD,List.getElem?_eq_getElem hk2];exact List.getElem_mem hk2)
     rcases hlt:l.getD k default with⟨ks',tn',ts'⟩
     rw[hlt,Vk]at e7
     rw[hlt]at hw
     have hk3:(k:Int)<((l.map encT).length:Int):=by rw[List.length_map];omega
     by_cases hk0:k=0
     ·subst hk0
      rw[N6 hk2,hlt,List.append_assoc,←List.append_assoc]at hC
      have hEl:E.length+(ZM W.fs W.ps F j r (d+0) (.mk ks' tn' ts')).length≤1000000:=by
       rw[←hC,List.length_append,List.length_append]at hCl
       omega
      repeat' first|refine And.intro ?_ ?_|(intro h;try first|exact dz|replace h:=cv)
      all_goals try exact cz
      ·rw[e7];rfl
      rw[e7]
      repeat' first|refine And.intro ?_ ?_|(intro h;try first|exact dz|replace h:=cv)
      all_goals try exact cz
      refine⟨52,[.int .i64 (j:Nat),.int .i64 r,.int .i64 (d+0),.agg (YD ks' tn' ts')],W,E,rfl,rfl,rfl,⟨by decide,by decide,hL,rfl,rfl⟩,j,r,d+0,.mk ks' tn' ts',(by rw[Vk]),⟨hW,h1,by omega,hw,⟨by omega,by omega⟩,hEl⟩,?_⟩
      repeat' first|refine And.intro ?_ ?_|(intro h;try first|exact dz|replace h:=cv)
      all_goals try exact cz
      exact⟨_,vIS W (E++ZM W.fs W.ps F j r (d+0) (.mk ks' tn' ts')) a r d (YD ks tn ts) (q+1) j l 0 1,Ko (c:=152) hL rfl rfl rfl rfl rfl rfl rfl (.refl _) (.refl _) (.refl _) (.refl _) (Q3 (by first|rfl|omega)),⟨1,_,⟨hk2,rfl,hC⟩,rfl⟩,by omega⟩
     exact absurd (w2 hrep) (by omega)
    ·have hmore:VU W.fs j=1:=by unfold VU;rw[if_pos hrep]
     rw[hmore]at hC
     repeat' first|refine And.intro ?_ ?_|(intro h;try first|exact dz|replace h:=cv)
     all_goals try exact cz
     refine⟨fun m s=>∃(k:Nat) (E:List Cl),(k≤l.length∧m=l.length-k∧E++(Fp (ZL W.fs W.ps W.fs.length j r d) (fun r' t'=>ZM W.fs W.ps F j r' (d+1) t') r (upR W.fs W.ps W.ps.length j) l k++ZP W.ps a (fun j m=>JL (ZL W.fs W.ps W.fs.length j r d) (fun r' t'=>ZM W.fs W.ps F j r' (d+VU W.fs j) t') r (upR W.fs W.ps W.ps.length j) (ks.getD m [])) (W.fs.length-(j+1)) (j+1) (q+1))=C)∧s=vIS W E a r d (YD ks tn ts) (q+1) j l 1 k,
      ⟨_,vIS W E a r d (YD ks tn ts) (q+1) j l 1 0,Ko (c:=52) hL rfl rfl rfl rfl rfl rfl rfl (Q3 (by first|rfl|omega)) (.refl _) (.refl _) (.refl _) (.refl _),0,E,⟨Nat.zero_le _,rfl,hC⟩,rfl⟩,?_⟩
     clear hC
     rintro m s ⟨k,E,⟨hkl',rfl,hC⟩,rfl⟩
     by_cases hk2:¬k<l.length
     ·obtain rfl:k=l.length:=by omega
      rw[N5 hlp,List.nil_append]at hC
      repeat' first|refine And.intro ?_ ?_|(intro h;try first|exact dz|replace h:=cv)
      all_goals try exact cz
      exact⟨_,vGS W E a r d (YD ks tn ts) (q+1) (j+1),Kp (c:=52) hL rfl rfl rfl rfl rfl rfl rfl (.refl _) (Q3 (by first|rfl|omega)),⟨j+1,q+1,_,⟨by omega,by omega,rfl,by omega,by omega,hall,hC⟩,rfl⟩,by omega⟩
     have hk2:=Decidable.not_not.1 hk2
     have e7:=En l hk2
     have hw:Wt W.fs W.ps F j (l.getD k default):=w4 _ (by rw[List.getD_eq_getElem?_getD,List.getElem?_eq_getElem hk2];exact List.getElem_mem hk2)
     rcases hlt:l.getD k default with⟨ks',tn',ts'⟩
     rw[hlt,Vk]at e7
     rw[hlt]at hw
     have hk3:(k:Int)<((l.map encT).length:Int):=by rw[List.length_map];omega
     by_cases hk0:k=0
     ·subst hk0
      rw[N6 hk2,hlt,List.append_assoc,←List.append_assoc]at hC
      have hEl:E.length+(ZM W.fs W.ps F j r (d+1) (.mk ks' tn' ts')).length≤1000000:=by
       rw[←hC,List.length_append,List.length_append]at hCl
       omega
      repeat' first|refine And.intro ?_ ?_|(intro h;try first|exact dz|replace h:=cv)
      all_goals try exact cz
      ·rw[e7];rfl
      rw[e7]
      repeat' first|refine And.intro ?_ ?_|(intro h;try first|exact dz|replace h:=cv)
      all_goals try exact cz
      refine⟨52,[.int .i64 (j:Nat),.int .i64 r,.int .i64 (d+1),.agg (YD ks' tn' ts')],W,E,rfl,rfl,rfl,⟨by decide,by decide,hL,rfl,rfl⟩,j,r,d+1,.mk ks' tn' ts',(by rw[Vk]),⟨hW,h1,by omega,hw,⟨by omega,by omega⟩,hEl⟩,?_⟩
      repeat' first|refine And.intro ?_ ?_|(intro h;try first|exact dz|replace h:=cv)
      all_goals try exact cz
      exact⟨_,vIS W (E++ZM W.fs W.ps F j r (d+1) (.mk ks' tn' ts')) a r d (YD ks tn ts) (q+1) j l 1 1,Ko (c:=152) hL rfl rfl rfl rfl rfl rfl rfl (.refl _) (.refl _) (.refl _) (.refl _) (Q3 (by first|rfl|omega)),⟨1,_,⟨hk2,rfl,hC⟩,rfl⟩,by omega⟩
     rw[Pt (by omega) hk2,hlt,List.append_assoc,←List.append_assoc]at hC
     have hrr:=hW.rr j h1
     have hrl:=hW.rrl
     have hEl:E.length+(ZM W.fs W.ps F j (upR W.fs W.ps W.ps.length j) (d+1) (.mk ks' tn' ts')).length≤1000000:=by
      rw[←hC,List.length_append,List.length_append]at hCl
      omega
     repeat' first|refine And.intro ?_ ?_|(intro h;try first|exact dz|replace h:=cv)
     all_goals try exact cz
     ·rw[e7];rfl
     rw[e7]
     repeat' first|refine And.intro ?_ ?_|(intro h;try first|exact dz|replace h:=cv)
     all_goals try exact cz
     rw[←hrr]at hEl
     refine⟨.tup [],wkH (100+16*4294967296+52) W (E++ZM W.fs W.ps F j (W.rr.getD j 0) (d+1) (.mk ks' tn' ts')),100+16*4294967296+100,⟨52,[.int .i64 (j:Nat),.int .i64 (W.rr.getD j 0),.int .i64 (d+1),.agg (YD ks' tn' ts')],W,E,rfl,rfl,rfl,⟨by decide,by decide,hL,rfl,rfl⟩,j,W.rr.getD j 0,d+1,.mk ks' tn' ts',(by rw[Vk]),⟨hW,h1,by omega,hw,⟨by omega,by omega⟩,hEl⟩,rfl,rfl,rfl⟩,?_⟩
     repeat' first|refine And.intro ?_ ?_|(intro h;try first|exact dz|replace h:=cv)
     all_goals try exact cz
     exact⟨_,vIS W (E++ZM W.fs W.ps F j (W.rr.getD j 0) (d+1) (.mk ks' tn' ts')) a r d (YD ks tn ts) (q+1) j l 1 (k+1),Ko (c:=100+16*4294967296+52) hL rfl rfl rfl rfl rfl rfl rfl (.refl _) (.refl _) (.refl _) (.refl _) (Q3 (by first|rfl|omega)),⟨k+1,_,⟨by omega,rfl,by rw[hrr];exact hC⟩,rfl⟩,by omega⟩
  ·rw[if_neg h2]at hC hall hkl
   repeat' first|refine And.intro ?_ ?_|(intro h;try first|exact dz|replace h:=cv)
   all_goals try exact cz
   exact⟨_,vGS W E a r d (YD ks tn ts) q (j+1),Kp (c:=52) hL rfl rfl rfl rfl rfl rfl rfl (.refl _) (Q3 (by first|rfl|omega)),⟨j+1,q,_,⟨by omega,by omega,rfl,by omega,hkl,hall,hC⟩,rfl⟩,by omega⟩
 ·obtain rfl:j=W.fs.length:=by omega
  rw[Nat.sub_self,ZP,List.append_nil]at hC
  subst hC
  repeat' first|refine And.intro ?_ ?_|(intro h;try first|exact dz|replace h:=cv)
  all_goals try exact cz
  exact⟨⟨[],wkH 52 W E,100⟩,Yo (W:=W) (na:=50) (b:=52) (nx':=100) (c:=52) (e3:=[]) (by decide) (by decide) rfl rfl hL (by omega) (fun τ _=>trivial) (Zh rfl),_,rfl,⟨rfl,rfl,_,hQ,rfl⟩⟩
theorem GU[Syms]:∀F:Nat,FamS.ok Try.prog 48 (GL F)
 |0=>by
  rintro rest W E Q ⟨a,r,d,t,rfl,⟨hW,ha,hF,hf,hd,hE⟩,hQ⟩
  omega
 |F+1=>by
  rintro rest W E Q ⟨a,r,d,⟨ks,tn,ts⟩,rfl,⟨hW,ha,hF,hf,hd,hE⟩,hQ⟩
  rw[Vk]
  have hc:=Ou (GU F)
  by_cases hk:(W.fs.getD a default).kind=0
  ·exact QS QN QO (BX hc) hc Za (Ds F a r d ks tn ts hW ha hF hk hf hd hE hQ)
  ·rw[ZM,if_pos hk]at hE hQ
   exact QS QN QO (BX hc) hc Za (Dw F a r d ks tn ts hW ha hk (by omega) hQ)
end
section
set_option maxRecDepth 100000
set_option maxHeartbeats 4000000
noncomputable def NT:Nat→Nat→Pl:=Kz [(58,0),(53,0),(53,10),(46,0)] (ZS plt)
abbrev XZ(ks:List (List Tr))(n:Int)(s:List UInt8):List AVal:=[.int .i64 n,.str s,.vs 1 (ks.map fun x=>[.vs 3 (x.map encT)])]
theorem Ur(ks:List (List Tr))(n:Int)(s:List UInt8):∀x∈XZ ks n s,x.flat=true:=Jj ks n s
theorem ZF(ks:List (List Tr))(n:Int)(s:List UInt8):encT (.mk ks n s)=XZ ks n s:=QL ks n s
def r8S(k n:Int)(s:List UInt8):St:=⟨[(0,.int .i64 k),(3,.vp (XZ [] n s) 0),(4,.int .i64 0)],[],1⟩
theorem HX[Syms]{N nx:Nat}{e e3:Env}{H:Heap}{row:List AVal}(hf:∀x∈row,x.flat=true)(h0:H.get 0=some (.cells [row] false))(he:FzE 0 [row] e e3):Reb 0 N ⟨e,H,nx⟩ ⟨e3,[],nx⟩:=
 Zo (n:=0) (rows:=[row]) h0 (Xs hf QG) he trivial
theorem NJ[Syms](k n:Int)(s:List UInt8)(h4:k=4→n=0∧s.length≤100)(hn:k≠4→s=[])(h1:k=1→0≤n∧n≤1)(h2:k=2→ -1000≤n∧n≤1000):
 fnT Qz Qz (Zc fns) (Z5 tys) NT 100 58 [.int .i64 k,.agg (XZ [] n s)] [] 0 (fun v H _=>v= .int .i64 0∧H=[]):=by
 refine⟨r8S k n s,HX (Ur [] n s) rfl ⟨.same _,.pt 0 0 _ _ rfl (Uo _),.same _,trivial⟩,?_⟩
 unfold r8S
 have hx1:eqb [] []=true:=rfl
 have hx2:∀(sz:Nat) (rows:List (List AVal)),asR (.vs sz rows)=rows:=fun _ _=>rfl
 have hx3:(2:Int)=2:=rfl
 have hx4:(2:Int)=2:=rfl
 by_cases k4:k=4
 ·obtain⟨rfl,hs⟩:=h4 k4
  subst k4
  repeat' first|refine And.intro ?_ ?_|(intro h;try first|exact dzi|replace h:=cvi)
  all_goals try exact cz
  exact⟨_,QP [4] rfl,_,rfl,rfl,rfl⟩
 ·obtain rfl:=hn k4
  by_cases k1:k=1
  ·have h1:=h1 k1
   subst k1
   repeat' first|refine And.intro ?_ ?_|(intro h;try first|exact dzi|replace h:=cvi)
   all_goals try exact cz
   exact⟨_,QP [4] rfl,_,rfl,rfl,rfl⟩
  ·by_cases k2:k=2
   ·have h2:=h2 k2
    subst k2
    repeat' first|refine And.intro ?_ ?_|(intro h;try first|exact dzi|replace h:=cvi)
    all_goals try exact cz
    exact⟨_,QP [4] rfl,_,rfl,rfl,rfl⟩
   · repeat' first|refine And.intro ?_ ?_|(intro h;try first|exact dzi|replace h:=cvi)
     all_goals try exact cz
     exact⟨_,QP [4] rfl,_,rfl,rfl,rfl⟩
def S_rleaf:SpecI:=fun args K=>∃(k:Int) (t:Tr),args=[.int .i64 k,.agg (encT t)]∧Od k t∧K (.int .i64 0)
theorem FB[Syms]:X0 Try.prog 58 S_rleaf:=by
 rintro args K ⟨k,⟨ks,n,s⟩,rfl,⟨h0,h4,hn,h1,h2⟩,hk⟩
 obtain rfl:ks=[]:=h0
 refine⟨rfl,_,rfl,hk,?_⟩
 rw[ZF]
 exact QS QN QO Qn Qy Za (NJ k n s h4 hn h1 h2)
structure FtOk(fs:List Fd)(ps:List Int):Prop where
 len:fs.length≤14
 par:ps.length=fs.length
 kids:∀a,a<fs.length→(fs.getD a default).kind=0→((Kb ps a (fs.length-(a+1)) (a+1):Nat):Int)=(fs.getD a default).kids
def Bs(F:Nat):SpecI:=fun args K=>∃(fs:List Fd) (ps:List Int) (a:Nat) (t:Tr),args=[vF fs,vI ps,.int .i64 (a:Nat),.agg (encT t)]∧FtOk fs ps∧a<fs.length∧fs.length-a≤F∧Wt fs ps F a t∧K (.int .i64 0)
abbrev PD:CallT:=Qv 58 (Yh S_rleaf) Qz
theorem CG[Syms]:PD.det Try.prog:=XN FB Qn
abbrev cFi(F:Nat):CallT:=Qv 58 (Yh S_rleaf) (Qv 53 (Yh (Bs F)) Qz)
def fi0(fs:List Fd)(ps:List Int)(a:Nat)(row:List AVal):St:=⟨[(0,vF fs),(1,vI ps),(2,.int .i64 a),(7,.vp row 0),(8,.int .i64 0)],[],1⟩
def fiS(fs:List Fd)(ps:List Int)(a:Nat)(row:List AVal)(q j:Nat):St:=⟨[(0,vF fs),(1,vI ps),(2,.int .i64 a),(7,.vp row 0),(9,.int .i64 q),(10,.int .i64 j)],[],1⟩
def fiK(fs:List Fd)(ps:List Int)(a:Nat)(row:List AVal)(q j:Nat)(l:List Tr):St:=⟨[(0,vF fs),(1,vI ps),(2,.int .i64 a),(7,.vp row 0),(9,.int .i64 q),(10,.int .i64 j),(11,.vs 3 (l.map encT))],[],1⟩
def fiI(fs:List Fd)(ps:List Int)(a:Nat)(row:List AVal)(q j:Nat)(l:List Tr)(k:Nat):St:=⟨[(0,vF fs),(1,vI ps),(2,.int .i64 a),(7,.vp row 0),(9,.int .i64 q),(10,.int .i64 j),(11,.vs 3 (l.map encT)),(12,.int .i64 k)],[],1⟩
theorem Ew[Syms](F:Nat)(fs:List Fd)(ps:List Int)(a:Nat)(ks:List (List Tr))(n:Int)(s:List UInt8)(ho:FtOk fs ps)(ha:a<fs.length)(hk:(fs.getD a default).kind≠0)(hl:Od (fs.getD a default).kind (.mk ks n s)):
 fnT PD (cFi F) (Zc fns) (Z5 tys) NT 100 53 [vF fs,vI ps,.int .i64 (a:Nat),.agg (XZ ks n s)] [] 0 (fun v H _=>v= .int .i64 0∧H=[]):=by
 have hlen:=ho.len
 refine⟨fi0 fs ps a (XZ ks n s),HX (Ur ks n s) rfl ⟨.same _,.same _,.same _,.pt 0 0 _ _ rfl (Uo _),.same _,trivial⟩,?_⟩
 repeat' first|refine And.intro ?_ ?_|(intro h;try first|exact dz|replace h:=cv)
 all_goals try exact cz
 refine⟨_,.mk ks n s,by rw[ZF];rfl,hl,?_⟩
 repeat' first|refine And.intro ?_ ?_|(intro h;try first|exact dz|replace h:=cv)
 all_goals try exact cz
 exact⟨_,QP [8] rfl,_,rfl,rfl,rfl⟩
theorem Cp[Syms](F:Nat)(fs:List Fd)(ps:List Int)(a:Nat)(ks:List (List Tr))(ho:FtOk fs ps)(ha:a<fs.length)(hF:fs.length-a≤F+1)(hk:(fs.getD a default).kind=0)(hkl:ks.length=Kb ps a (fs.length-(a+1)) (a+1))(hall:YR ps a (fun j m=>wK fs (Wt fs ps F) j (ks.getD m [])) (fs.length-(a+1)) (a+1) 0):
 fnT PD (cFi F) (Zc fns) (Z5 tys) NT 100 53 [vF fs,vI ps,.int .i64 (a:Nat),.agg (XZ ks 0 [])] [] 0 (fun v H _=>v= .int .i64 0∧H=[]):=by
 have hlen:=ho.len
 have hpar:=ho.par
 have hx1:eqb [] []=true:=rfl
 have hx2:∀(sz:Nat) (rows:List (List AVal)),asR (.vs sz rows)=rows:=fun _ _=>rfl
 have hx3:(2:Int)=2:=rfl
 have hx4:(2:Int)=2:=rfl
 have hkd:=ho.kids a ha hk
 rw[←hkl]at hkd
 have hkm:((ks.map fun x=>[AVal.vs 3 (x.map encT)]).length:Int)=(fs.getD a default).kids:=by rw[List.length_map];exact hkd
 refine⟨fi0 fs ps a (XZ ks 0 []),HX (Ur ks 0 []) rfl ⟨.same _,.same _,.same _,.pt 0 0 _ _ rfl (Uo _),.same _,trivial⟩,?_⟩
 repeat' first|refine And.intro ?_ ?_|(intro h;try first|exact dzi|replace h:=cvi)
 all_goals try exact cz
 refine⟨fun m s=>∃(j q:Nat),(a<j∧j≤fs.length∧m=fs.length-j∧q<j∧q+Kb ps a (fs.length-j) j=ks.length∧YR ps a (fun j m=>wK fs (Wt fs ps F) j (ks.getD m [])) (fs.length-j) j q)∧s=fiS fs ps a (XZ ks 0 []) q j,
  ⟨_,fiS fs ps a (XZ ks 0 []) 0 (a+1),(Q1 [0] (by exact rfl) ⟨.refl _,.refl _,.refl _,.refl _,Q3 (by first|rfl|omega),Q3 (by first|rfl|omega),trivial⟩ trivial),a+1,0,⟨by omega,by omega,rfl,by omega,by omega,hall⟩,rfl⟩,?_⟩
 clear hall hkl
 rintro m s ⟨j,q,⟨hij,hj,rfl,hqj,hkl,hall⟩,rfl⟩
 by_cases h1:j<fs.length
 ·have hc:fs.length-j=(fs.length-(j+1))+1:=by omega
  rw[hc,YR]at hall
  rw[hc,Kb]at hkl
  have hj':(j:Int)<(ps.length:Int):=by rw[hpar];omega
  by_cases h2:ps.getD j 0=a
  ·rw[if_pos h2]at hall hkl
   have hq:q<ks.length:=by omega
   have e5:(asR ((XZ ks 0 []).getD (0+2) AVal.any)).getD (q:Int).toNat []=[AVal.vs 3 ((ks.getD q []).map encT)]:=OI ks hq
   have hq':(q:Int)<((asR ((XZ ks 0 []).getD (0+2) AVal.any)).length:Int):=by
    show(q:Int)<((ks.map _).length:Int)
    rw[List.length_map];omega
   obtain⟨⟨w1,w2,w3,w4⟩,hall⟩:=hall
   generalize hl:ks.getD q []=l at *
   repeat' first|refine And.intro ?_ ?_|(intro h;try first|exact dzi|replace h:=cvi)
   all_goals try exact cz
   ·rw[e5];rfl
   rw[e5]
   repeat' first|refine And.intro ?_ ?_|(intro h;try first|exact dzi|replace h:=cvi)
   all_goals try exact cz
   refine⟨fiK fs ps a (XZ ks 0 []) q j l,(Q1 [0] (by exact rfl) ⟨.refl _,.refl _,.refl _,.refl _,.refl _,.refl _,.refl _,trivial⟩ trivial),?_⟩
   clear e5 hq' hl hc
   by_cases hr2:(fs.getD j default).rep=2
   · repeat' first|refine And.intro ?_ ?_|(intro h;try first|exact dzi|replace h:=cvi)
     all_goals try exact cz
     refine⟨fun m s=>∃k:Nat,(k≤l.length∧m=l.length-k)∧s=fiI fs ps a (XZ ks 0 []) (q+1) j l k,⟨_,fiI fs ps a (XZ ks 0 []) (q+1) j l 0,(Q1 [0] (by exact rfl) ⟨.refl _,.refl _,.refl _,.refl _,Q3 (by first|rfl|omega),.refl _,.refl _,.refl _,trivial⟩ trivial),0,⟨Nat.zero_le _,rfl⟩,rfl⟩,?_⟩
     rintro m s ⟨k,⟨hkl',rfl⟩,rfl⟩
     by_cases hk2:k<l.length
     ·have e7:=En l hk2
      have hw:Wt fs ps F j (l.getD k default):=w4 _ (by rw[List.getD_eq_getElem?_getD,List.getElem?_eq_getElem hk2];exact List.getElem_mem hk2)
      rcases hlt:l.getD k default with⟨ks',tn',ts'⟩
      rw[hlt,ZF]at e7
      rw[hlt]at hw
      have hk3:(k:Int)<((l.map encT).length:Int):=by rw[List.length_map];omega
      repeat' first|refine And.intro ?_ ?_|(intro h;try first|exact dzi|replace h:=cvi)
      all_goals try exact cz
      ·rw[e7];rfl
      rw[e7]
      repeat' first|refine And.intro ?_ ?_|(intro h;try first|exact dzi|replace h:=cvi)
      all_goals try exact cz
      refine⟨fs,ps,j,.mk ks' tn' ts',(by rw[ZF];rfl),ho,h1,by omega,hw,?_⟩
      repeat' first|refine And.intro ?_ ?_|(intro h;try first|exact dzi|replace h:=cvi)
      all_goals try exact cz
      exact⟨_,fiI fs ps a (XZ ks 0 []) (q+1) j l (k+1),(Q1 [0] (by exact rfl) ⟨.refl _,.refl _,.refl _,.refl _,.refl _,.refl _,.refl _,Q3 (by first|rfl|omega),trivial⟩ trivial),⟨k+1,⟨by omega,rfl⟩,rfl⟩,by omega⟩
     ·obtain rfl:k=l.length:=by omega
      repeat' first|refine And.intro ?_ ?_|(intro h;try first|exact dzi|replace h:=cvi)
      all_goals try exact cz
      exact⟨_,fiS fs ps a (XZ ks 0 []) (q+1) (j+1),(Q1 [0] (by exact rfl) ⟨.refl _,.refl _,.refl _,.refl _,.refl _,Q3 (by first|rfl|omega),trivial⟩ trivial),⟨j+1,q+1,⟨by omega,by omega,rfl,by omega,by omega,hall⟩,rfl⟩,by omega⟩
   ·by_cases hr0:(fs.getD j default).rep=0
    ·have w2':=w2 hr0
     repeat' first|refine And.intro ?_ ?_|(intro h;try first|exact dzi|replace h:=cvi)
     all_goals try exact cz
     refine⟨fun m s=>∃k:Nat,(k≤l.length∧m=l.length-k)∧s=fiI fs ps a (XZ ks 0 []) (q+1) j l k,⟨_,fiI fs ps a (XZ ks 0 []) (q+1) j l 0,(Q1 [0] (by exact rfl) ⟨.refl _,.refl _,.refl _,.refl _,Q3 (by first|rfl|omega),.refl _,.refl _,.refl _,trivial⟩ trivial),0,⟨Nat.zero_le _,rfl⟩,rfl⟩,?_⟩
     rintro m s ⟨k,⟨hkl',rfl⟩,rfl⟩
     by_cases hk2:k<l.length
     ·have e7:=En l hk2
      have hw:Wt fs ps F j (l.getD k default):=w4 _ (by rw[List.getD_eq_getElem?_getD,List.getElem?_eq_getElem hk2];exact List.getElem_mem hk2)
      rcases hlt:l.getD k default with⟨ks',tn',ts'⟩
      rw[hlt,ZF]at e7
      rw[hlt]at hw
      have hk3:(k:Int)<((l.map encT).length:Int):=by rw[List.length_map];omega
      repeat' first|refine And.intro ?_ ?_|(intro h;try first|exact dzi|replace h:=cvi)
      all_goals try exact cz
      ·rw[e7];rfl
      rw[e7]
      repeat' first|refine And.intro ?_ ?_|(intro h;try first|exact dzi|replace h:=cvi)
      all_goals try exact cz
      refine⟨fs,ps,j,.mk ks' tn' ts',(by rw[ZF];rfl),ho,h1,by omega,hw,?_⟩
      repeat' first|refine And.intro ?_ ?_|(intro h;try first|exact dzi|replace h:=cvi)
      all_goals try exact cz
      exact⟨_,fiI fs ps a (XZ ks 0 []) (q+1) j l (k+1),(Q1 [0] (by exact rfl) ⟨.refl _,.refl _,.refl _,.refl _,.refl _,.refl _,.refl _,Q3 (by first|rfl|omega),trivial⟩ trivial),⟨k+1,⟨by omega,rfl⟩,rfl⟩,by omega⟩
     ·obtain rfl:k=l.length:=by omega
      repeat' first|refine And.intro ?_ ?_|(intro h;try first|exact dzi|replace h:=cvi)
      all_goals try exact cz
      exact⟨_,fiS fs ps a (XZ ks 0 []) (q+1) (j+1),(Q1 [0] (by exact rfl) ⟨.refl _,.refl _,.refl _,.refl _,.refl _,Q3 (by first|rfl|omega),trivial⟩ trivial),⟨j+1,q+1,⟨by omega,by omega,rfl,by omega,by omega,hall⟩,rfl⟩,by omega⟩
    ·have w1':=w1 hr2
     repeat' first|refine And.intro ?_ ?_|(intro h;try first|exact dzi|replace h:=cvi)
     all_goals try exact cz
     refine⟨fun m s=>∃k:Nat,(k≤l.length∧m=l.length-k)∧s=fiI fs ps a (XZ ks 0 []) (q+1) j l k,⟨_,fiI fs ps a (XZ ks 0 []) (q+1) j l 0,(Q1 [0] (by exact rfl) ⟨.refl _,.refl _,.refl _,.refl _,Q3 (by first|rfl|omega),.refl _,.refl _,.refl _,trivial⟩ trivial),0,⟨Nat.zero_le _,rfl⟩,rfl⟩,?_⟩
     rintro m s ⟨k,⟨hkl',rfl⟩,rfl⟩
     by_cases hk2:k<l.length
     ·have e7:=En l hk2
      have hw:Wt fs ps F j (l.getD k default):=w4 _ (by rw[List.getD_eq_getElem?_getD,List.getElem?_eq_getElem hk2];exact List.getElem_mem hk2)
      rcases hlt:l.getD k default with⟨ks',tn',ts'⟩
      rw[hlt,ZF]at e7
      rw[hlt]at hw
      have hk3:(k:Int)<((l.map encT).length:Int):=by rw[List.length_map];omega
      repeat' first|refine And.intro ?_ ?_|(intro h;try first|exact dzi|replace h:=cvi)
      all_goals try exact cz
      ·rw[e7];rfl
      rw[e7]
      repeat' first|refine And.intro ?_ ?_|(intro h;try first|exact dzi|replace h:=cvi)
      all_goals try exact cz
      refine⟨fs,ps,j,.mk ks' tn' ts',(by rw[ZF];rfl),ho,h1,by omega,hw,?_⟩
      repeat' first|refine And.intro ?_ ?_|(intro h;try first|exact dzi|replace h:=cvi)
      all_goals try exact cz
      exact⟨_,fiI fs ps a (XZ ks 0 []) (q+1) j l (k+1),(Q1 [0] (by exact rfl) ⟨.refl _,.refl _,.refl _,.refl _,.refl _,.refl _,.refl _,Q3 (by first|rfl|omega),trivial⟩ trivial),⟨k+1,⟨by omega,rfl⟩,rfl⟩,by omega⟩
     ·obtain rfl:k=l.length:=by omega
      repeat' first|refine And.intro ?_ ?_|(intro h;try first|exact dzi|replace h:=cvi)
      all_goals try exact cz
      exact⟨_,fiS fs ps a (XZ ks 0 []) (q+1) (j+1),(Q1 [0] (by exact rfl) ⟨.refl _,.refl _,.refl _,.refl _,.refl _,Q3 (by first|rfl|omega),trivial⟩ trivial),⟨j+1,q+1,⟨by omega,by omega,rfl,by omega,by omega,hall⟩,rfl⟩,by omega⟩
  ·rw[if_neg h2]at hall hkl
   repeat' first|refine And.intro ?_ ?_|(intro h;try first|exact dzi|replace h:=cvi)
   all_goals try exact cz
   exact⟨_,fiS fs ps a (XZ ks 0 []) q (j+1),(Q1 [0] (by exact rfl) ⟨.refl _,.refl _,.refl _,.refl _,.refl _,Q3 (by first|rfl|omega),trivial⟩ trivial),⟨j+1,q,⟨by omega,by omega,rfl,by omega,hkl,hall⟩,rfl⟩,by omega⟩
 ·obtain rfl:j=fs.length:=by omega
  repeat' first|refine And.intro ?_ ?_|(intro h;try first|exact dzi|replace h:=cvi)
  all_goals try exact cz
  exact⟨_,QP [8] rfl,_,rfl,rfl,rfl⟩
theorem Co[Syms]:∀F:Nat,X0 Try.prog 53 (Bs F)
 |0=>by
  rintro args K ⟨fs,ps,a,t,rfl,ho,ha,hF,hf,hk⟩
  omega
 |F+1=>by
  rintro args K ⟨fs,ps,a,⟨ks,n,s⟩,rfl,ho,ha,hF,hf,hk⟩
  refine⟨rfl,_,rfl,hk,?_⟩
  rw[ZF]
  have hc:(cFi F).ok Try.prog:=Qp FB (Qp (Co F) Qy)
  rw[Wt]at hf
  rcases hf with⟨h1,h2⟩|⟨h1,h2,h3,h4,h5⟩
  ·exact QS QN QO CG hc Za (Ew F fs ps a ks n s ho ha h1 h2)
  ·obtain rfl:n=0:=h2
   obtain rfl:s=[]:=h3
   exact QS QN QO CG hc Za (Cp F fs ps a ks ho ha hF h1 h4 h5)
def S_Fits8:SpecI:=fun args K=>∃(fs:List Fd) (t:Tr),args=[vF fs,.agg (encT t)]∧FsOk fs∧FtOk fs (Q0 fs)∧0<fs.length∧Wt fs (Q0 fs) fs.length 0 t∧K (.int .i64 0)
abbrev cFI(F:Nat):CallT:=Qv 20 (Yh S_par) (Qv 53 (Yh (Bs F)) Qz)
theorem Ov[Syms](F:Nat):(cFI F).det Try.prog:=XN DF (XN (Co F) Qn)
theorem OC[Syms](fs:List Fd)(ks:List (List Tr))(n:Int)(s:List UInt8)(hF:FsOk fs)(ho:FtOk fs (Q0 fs))(h0:0<fs.length)(hf:Wt fs (Q0 fs) fs.length 0 (.mk ks n s)):
 fnT (cFI fs.length) Qz (Zc fns) (Z5 tys) NT 100 46 [vF fs,.agg (XZ ks n s)] [] 0 (fun v H _=>v= .int .i64 0∧H=[]):=by
 refine⟨⟨[(0,vF fs),(3,.vp (XZ ks n s) 0)],[],1⟩,HX (Ur ks n s) rfl ⟨.same _,.pt 0 0 _ _ rfl (Uo _),trivial⟩,?_⟩
 repeat' first|refine And.intro ?_ ?_|(intro h;try first|exact dz|replace h:=cv)
 all_goals try exact cz
 refine⟨fs,rfl,hF,?_⟩
 repeat' first|refine And.intro ?_ ?_|(intro h;try first|exact dz|replace h:=cv)
 all_goals try exact cz
 refine⟨fs,Q0 fs,0,.mk ks n s,by rw[ZF];rfl,ho,h0,by omega,hf,?_⟩
 repeat' first|refine And.intro ?_ ?_|(intro h;try first|exact dz|replace h:=cv)
 all_goals try exact cz
 exact⟨_,QP [4] rfl,_,rfl,rfl,rfl⟩
theorem Nu[Syms]:X0 Try.prog 46 S_Fits8:=by
 rintro args K ⟨fs,⟨ks,n,s⟩,rfl,hF,ho,h0,hf,hk⟩
 refine⟨rfl,_,rfl,hk,?_⟩
 rw[ZF]
 exact QS QN QO (Ov _) Qy Za (OC fs ks n s hF ho h0 hf)
end
section
set_option maxRecDepth 100000
set_option maxHeartbeats 4000000
abbrev cM8(F:Nat):CallT:=Qv 20 (Yh S_par) (Qv 52 (Hh (Ns F)) Qz)
theorem PC[Syms](F:Nat):(cM8 F).ok Try.prog:=Qp DF (K2 (IZ F) Qy)
noncomputable def Re:Nat→Nat→Pl:=Kz [(45,1)] (ZS plt)
theorem Oc[Syms](fs:List Fd)(ns:List Int)(hm:MkOk fs (Q0 fs) ns)(hF:FsOk fs)(h0:0<fs.length):
 fnT Qz (cM8 fs.length) (Zc fns) (Z5 tys) Re 100 45 [vF fs,vI ns] [] 0 (L9 (fun v H _=>v= .agg (encT (XP fs ns))∧H=[])):=by
 refine⟨fs,rfl,hF,?_⟩
 repeat' first|refine And.intro ?_ ?_|(intro h;try first|exact dz|replace h:=cv)
 all_goals try exact cz
 refine⟨⟨[(4,.ptr 1 0 0),(5,.ptr 0 0 0)],[(0,Zu fs (Q0 fs) ns 0),(1,some (.cells [tr0] false))],2⟩,Q1 [1,0] (by exact rfl) ⟨.refl _,.refl _,trivial⟩ ⟨⟨by decide,_,rfl,.refl _⟩,⟨by decide,_,rfl,.refl _⟩,trivial⟩,?_⟩
 refine⟨[0],[.ptr 0 0 0,.int .i64 ((0:Nat):Int)],[(0,Zu fs (Q0 fs) ns 0)],rfl,⟨.refl _,.refl _,trivial⟩,⟨⟨by decide,_,rfl,.refl _⟩,trivial⟩,fs,Q0 fs,ns,0,0,rfl,rfl,rfl,hm,h0,by omega,Nat.zero_le _,?_⟩
 unfold XP
 rcases ZV fs (Q0 fs) ns fs.length 0 0 with⟨⟨tk,tn,ts⟩,b⟩
 dsimp only
 rw[QL]
 repeat' first|refine And.intro ?_ ?_|(intro h;try first|exact dz|replace h:=cv)
 all_goals try exact cz
 exact⟨⟨[(4,.ptr 0 0 0)],[(0,some (.cells [[.int .i64 tn,.str ts,.vs 1 (tk.map fun(x:List Tr)=>[AVal.vs 3 (x.map encT)])]] false))],1⟩,(by exact Q1 [1] (by exact rfl) ⟨.refl _,trivial⟩ ⟨⟨by decide,_,rfl,Zg (row:=[.int .i64 tn,.str ts,.vs 1 (tk.map fun(x:List Tr)=>[AVal.vs 3 (x.map encT)])]) ⟨.refl _,.refl _,.refl _,trivial⟩⟩,trivial⟩),_,rfl,[],fun n b h=>(by rw[Heap.get_nil]at h;cases h),rfl,rfl⟩
def S_make8:SpecI:=fun args K=>∃fs ns,args=[vF fs,vI ns]∧MkOk fs (Q0 fs) ns∧FsOk fs∧0<fs.length∧K (.agg (encT (XP fs ns)))
theorem N3(t:Tr):(AVal.agg (encT t)).imm=true:=by
 obtain⟨ks,n,s⟩:=t
 rw[QL];rfl
theorem LJ[Syms]:X0 Try.prog 45 S_make8:=by
 rintro args K ⟨fs,ns,rfl,hm,hF,h0,hk⟩
 exact⟨rfl,_,N3 _,hk,YZ.forget (QS QN QO Qn (PC _) Za (Oc fs ns hm hF h0))⟩
end
end Go.Proofs.Ytcpikannlnmafaa
