/-
  The statement FsmWalks:its walk. The statement's arguments:numbers,rows of numbers.
-/
import Derived.Test.YtcpikannlnmafaaL1
import Derived.Test.YtcpikannlnmafaaL6
import Derived.Test.YtcpikannlnmafaaL4
import Derived.Test.YtcpikannlnmafaaL15
import Derived.Test.YtcpikannlnmafaaSxOne
set_option linter.unusedVariables false
set_option linter.unusedSimpArgs false
namespace Go.Proofs.Ytcpikannlnmafaa
open Go Go.Av
section
set_option maxRecDepth 100000
set_option maxHeartbeats 4000000
abbrev cWl:CallT:=Qv 23 (Yh S_known15) (Qv 13 (Yh S_make) (Qv 28 (Yh S_many) (Qv 29 (Yh S_cols) (Qv 26 (Yh S_next) Qz))))
theorem Py[Syms]:cWl.ok Try.prog:=Qp Eo (Qp LI (Qp O5 (Qp Oo (Qp O1 Qy))))
def atR(L:Nat)(E:List Cl):List (List AVal):=(List.range L).map fun k=>encI ((QJ E k).length:Nat)
theorem J3(L:Nat)(E:List Cl):(atR L E).length=L:=by rw[atR,List.length_map,List.length_range]
theorem Xz(L:Nat)(E:List Cl):Qe (atR L E):=fun r hr x hx=>by
 obtain⟨k,_,rfl⟩:=List.mem_map.1 hr
 exact QT _ x hx
theorem F3{L:Nat}(E:List Cl){k:Nat}(h:k<L):(atR L E)[k]?=some (encI ((QJ E k).length:Nat)):=by
 rw[atR,List.getElem?_map,List.getElem?_range h];rfl
theorem Bd{L:Nat}(E:List Cl){k:Nat}(h:k<L):(atR L E).getD (0+(k:Int).toNat) []=[.int .i64 ((QJ E k).length:Nat)]:=by
 rw[Int.toNat_natCast,Nat.zero_add,List.getD_eq_getElem?_getD,F3 E h];rfl
theorem Oy{L:Nat}(E:List Cl)(c:Cl)(h:c.k<L):(atR L E).set (0+(c.k:Int).toNat) [.int .i64 (((QJ E c.k).length:Nat)+1)]=atR L (E++[c]):=by
 rw[Int.toNat_natCast,Nat.zero_add]
 apply List.ext_getElem?
 intro i
 by_cases hi:i<L
 ·rw[F3 _ hi,HP,List.getElem?_set]
  by_cases e:c.k=i
  ·subst e
   rw[if_pos rfl,if_pos (by rw[J3];exact h),if_pos rfl]
   rfl
  ·rw[if_neg e,if_neg e,F3 _ hi]
   rfl
 ·rw[List.getElem?_eq_none (by rw[List.length_set,J3];omega),List.getElem?_eq_none (by rw[J3];omega)]
theorem Oz(L:Nat):atR L []=List.replicate L [.int .i64 0]:=by
 apply List.ext_getElem?
 intro i
 by_cases hi:i<L
 ·rw[F3 _ hi,List.getElem?_replicate,if_pos hi];rfl
 ·rw[List.getElem?_eq_none (by rw[J3];omega),List.getElem?_eq_none (by rw[List.length_replicate];omega)]
theorem EV{L:Nat}(E:List Cl){k:Nat}(h:k<L):asI (((atR L E).getD k []).getD 0 AVal.any)=((QJ E k).length:Nat):=by
 have e:(atR L E).getD k []=encI ((QJ E k).length:Nat):=by rw[List.getD_eq_getElem?_getD,F3 E h];rfl
 rw[e];rfl
theorem JS(E:List Cl)(k:Nat):(asR ((WA E k).getD 0 AVal.any)).length=(QJ E k).length:=List.length_map _
def wlS(l:List Tr)(L:Nat)(E:List Cl)(nx:List (List Int))(done:List Cl)(i:Nat):St:=⟨[(6,vRs l),(7,UJ L E),(9,vN nx),(10,.slice 2 0 L 1 none),(11,.int .i64 i)],[(2,some (.cells (atR L done) false))],3⟩
def wlI(l:List Tr)(L:Nat)(E:List Cl)(nx:List (List Int))(done:List Cl)(i:Nat)(leaf:Int)(st:Nat):St:=⟨[(6,vRs l),(7,UJ L E),(9,vN nx),(10,.slice 2 0 L 1 none),(11,.int .i64 i),(12,.int .i64 leaf),(13,.int .i64 st)],[(2,some (.cells (atR L done) false))],3⟩
def wlR(l:List Tr)(L:Nat)(E:List Cl)(nx:List (List Int))(done:List Cl)(i:Nat)(leaf:Int)(st:Nat)(r:Int):St:=⟨[(6,vRs l),(7,UJ L E),(9,vN nx),(10,.slice 2 0 L 1 none),(11,.int .i64 i),(12,.int .i64 leaf),(13,.int .i64 st),(14,.int .i64 r)],[(2,some (.cells (atR L done) false))],3⟩
def wlT(l:List Tr)(L:Nat)(E:List Cl)(nx:List (List Int))(done:List Cl)(i:Nat)(leaf:Int)(st:Nat)(r:Int):St:=⟨[(6,vRs l),(7,UJ L E),(9,vN nx),(10,.slice 2 0 L 1 none),(11,.int .i64 i),(12,.int .i64 leaf),(13,.int .i64 st),(14,.int .i64 r),(104,.bool false)],[(2,some (.cells (atR L done) false))],3⟩
theorem OD{x y:AVal}(h:x=y):WkV x y:=h▸ .refl _
noncomputable def Ra:Nat→Nat→Pl:=Kz [(9,20),(9,23)] (ZS plt)
def wlK(L:Nat)(E:List Cl)(k:Nat):St:=⟨[(7,UJ L E),(10,.slice 2 0 L 1 none),(15,.int .i64 k)],[(2,some (.cells (atR L E) false))],3⟩
theorem OO{fs:List Fd}{ls:List (List Int)}(h:WgOk fs ls){i:Nat}(hi:i<(QD fs ls).length):
 ∃V T,ZX fs ((QD fs ls).take (i+1))=ZX fs ((QD fs ls).take i)++V∧ZX fs (QD fs ls)=ZX fs ((QD fs ls).take i)++(V++T)∧WI (nx1 fs) V T 0 (Qf fs:Nat)∧V.length≤3500:=by
 have hm:(QD fs ls).getD i default∈QD fs ls:=by rw[List.getD_eq_getElem?_getD,List.getElem?_eq_getElem hi];exact List.getElem_mem hi
 refine⟨_,ZX fs ((QD fs ls).drop (i+1)),E6 fs hi,?_,h.link _ hm _ (I8 h _ fun t ht=>List.mem_of_mem_drop ht),h.cells _ hm⟩
 rw[←List.append_assoc,←E6 fs hi]
 conv=>lhs;rw[←List.take_append_drop (i+1) (QD fs ls)]
 exact List.flatMap_append ..
theorem NB[Syms](ns:List Int)(ls:List (List Int))(hn:ns.length≤9223372036854775807)(hls:ls.length≤9223372036854775807)(hl:∀l∈ls,l.length≤9223372036854775807∧ ∀a∈l,I64 a):
 fnT Qz cWl (Zc fns) (Z5 tys) Ra 100 9 [vI ns,vN ls] [] 0 (fun v H _=>v= .bool true∧H=[]):=by
 repeat' first|refine And.intro ?_ ?_|(intro h;try first|exact dz|replace h:=cv)
 all_goals try exact cz
 refine⟨_,rfl,hn,?_⟩
 have hW:=O7 ns ls hl
 generalize Q7 ns=fs at *
 repeat' first|refine And.intro ?_ ?_|(intro h;try first|exact dz|replace h:=cv)
 all_goals try exact cz
 refine⟨fs,ls,rfl,hW.mkk,hW.cl.bg.ok,hW.cl.bg.h0,hls,?_⟩
 repeat' first|refine And.intro ?_ ?_|(intro h;try first|exact dz|replace h:=cv)
 all_goals try exact cz
 refine⟨fs,QD fs ls,rfl,hW.cl,?_⟩
 repeat' first|refine And.intro ?_ ?_|(intro h;try first|exact dz|replace h:=cv)
 all_goals try exact cz
 refine⟨fs,rfl,hW.cl.bg.ok,?_⟩
 have hlL:(VT fs).length=Qf fs:=Y1 fs (Qf fs)
 have hLw:∀i,i<Qf fs→((VT fs).getD i []).length=Xh fs i:=fun i hi=>by rw[VT,C0 hi,XM]
 have hLv:∀i r,i<Qf fs→r<Xh fs i→((VT fs).getD i []).getD r 0=nx1 fs i (r:Nat):=fun i r hi hr=>by rw[VT,C0 hi];simp[UG,hr]
 have hL15:Qf fs≤15:=hW.cl.wk.L
 generalize VT fs=nx at *
 repeat' first|refine And.intro ?_ ?_|(intro h;try first|exact dz|replace h:=cv)
 all_goals try exact cz
 refine⟨fun m s=>∃i:Nat,(i≤(QD fs ls).length∧m=(QD fs ls).length-i)∧s=wlS (QD fs ls) (Qf fs) (ZX fs (QD fs ls)) nx (ZX fs ((QD fs ls).take i)) i,⟨_,wlS (QD fs ls) (Qf fs) (ZX fs (QD fs ls)) nx [] 0,(Mb (nx':=3) (by omega)).trans (Q1 [1,2,0] (by exact rfl) ⟨.refl _,.refl _,.refl _,Q4 (by simp),Q3 (by first|rfl|omega),trivial⟩ ⟨⟨by decide,_,rfl,Q2 (by rw[Oz,Int.toNat_natCast];rfl) (Xz _ _)⟩,trivial⟩),0,⟨Nat.zero_le _,rfl⟩,rfl⟩,?_⟩
 rintro m s ⟨i,⟨hi,rfl⟩,rfl⟩
 have hfew:=KE fs ls
 have hgood:=hW.good
 have hcol:∀k,(QJ (ZX fs (QD fs ls)) k).length≤4000:=fun k=>by
  have:=hW.cl.col (QD fs ls).length k
  rwa [List.take_length]at this
 by_cases h1:i<(QD fs ls).length
 ·obtain⟨V,T,e1,e2,hlk,hVl⟩:=OO hW h1
  generalize ZX fs (QD fs ls)=E at *
  generalize hDi:ZX fs ((QD fs ls).take i)=D at *
  generalize hDj:ZX fs ((QD fs ls).take (i+1))=D' at *
  subst e1
  generalize QD fs ls=l at *
  repeat' first|refine And.intro ?_ ?_|(intro h;try first|exact dz|replace h:=cv)
  all_goals try exact cz
  refine⟨fun m s=>∃(done cur:List Cl) (leaf:Int) (st:Nat),(D++V=done++cur∧m=cur.length∧WI (nx1 fs) cur T leaf (Qf fs:Nat)∧st+cur.length≤3500)∧s=wlI l (Qf fs) E nx done i leaf st,⟨_,wlI l (Qf fs) E nx D i 0 (0:Nat),Q1 [0,1,2] (by exact rfl) ⟨.refl _,.refl _,.refl _,.refl _,.refl _,Q3 (by first|rfl|omega),Q3 (by first|rfl|omega),trivial⟩ ⟨⟨by decide,_,rfl,Qc (Xz _ _)⟩,trivial⟩,D,V,0,0,⟨rfl,rfl,hlk,by omega⟩,rfl⟩,?_⟩
  clear hlk
  rintro m s ⟨done,cur,leaf,st,⟨hD,rfl,hlk,hst⟩,rfl⟩
  cases cur with
  |nil=>
   obtain rfl:leaf=(Qf fs:Nat):=hlk
   rw[List.append_nil]at hD
   repeat' first|refine And.intro ?_ ?_|(intro h;try first|exact dz|replace h:=cv)
   all_goals try exact cz
   exact⟨_,wlS l (Qf fs) E nx (D++V) (i+1),Q1 [0,1,2] (by exact rfl) ⟨.refl _,.refl _,.refl _,.refl _,Q3 (by first|rfl|omega),trivial⟩ ⟨⟨by decide,_,rfl,by rw[hD];exact Qc (Xz _ _)⟩,trivial⟩,⟨i+1,⟨by omega,rfl⟩,by rw[hDj]⟩,by omega⟩
  |cons c cur=>
   obtain⟨rfl,hlk⟩:=hlk
   have hE:E=done++(c::(cur++T)):=by
    rw[e2,←List.append_assoc,hD,List.append_assoc];rfl
   have hc:G4 fs c:=hgood c (by rw[hE];simp)
   obtain⟨hck,hcr,hcw⟩:=hc
   rw[List.length_cons]at hst
   have hxl:(QJ done c.k).length<(QJ E c.k).length:=by
    rw[hE,Ue,List.length_append]
    have:(QJ (c::(cur++T)) c.k).length=(QJ (cur++T) c.k).length+1:=by
     show(QJ ([c]++(cur++T)) c.k).length=_
     rw[Ue,List.length_append]
     have h1:=HP [] c c.k
     rw[if_pos rfl]at h1
     change (QJ [c] c.k).length=(QJ [] c.k).length+1 at h1
     have h0:(QJ [] c.k).length=0:=rfl
     omega
    omega
   have hcl:=hcol c.k
   have hx1:asI (((atR (Qf fs) done).getD c.k []).getD 0 AVal.any)=((QJ done c.k).length:Nat):=EV done hck
   have hx2:(asR ((WA E c.k).getD 0 AVal.any)).length=(QJ E c.k).length:=JS E c.k
   have hx3:(2:Int)=2:=rfl
   have hx4:(2:Int)=2:=rfl
   have e3:=Bd done hck
   have ha1:isC (Cf 2) (AVal.int .i64 0) (((atR (Qf fs) done).getD (0+(c.k:Int).toNat) []).getD 0 AVal.any)=true:=by rw[e3];rfl
   have ha2:isC true AVal.nils ((WA E (c.k:Int).toNat).getD (0+0) AVal.any)=true:=rfl
   have ha3:0+(c.k:Int).toNat<(atR (Qf fs) done).length:=by rw[J3];omega
   have ha4:0+1≤((atR (Qf fs) done).getD (0+(c.k:Int).toNat) []).length:=by rw[e3];exact Nat.le_refl 1
   repeat' first|refine And.intro ?_ ?_|(intro h;try first|exact dzi|replace h:=cvi)
   all_goals try exact cz
   all_goals(try with_reducible first|exact ha1|exact ha2|exact ha3|exact ha4)
   all_goals(conv=>whnf)
   refine⟨wlR l (Qf fs) E nx (done++[c]) i (c.k:Nat) st 0,Q1 [0,1,2] (by exact rfl) ⟨.refl _,.refl _,.refl _,.refl _,.refl _,.refl _,.refl _,.refl _,trivial⟩ ⟨⟨by decide,_,rfl,Q2 (by
    show(atR (Qf fs) done).set (0+(c.k:Int).toNat) (Qm ((atR (Qf fs) done).getD (0+(c.k:Int).toNat) []) 0 [.int .i64 (asI (((atR (Qf fs) done).getD (0+(c.k:Int).toNat) []).getD 0 .any)+1)])=_
    rw[e3]
    exact Oy done c hck) (Xz _ _)⟩,trivial⟩,?_⟩
   have hE:E=(done++[c])++(cur++T):=by rw[hE];simp
   have hD:D++V=(done++[c])++cur:=by rw[hD];simp
   have hR:=Mu (IW hck) (E:=cur++T) fun x hx=>hgood x (by rw[hE];exact List.mem_append_right _ hx)
   have hRn:=DL (k:=c.k) (a:=done++[c]) (b:=cur++T)
   have hRa:=Ef c.k (done++[c]) (cur++T)
   rw[←hE]at hRn hRa
   have hlw:=hLw c.k hck
   have hlv:=hLv c.k
   clear hx1 hx2 hx3 hx4 e3 ha1 ha2 ha3 ha4 hxl
   generalize hR0:QK c.k (cur++T)=R at *
   generalize done++[c]=done' at *
   obtain⟨r,rfl⟩:=Int.eq_ofNat_of_zero_le hR.1
   have hrw:r<Xh fs c.k:=by omega
   have e3:=Bd done' hck
   have hx1:asI (((atR (Qf fs) done').getD c.k []).getD 0 AVal.any)=((QJ done' c.k).length:Nat):=EV done' hck
   have hx2:(asR ((WA E c.k).getD 0 AVal.any)).length=(QJ E c.k).length:=JS E c.k
   have hx3:(asR ((encN (nx.getD c.k [])).getD 0 AVal.any)).length=Xh fs c.k:=by rw[←hlw];exact List.length_map ..
   have ha1:isC (Cf 2) (AVal.int .i64 0) (((atR (Qf fs) done').getD (0+(c.k:Int).toNat) []).getD 0 AVal.any)=true:=by rw[e3];rfl
   have ha2:isC true AVal.nils ((WA E (c.k:Int).toNat).getD (0+0) AVal.any)=true:=rfl
   by_cases hx:(QJ done' c.k).length<(QJ E c.k).length
   ·have hx4:asI (((asR ((WA E c.k).getD 0 AVal.any)).getD (QJ done' c.k).length []).getD 0 AVal.any)=(r:Int):=by
     rw[hRa]
     show asI ((((QJ E c.k).map encI).getD _ []).getD 0 AVal.any)=_
     rw[WR encI 0 hx];rfl
    have hv:asI (((asR ((WA E (c.k:Int).toNat).getD (0+0) AVal.any)).getD (asI (((atR (Qf fs) done').getD (0+(c.k:Int).toNat) []).getD 0 AVal.any)).toNat []).getD 0 AVal.any)=(r:Int):=by
     rw[e3];exact hx4
    have ha3:isC true (AVal.int .i64 0) (((asR ((WA E (c.k:Int).toNat).getD (0+0) AVal.any)).getD (asI (((atR (Qf fs) done').getD (0+(c.k:Int).toNat) []).getD 0 AVal.any)).toNat []).getD 0 AVal.any)=true:=by
     rw[e3]
     show isC true (AVal.int .i64 0) ((((QJ E c.k).map encI).getD (QJ done' c.k).length []).getD 0 AVal.any)=true
     rw[WR encI 0 hx];rfl
    repeat' first|refine And.intro ?_ ?_|(intro h;try first|exact dzi|replace h:=cvi)
    all_goals try exact cz
    all_goals(try with_reducible first|exact ha1|exact ha2|exact ha3)
    all_goals(conv=>whnf)
    have hd:decide (((asR (((fun i=>encN (nx.getD i [])) (c.k:Int).toNat).getD 0 AVal.any)).length:Int)≤asI (((asR ((WA E (c.k:Int).toNat).getD (0+0) AVal.any)).getD (asI (((atR (Qf fs) done').getD (0+(c.k:Int).toNat) []).getD 0 AVal.any)).toNat []).getD 0 AVal.any))=false:=decide_eq_false (by
     rw[hv]
     show ¬(((nx.getD c.k []).map encI).length:Int)≤r
     rw[List.length_map,hlw];omega)
    refine⟨wlT l (Qf fs) E nx done' i (c.k:Nat) st r,Q1 [0,1,2] (by exact rfl) ⟨.refl _,.refl _,.refl _,.refl _,.refl _,.refl _,.refl _,Q3 hv,OD (congrArg AVal.bool hd),trivial⟩ ⟨⟨by decide,_,rfl,Qc (Xz _ _)⟩,trivial⟩,?_⟩
    have hlv':=hlv r hck hrw
    have hva:asI (((asR ((encN (nx.getD (c.k:Int).toNat [])).getD 0 AVal.any)).getD (((r:Nat):Int)).toNat []).getD 0 AVal.any)=nx1 fs c.k ((r:Nat):Int):=by
     show asI ((((nx.getD c.k []).map encI).getD r []).getD 0 AVal.any)=_
     rw[WR encI 0 (by omega),←hlv'];rfl
    have hia:isC true (AVal.int .i64 0) (((asR ((encN (nx.getD (c.k:Int).toNat [])).getD 0 AVal.any)).getD (((r:Nat):Int)).toNat []).getD 0 AVal.any)=true:=by
     show isC true (AVal.int .i64 0) ((((nx.getD c.k []).map encI).getD r []).getD 0 AVal.any)=true
     rw[WR encI 0 (by omega)];rfl
    have hla:(((r:Nat):Int))<((asR ((encN (nx.getD (c.k:Int).toNat [])).getD 0 AVal.any)).length:Int):=by
     show(((r:Nat):Int))<(((nx.getD c.k []).map encI).length:Int)
     rw[List.length_map,hlw];omega
    repeat' first|refine And.intro ?_ ?_|(intro h;try first|exact dzi|replace h:=cvi)
    all_goals try exact cz
    all_goals(try with_reducible first|exact hia|exact hla)
    exact⟨_,wlI l (Qf fs) E nx done' i (nx1 fs c.k ((r:Nat):Int)) (st+1),Q1 [0,1,2] (by exact rfl) ⟨.refl _,.refl _,.refl _,.refl _,.refl _,Q3 hva,Q3 (by first|rfl|omega),trivial⟩ ⟨⟨by decide,_,rfl,Qc (Xz _ _)⟩,trivial⟩,⟨done',cur,_,st+1,⟨hD,rfl,hlk,by omega⟩,rfl⟩,by rw[List.length_cons];omega⟩
   ·have hr0:r=0:=by have:=hRn hx;omega
    subst hr0
    have hx4:(2:Int)=2:=rfl
    repeat' first|refine And.intro ?_ ?_|(intro h;try first|exact dzi|replace h:=cvi)
    all_goals try exact cz
    all_goals(try with_reducible first|exact ha1|exact ha2)
    all_goals(conv=>whnf)
    have hd:decide (((asR (((fun i=>encN (nx.getD i [])) (c.k:Int).toNat).getD 0 AVal.any)).length:Int)≤0)=false:=decide_eq_false (by
     show ¬(((nx.getD c.k []).map encI).length:Int)≤0
     rw[List.length_map,hlw];omega)
    refine⟨wlT l (Qf fs) E nx done' i (c.k:Nat) st (0:Nat),Q1 [0,1,2] (by exact rfl) ⟨.refl _,.refl _,.refl _,.refl _,.refl _,.refl _,.refl _,.refl _,OD (congrArg AVal.bool hd),trivial⟩ ⟨⟨by decide,_,rfl,Qc (Xz _ _)⟩,trivial⟩,?_⟩
    have hlv':=hlv 0 hck hrw
    have hva:asI (((asR ((encN (nx.getD (c.k:Int).toNat [])).getD 0 AVal.any)).getD (((0:Nat):Int)).toNat []).getD 0 AVal.any)=nx1 fs c.k ((0:Nat):Int):=by
     show asI ((((nx.getD c.k []).map encI).getD 0 []).getD 0 AVal.any)=_
     rw[WR encI 0 (by omega),←hlv'];rfl
    have hia:isC true (AVal.int .i64 0) (((asR ((encN (nx.getD (c.k:Int).toNat [])).getD 0 AVal.any)).getD (((0:Nat):Int)).toNat []).getD 0 AVal.any)=true:=by
     show isC true (AVal.int .i64 0) ((((nx.getD c.k []).map encI).getD 0 []).getD 0 AVal.any)=true
     rw[WR encI 0 (by omega)];rfl
    have hla:(((0:Nat):Int))<((asR ((encN (nx.getD (c.k:Int).toNat [])).getD 0 AVal.any)).length:Int):=by
     show(((0:Nat):Int))<(((nx.getD c.k []).map encI).length:Int)
     rw[List.length_map,hlw];omega
    repeat' first|refine And.intro ?_ ?_|(intro h;try first|exact dzi|replace h:=cvi)
    all_goals try exact cz
    all_goals(try with_reducible first|exact hia|exact hla)
    exact⟨_,wlI l (Qf fs) E nx done' i (nx1 fs c.k ((0:Nat):Int)) (st+1),Q1 [0,1,2] (by exact rfl) ⟨.refl _,.refl _,.refl _,.refl _,.refl _,Q3 hva,Q3 (by first|rfl|omega),trivial⟩ ⟨⟨by decide,_,rfl,Qc (Xz _ _)⟩,trivial⟩,⟨done',cur,_,st+1,⟨hD,rfl,hlk,by omega⟩,rfl⟩,by rw[List.length_cons];omega⟩
 ·obtain rfl:i=(QD fs ls).length:=by omega
  rw[List.take_length]
  generalize ZX fs (QD fs ls)=E at *
  generalize QD fs ls=l at *
  repeat' first|refine And.intro ?_ ?_|(intro h;try first|exact dz|replace h:=cv)
  all_goals try exact cz
  refine⟨fun m s=>∃k:Nat,(k≤Qf fs∧m=Qf fs-k)∧s=wlK (Qf fs) E k,⟨_,wlK (Qf fs) E 0,Q1 [0,1,2] (by exact rfl) ⟨.refl _,.refl _,Q3 (by first|rfl|omega),trivial⟩ ⟨⟨by decide,_,rfl,Qc (Xz _ _)⟩,trivial⟩,0,⟨Nat.zero_le _,rfl⟩,rfl⟩,?_⟩
  rintro m s ⟨k,⟨hk,rfl⟩,rfl⟩
  by_cases h2:k<Qf fs
  ·have hcl:=hcol k
   have hx1:asI (((atR (Qf fs) E).getD k []).getD 0 AVal.any)=((QJ E k).length:Nat):=EV E h2
   have hx2:(asR ((WA E k).getD 0 AVal.any)).length=(QJ E k).length:=JS E k
   have hx3:(2:Int)=2:=rfl
   have hx4:(2:Int)=2:=rfl
   have e3:=Bd E h2
   have ha1:isC (Cf 2) (AVal.int .i64 0) (((atR (Qf fs) E).getD (0+(k:Int).toNat) []).getD 0 AVal.any)=true:=by rw[e3];rfl
   have ha2:isC true AVal.nils ((WA E (k:Int).toNat).getD (0+0) AVal.any)=true:=rfl
   repeat' first|refine And.intro ?_ ?_|(intro h;try first|exact dzi|replace h:=cvi)
   all_goals try exact cz
   all_goals(try with_reducible first|exact ha1|exact ha2)
   exact⟨_,wlK (Qf fs) E (k+1),Q1 [0,1,2] (by exact rfl) ⟨.refl _,.refl _,Q3 (by first|rfl|omega),trivial⟩ ⟨⟨by decide,_,rfl,Qc (Xz _ _)⟩,trivial⟩,⟨k+1,⟨by omega,rfl⟩,rfl⟩,by omega⟩
  ·obtain rfl:k=Qf fs:=by omega
   repeat' first|refine And.intro ?_ ?_|(intro h;try first|exact dz|replace h:=cv)
   all_goals try exact cz
   exact⟨_,QP [4] rfl,_,rfl,rfl,rfl⟩
end
abbrev kI:Shp:=.slice (.int .i64)
abbrev kII:Shp:=.slice (.slice (.int .i64))
theorem LN(r:List AVal)(h:(Shp.int .i64).ok r):∃a,r=encI a∧I64 a:=by
 obtain⟨z,rfl,hz⟩:=h
 exact⟨z,rfl,OP hz⟩
theorem R7[Syms]{ι:Inj}{x:AVal}{v:Value}(h:kI.ok [x])(hr:RelV ι x v):∃l:List Int,RelV ι (vI l) v∧l.length≤9223372036854775807∧ ∀a∈l,I64 a:=
 Shp.slice_of (enc:=encI) (G:=I64) 0 LN h hr
theorem R6[Syms]{ι:Inj}{x:AVal}{v:Value}(h:kII.ok [x])(hr:RelV ι x v):∃l:List (List Int),RelV ι (vN l) v∧l.length≤9223372036854775807∧ ∀a∈l,a.length≤9223372036854775807∧ ∀b∈a,I64 b:=
 Shp.slice_of (enc:=encN) (G:=fun a=>a.length≤9223372036854775807∧ ∀b∈a,I64 b) [] (fun r h=>by
  obtain⟨rows,rfl,h2,h3⟩:=h
  obtain⟨l,rfl,hl⟩:=DG encI I64 LN rows h3
  rw[List.length_map]at h2
  exact⟨l,rfl,h2,hl⟩) h hr
theorem Pb[Syms](ns:List Int)(ls:List (List Int))(hn:ns.length≤9223372036854775807)(_:∀a∈ns,I64 a)(hls:ls.length≤9223372036854775807)(hl:∀l∈ls,l.length≤9223372036854775807∧ ∀a∈l,I64 a):
 YZ Try.prog 9 [vI ns,vN ls] [] 0 (fun v H _=>v= .bool true∧H=[]):=
 QS QN QO Qn Py Za (NB ns ls hn hls hl)
end Go.Proofs.Ytcpikannlnmafaa
