/-
  The statement's records:as many as sixteen. How many cells a made record has,in all and of a leaf. Plain. The machine walks a striping:what is so at each step. Plain. Records into columns. The document's (chapter 14). All that is asked of a made shape and its records. Plain.
-/
import Derived.Test.YtcpikannlnmafaaL14
import Derived.Test.YtcpikannlnmafaaL2
import Derived.Test.YtcpikannlnmafaaL13
import Derived.Test.YtcpikannlnmafaaL10
import Derived.Test.YtcpikannlnmafaaL12
set_option linter.unusedVariables false
set_option linter.unusedSimpArgs false
namespace Go.Proofs.Ytcpikannlnmafaa
open Go Go.Av
section
set_option maxRecDepth 100000
set_option maxHeartbeats 4000000
abbrev vN2(ls:List (List Int)):AVal:=vT 1 encN [] ls
def S_make8v:SpecI:=fun args K=>∃fs ns,args=[vF fs,.vs 1 (ns.map encI)]∧MkOk fs (Q0 fs) ns∧FsOk fs∧0<fs.length∧K (.agg (encT (XP fs ns)))
theorem Iq[Syms]:X0 Try.prog 45 S_make8v:=by
 rintro args K ⟨fs,ns,rfl,hm,hF,h0,hk⟩
 obtain⟨-,v,h1,h2,h3⟩:=LJ [vF fs,vI ns] K ⟨fs,ns,rfl,hm,hF,h0,hk⟩
 refine⟨rfl,v,h1,h2,h3.1,fun ι w vs hv hH hb=>h3.2 ι w vs ?_ hH hb⟩
 obtain⟨x,vs',rfl,a1,a2⟩:=hv.uncons
 obtain⟨y,vs'',rfl,b1,b2⟩:=a2.uncons
 exact .cons a1 (.cons ((WkV.tab (d:=(0:Int)) rfl).rel b1) b2)
def QD(fs:List Fd)(ls:List (List Int)):List Tr:=(ls.take 16).map (XP fs)
abbrev vRs(l:List Tr):AVal:=.vs 3 (l.map encT)
def S_many:SpecI:=fun args K=>∃fs ls,args=[vF fs,vN2 ls]∧(∀l∈ls,MkOk fs (Q0 fs) l)∧FsOk fs∧0<fs.length∧ls.length≤9223372036854775807∧K (vRs (QD fs ls))
abbrev cMn:CallT:=Qv 45 (Yh S_make8v) Qz
theorem PB[Syms]:cMn.ok Try.prog:=Qp Iq Qy
def mnS(fs:List Fd)(ls:List (List Int))(i:Nat):St:=⟨[(0,vF fs),(1,vN2 ls),(5,Z8 2 3 (QD fs (ls.take i))),(6,.int .i64 i)],[(2,Zi encT (QD fs (ls.take i)))],3⟩
theorem XS(t:Tr):∀x∈encT t,x.flat=true:=by
 obtain⟨ks,n,s⟩:=t
 rw[QL]
 intro x hx
 simp at hx
 rcases hx with rfl|rfl|rfl<;>rfl
theorem P9(fs:List Fd){ls:List (List Int)}{i:Nat}(h:i<ls.length)(h16:i<16):QD fs (ls.take (i+1))=QD fs (ls.take i)++[XP fs (ls.getD i [])]:=by
 unfold QD
 rw[List.take_take,List.take_take,Nat.min_eq_right (by omega),Nat.min_eq_right (by omega),List.take_add_one,List.getElem?_eq_getElem h,List.getD_eq_getElem?_getD,List.getElem?_eq_getElem h]
 exact List.map_append ..
theorem C5{fs:List Fd}{ls:List (List Int)}{i:Nat}(h:i=16∨i=ls.length∧i≤16):QD fs (ls.take i)=QD fs ls:=by
 unfold QD
 rcases h with rfl|⟨rfl,_⟩
 ·rw[List.take_take,Nat.min_self]
 ·rw[List.take_length]
theorem Pj(l:List Tr){t:Tr}{tk:List (List Tr)}{tn:Int}{ts:List UInt8}(h:t= .mk tk tn ts):List.take l.length (List.drop 0 (l.map encT))++[[.int .i64 tn,.str ts,.vs 1 (tk.map fun x=>[AVal.vs 3 (x.map encT)])]]=(l++[Tr.mk tk tn ts]).map encT:=by
 rw[List.drop_zero,List.take_of_length_le (by simp),List.map_append,List.map_cons,QL];rfl
theorem FD[Syms]{na N nx:Nat}(l:List Tr):Reb na N ⟨[(4,vT 3 encT default l)],[],nx⟩ ⟨[(4,vRs l)],[],nx⟩:=by
 refine(Xv (e:=[(4,vT 3 encT default l)]) (k:=4) (y:=vRs l) fun ι v hv=>(WkV.see _ _ (.un _ _ _ _ (XY _ _ _).symm)).rel (x:=vT 3 encT default l) hv).trans (Vy.trans (DI ?_))
 rw[Env.get_cons,Nat.beq_refl];rfl
theorem P8[Syms](fs:List Fd)(ls:List (List Int))(hm:∀l∈ls,MkOk fs (Q0 fs) l)(hF:FsOk fs)(h0:0<fs.length)(hr:ls.length≤9223372036854775807):
 fnT Qz cMn (Zc fns) (Z5 tys) (ZS plt) 100 28 [vF fs,vN2 ls] [] 0 (fun v H _=>v=vRs (QD fs ls)∧H=[]):=by
 refine⟨fun m s=>∃i:Nat,(i≤ls.length∧i≤16∧m=16-i)∧s=mnS fs ls i,⟨_,mnS fs ls 0,(Mb (nx':=3) (by omega)).trans (Q1 [0,1,2] (by exact rfl) ⟨.refl _,.refl _,.refl _,Q3 (by first|rfl|omega),trivial⟩ trivial),0,⟨by omega,by omega,rfl⟩,rfl⟩,?_⟩
 rintro m s ⟨i,⟨hi,h16,rfl⟩,rfl⟩
 by_cases h1:i<ls.length
 ·by_cases h2:i<16
  ·have hs:=P9 fs h1 h2
   have hmk:=hm (ls.getD i []) (by rw[List.getD_eq_getElem?_getD,List.getElem?_eq_getElem h1];exact List.getElem_mem h1)
   have hol:(QD fs (ls.take i)).length≤16:=by unfold QD;rw[List.length_map,List.length_take];omega
   unfold mnS
   generalize QD fs (ls.take i)=out at *
   cases out with
   |nil=>
    repeat' first|refine And.intro ?_ ?_|(intro h;try first|exact dz|replace h:=cv)
    all_goals try exact cz
    refine⟨fs,ls.getD i [],rfl,hmk,hF,h0,?_⟩
    rcases hmt:XP fs (ls.getD i [])with⟨tk,tn,ts⟩
    rw[QL]
    repeat' first|refine And.intro ?_ ?_|(intro h;try first|exact dz|replace h:=cv)
    all_goals try exact cz
    refine⟨_,mnS fs ls (i+1),?_,⟨i+1,⟨by omega,by omega,rfl⟩,rfl⟩,by omega⟩
    unfold mnS
    rw[hs,hmt]
    first
     |exact Q1 [0,1,3] (by exact rfl) ⟨.refl _,.refl _,.cap _ _ _ _ _,Q3 (by first|rfl|omega),trivial⟩ ⟨⟨by decide,_,rfl,Q2 (by rw[List.map_cons,QL];rfl) (Qa XS _)⟩,trivial⟩
     |exact Q1 [0,1,4] (by exact rfl) ⟨.refl _,.refl _,.cap _ _ _ _ _,Q3 (by first|rfl|omega),trivial⟩ ⟨⟨by decide,_,rfl,Q2 (by rw[List.map_cons,QL];rfl) (Qa XS _)⟩,trivial⟩
     |exact Q1 [0,1,5] (by exact rfl) ⟨.refl _,.refl _,.cap _ _ _ _ _,Q3 (by first|rfl|omega),trivial⟩ ⟨⟨by decide,_,rfl,Q2 (by rw[List.map_cons,QL];rfl) (Qa XS _)⟩,trivial⟩
   |cons o0 ot=>
    repeat' first|refine And.intro ?_ ?_|(intro h;try first|exact dz|replace h:=cv)
    all_goals try exact cz
    refine⟨fs,ls.getD i [],rfl,hmk,hF,h0,?_⟩
    rcases hmt:XP fs (ls.getD i [])with⟨tk,tn,ts⟩
    rw[QL]
    repeat' first|refine And.intro ?_ ?_|(intro h;try first|exact dz|replace h:=cv)
    all_goals try exact cz
    refine⟨_,mnS fs ls (i+1),?_,⟨i+1,⟨by omega,by omega,rfl⟩,rfl⟩,by omega⟩
    unfold mnS
    rw[hs,hmt]
    first
     |exact Q1 [0,1,3] (by exact rfl) ⟨.refl _,.refl _,Q4 (by simp),Q3 (by first|rfl|omega),trivial⟩ ⟨⟨by decide,_,rfl,Q2 (Pj (o0::ot) hmt) (Qa XS _)⟩,trivial⟩
     |exact Q1 [0,1,4] (by exact rfl) ⟨.refl _,.refl _,Q4 (by simp),Q3 (by first|rfl|omega),trivial⟩ ⟨⟨by decide,_,rfl,Q2 (Pj (o0::ot) hmt) (Qa XS _)⟩,trivial⟩
     |exact Q1 [0,1,5] (by exact rfl) ⟨.refl _,.refl _,Q4 (by simp),Q3 (by first|rfl|omega),trivial⟩ ⟨⟨by decide,_,rfl,Q2 (Pj (o0::ot) hmt) (Qa XS _)⟩,trivial⟩
  ·obtain rfl:i=16:=by omega
   rw[mnS,C5 (by omega)]
   generalize QD fs ls=out at *
   cases out with
   |nil=>
    repeat' first|refine And.intro ?_ ?_|(intro h;try first|exact dz|replace h:=cv)
    all_goals try exact cz
    exact⟨_,(Q1 [] (by exact rfl) ⟨.zero _ _ rfl,trivial⟩ trivial:Reb _ _ _ ⟨[(4,vRs [])],[],0⟩),_,rfl,rfl,rfl⟩
   |cons o0 ot=>
    repeat' first|refine And.intro ?_ ?_|(intro h;try first|exact dz|replace h:=cv)
    all_goals try exact cz
    exact⟨⟨[(4,vRs (o0::ot))],[],3⟩,Reb.trans (s':=⟨[(4,vT 3 encT default (o0::ot))],[],3⟩) (XD default rfl rfl (Qa XS _) (List.take_of_length_le (by simp)) (by simp)) (FD _),_,rfl,rfl,rfl⟩
 ·obtain rfl:i=ls.length:=by omega
  rw[mnS,C5 (by omega)]
  generalize QD fs ls=out at *
  cases out with
  |nil=>
   repeat' first|refine And.intro ?_ ?_|(intro h;try first|exact dz|replace h:=cv)
   all_goals try exact cz
   exact⟨_,(Q1 [] (by exact rfl) ⟨.zero _ _ rfl,trivial⟩ trivial:Reb _ _ _ ⟨[(4,vRs [])],[],0⟩),_,rfl,rfl,rfl⟩
  |cons o0 ot=>
   repeat' first|refine And.intro ?_ ?_|(intro h;try first|exact dz|replace h:=cv)
   all_goals try exact cz
   exact⟨⟨[(4,vRs (o0::ot))],[],3⟩,Reb.trans (s':=⟨[(4,vT 3 encT default (o0::ot))],[],3⟩) (XD default rfl rfl (Qa XS _) (List.take_of_length_le (by simp)) (by simp)) (FD _),_,rfl,rfl,rfl⟩
theorem O5[Syms]:X0 Try.prog 28 S_many:=by
 rintro args K ⟨fs,ls,rfl,hm,hF,h0,hr,hk⟩
 exact⟨rfl,_,rfl,hk,QS QN QO Qn PB Za (P8 fs ls hm hF h0 hr)⟩
end
theorem Ip(ns:List Int){j:Nat}(hj:j<(Q7 ns).length):(Xk (Q7 ns)).getD j 0≤5:=by
 obtain⟨f,l,k,hs,hf,hk,hr,hm,hp,h⟩:=DP ns
 obtain⟨rows,st2,h1,h2,h3,h4⟩:=HI h 1 0 (k:Int) [] [(0,(k:Int))] [] (Int.le_refl _) (Int.le_refl _) rfl rfl
 rw[List.append_nil]at h1
 have hw:Zr (f::l) 0 []=(-1,0)::rows:=by
  rw[Zr]
  show(-1,0)::Zr l 1 (Zs 0 f [])=_
  rw[Zs,if_pos hk,hm]
  show(-1,0)::Zr l 1 [(0,(k:Int))]=_
  rw[h1];simp[Zr]
 have hrl:rows.length=l.length:=by
  have:=XI (f::l) 0 []
  rw[hw]at this
  simpa using this
 rw[hs]at hj ⊢
 rw[Xk,hw]
 cases j with
 |zero=>exact(show(0:Int)≤5 by decide)
 |succ j=>
  have hjr:j<rows.length:=by rw[hrl];simpa using hj
  have:=h2 _ (List.getElem_mem hjr)
  simp only[List.map_cons,List.getD_cons_succ]
  simp only[List.getD_eq_getElem?_getD,List.getElem?_map,List.getElem?_eq_getElem hjr,Option.map_some,Option.getD_some]
  exact this.2
theorem BF(fs:List Fd)(h0:(fs.getD 0 default).rep=0):∀l:List Int,Wl fs l≤l.length∧((0:Int)∈l→Wl fs l+1≤l.length)
 |[]=>⟨Int.le_refl 0,fun h=>nomatch h⟩
 |x::l=>by
  obtain⟨h1,h2⟩:=BF fs h0 l
  have hb:=UW fs x
  have e:Wl fs (x::l)=Wo fs x+Wl fs l:=rfl
  rw[e,List.length_cons]
  refine⟨by omega,fun hm=>?_⟩
  rcases List.mem_cons.1 hm with rfl|hm
  ·have hz:Wo fs 0=0:=by
    unfold Wo
    rw[if_neg (by show ¬(fs.getD 0 default).rep=2;omega)]
   omega
  ·have:=h2 hm;omega
theorem Ik(ns:List Int){j:Nat}(hj:j<(Q7 ns).length):ZN (Q7 ns) j≤5:=by
 obtain⟨m1,m2,m3⟩:=Xr ns
 have hd:=Ip ns hj
 have hc:=VL (K6 ns) hj
 rw[N8 _ hj]at hd
 generalize Q7 ns=fs at *
 have h:=Mj fs
 have hl:=h.len
 have ha:=h.ahead j (by omega)
 have e:ZN fs j=Wl fs (upA (Q0 fs) j):=(GY h (by omega)).symm
 rw[e,Yq h.ahead (by omega)]
 have e2:Wl fs ((j:Int)::upA (Q0 fs) ((Q0 fs).getD j 0))=Wo fs j+Wl fs (upA (Q0 fs) ((Q0 fs).getD j 0)):=rfl
 rw[e2]
 have hb:=UW fs j
 obtain⟨s1,s2⟩:=BF fs m2 (upA (Q0 fs) ((Q0 fs).getD j 0))
 by_cases h0:j=0
 ·subst h0
  have:Wo fs ((0:Nat):Int)=0:=by
   unfold Wo
   rw[if_neg (by show ¬(fs.getD 0 default).rep=2;omega)]
  have hn:(Q0 fs).getD 0 0<0:=by omega
  rw[XB hn]
  show _+(0:Int)≤5
  omega
 ·have hp:=hc.1 (by omega)
  obtain⟨p,hp⟩:=Int.eq_ofNat_of_zero_le hp
  obtain⟨g1,g2,g3⟩:=Zd h (a:=0) (by omega)
  have:Sub (Q0 fs) 0 p:=(g3 p (Nat.zero_le _) (by omega)).2 (by omega)
  have:=s2 (by rw[hp];exact this)
  omega
def W8(q:Nat→Bool)(E:List Cl):Nat:=E.countP fun c=>q c.k
def Ug(q:Nat→Bool)(n:Nat):Nat:=(List.range n).countP q
theorem JR(q:Nat→Bool)(n:Nat):Ug q (n+1)=Ug q n+(if q n=true then 1 else 0):=by
 unfold Ug
 rw[List.range_succ,List.countP_append,List.countP_singleton]
theorem Dg(q:Nat→Bool):∀d n:Nat,Ug q n≤Ug q (n+d)
 |0,n=>Nat.le_refl _
 |d+1,n=>by
  have h1:=Dg q d n
  have h2:=JR q (n+d)
  show Ug q n≤Ug q (n+d+1)
  split at h2<;>omega
theorem HR(q:Nat→Bool){a b:Nat}(h:a≤b):Ug q a≤Ug q b:=by
 obtain⟨d,rfl⟩:=Nat.exists_eq_add_of_le h
 exact Dg q d a
theorem MW(q:Nat→Bool)(a b:List Cl):W8 q (a++b)=W8 q a+W8 q b:=List.countP_append
def wdN(fs:List Fd)(q:Nat→Bool)(j:Nat):Nat:=Ug q (loL fs (Q0 fs) (Z4 (Q0 fs) j))-Ug q (loL fs (Q0 fs) j)
theorem Mn{fs:List Fd}(h:PreO fs (Q0 fs)){a:Nat}(ha:a<fs.length){g:Nat→Nat→List Cl}{q:Nat→Bool}{B:Nat}:∀(c j m e:Nat),j+c=fs.length→a<j→j≤e→e≤Z4 (Q0 fs) a→(∀i,j≤i→i<e→(Q0 fs).getD i 0≠a)→(e<Z4 (Q0 fs) a→(Q0 fs).getD e 0=a)→
 YR (Q0 fs) a (fun i p=>W8 q (g i p)≤wdN fs q i*B) c j m→
 W8 q (ZP (Q0 fs) a g c j m)≤(Ug q (loL fs (Q0 fs) (Z4 (Q0 fs) a))-Ug q (loL fs (Q0 fs) e))*B
 |0,j,m,e,h1,h2,h3,h4,h5,h6,h7=>Nat.zero_le _
 |c+1,j,m,e,h1,h2,h3,h4,h5,h6,h7=>by
  have hl:=h.len
  have ha':a<(Q0 fs).length:=by omega
  obtain⟨k1,k2,k3⟩:=Zd h ha'
  rw[YR]at h7
  rw[ZP]
  by_cases hj:(Q0 fs).getD j 0=a
  ·rw[if_pos hj]at h7 ⊢
   obtain rfl:e=j:=by
    rcases Nat.lt_or_ge j e with hlt|hge
    ·exact absurd hj (h5 j (Nat.le_refl _) hlt)
    ·omega
   have hj':e<(Q0 fs).length:=by omega
   obtain⟨c1,c2⟩:=Yb h hj' hj
   obtain⟨g1,g2,g3⟩:=Zd h hj'
   have hin:=EF h ha' hj' c1
   have hnot:∀i,e+1≤i→i<Z4 (Q0 fs) e→(Q0 fs).getD i 0≠a:=fun i i1 i2 ei=>by
    have s:=(g3 i (by omega) (by omega)).2 i2
    rcases(ZU h.ahead (show i<(Q0 fs).length by omega)).1 s with e1|e1
    ·omega
    ·rw[ei]at e1
     have:=VX h.ahead (k:=(a:Int)) (by omega) _ e1
     omega
   have ih:=Mn h ha c (e+1) (m+1) (Z4 (Q0 fs) e) (by omega) (by omega) (by omega) hin hnot (fun hlt=>MY h hj' hj (by omega) ((k3 _ (by omega) (by omega)).2 hlt)) h7.2
   have n1:=HR q (YU fs (Q0 fs) (show e≤Z4 (Q0 fs) e by omega))
   have n2:=HR q (YU fs (Q0 fs) hin)
   rw[MW]
   refine Nat.le_trans (Nat.add_le_add h7.1 ih) ?_
   rw[←Nat.add_mul]
   refine Nat.mul_le_mul_right _ ?_
   unfold wdN
   omega
  ·rw[if_neg hj]at h7 ⊢
   by_cases he:j=e
   ·subst he
    have hz:ZP (Q0 fs) a g c (j+1) m=[]:=K4 c (j+1) m fun i i1 i2 ei=>by
     have s:=(Yb h (show i<(Q0 fs).length by omega) ei).1
     have hlt:=(k3 i (by omega) (by omega)).1 s
     exact hj (h6 (by omega))
    rw[hz];exact Nat.zero_le _
   ·exact Mn h ha c (j+1) m e (by omega) (by omega) (by omega) h4 (fun i i1 i2=>h5 i (by omega) i2) h6 h7
theorem FY{fs:List Fd}(h:Leafy fs (Q0 fs)){a:Nat}(ha:a<fs.length)(hk:(fs.getD a default).kind=0){g:Nat→Nat→List Cl}{q:Nat→Bool}{B:Nat}
 (hg:YR (Q0 fs) a (fun i p=>W8 q (g i p)≤wdN fs q i*B) (fs.length-(a+1)) (a+1) 0):W8 q (ZP (Q0 fs) a g (fs.length-(a+1)) (a+1) 0)≤wdN fs q a*B:=by
 have hl:=h.pre.len
 obtain⟨k1,k2,k3⟩:=Zd h.pre (a:=a) (by omega)
 have hs:=Zv fs (Q0 fs) a
 rw[if_neg (by omega)]at hs
 have:=Mn h.pre ha (q:=q) (B:=B) (fs.length-(a+1)) (a+1) 0 (a+1) (by omega) (by omega) (Nat.le_refl _) (by omega) (fun i i1 i2=>by omega)
  (fun hlt=>Uh h.pre (by omega) ((k3 (a+1) (by omega) (by omega)).2 hlt)) hg
 rwa [hs,Nat.add_zero]at this
theorem Ca{fs:List Fd}(h:PreO fs (Q0 fs)){a:Nat}(ha:a<fs.length)(hk:(fs.getD a default).kind≠0)(q:Nat→Bool)(r d:Int)(v:Option (Int×List UInt8)):W8 q [⟨loL fs (Q0 fs) a,r,d,v⟩]=wdN fs q a:=by
 have he:=KH h (a:=a) (by rw[h.len];exact ha) hk
 have hs:=Zv fs (Q0 fs) a
 rw[if_pos hk]at hs
 unfold wdN W8
 rw[he,hs,JR,List.countP_singleton]
 dsimp only
 omega
def B3(fs:List Fd)(j:Nat):Nat:=3^(5-ZN fs j).toNat
theorem Nw(fs:List Fd)(j:Nat):1≤B3 fs j:=Nat.one_le_pow _ _ (by decide)
theorem Nx{fs:List Fd}(h:PreO fs (Q0 fs)){a j:Nat}(hj:j<fs.length)(e:(Q0 fs).getD j 0=a):B3 fs j≤B3 fs a:=by
 have:=Wn h hj e
 exact Nat.pow_le_pow_right (by decide) (by omega)
theorem Nv{fs:List Fd}(h:PreO fs (Q0 fs)){a j:Nat}(hj:j<fs.length)(e:(Q0 fs).getD j 0=a)(hr:(fs.getD j default).rep=2)(h5:ZN fs j≤5):3*B3 fs j≤B3 fs a:=by
 have hs:=YB (fs:=fs) h.ahead (k:=j) (by rw[h.len];exact hj)
 rw[e,if_pos hr]at hs
 have hs:ZN fs j=ZN fs a+1:=hs
 unfold B3
 rw[show(5-ZN fs a).toNat=(5-ZN fs j).toNat+1 by omega,Nat.pow_succ]
 omega
theorem Q00{fs:List Fd}(h:Leafy fs (Q0 fs))(q:Nat→Bool)(r d:Int):∀(F a:Nat),a<fs.length→W8 q (ZL fs (Q0 fs) F a r d)≤wdN fs q a*1
 |0,a,h1=>Nat.zero_le _
 |F+1,a,h1=>by
  rw[ZL]
  split
  ·rename_i hk
   rw[Ca h.pre h1 hk,Nat.mul_one]
   exact Nat.le_refl _
  ·rename_i hk
   exact FY h h1 (Decidable.not_not.1 hk) (GK _ _ _ fun i p i1 i2 e=>Q00 h q r d F i (by omega))
theorem Cn(q:Nat→Bool)(f:Tr→List Cl)(W:Nat):∀l:List Tr,(∀t∈l,W8 q (f t)≤W)→W8 q (l.flatMap f)≤l.length*W
 |[],_=>Nat.zero_le _
 |t::l,h=>by
  have h1:=h t (List.mem_cons_self ..)
  have h2:=Cn q f W l fun u hu=>h u (List.mem_cons_of_mem _ hu)
  rw[List.flatMap_cons,MW,List.length_cons,Nat.add_mul]
  omega
theorem HK{q:Nat→Bool}{no:List Cl}{val:Int→Tr→List Cl}{r R:Int}{l:List Tr}{W:Nat}{n:Nat}(hn:1≤n)(hno:W8 q no≤W)(hv:∀t∈l,∀r',W8 q (val r' t)≤W)(hl:l.length≤n):W8 q (JL no val r R l)≤n*W:=by
 cases l with
 |nil=>
  have:1*W≤n*W:=Nat.mul_le_mul_right _ hn
  show W8 q no≤_
  omega
 |cons t ts=>
  rw[JL,MW]
  have h1:=hv t (List.mem_cons_self ..) r
  have h2:=Cn q (val R) W ts fun u hu=>hv u (List.mem_cons_of_mem _ hu) R
  rw[List.length_cons]at hl
  have h3:(ts.length+1)*W≤n*W:=Nat.mul_le_mul_right _ hl
  rw[Nat.add_mul]at h3
  omega
theorem H8{fs:List Fd}(h:Leafy fs (Q0 fs))(h5:∀j,j<fs.length→ZN fs j≤5)(q:Nat→Bool):∀(F a:Nat) (r d:Int) (t:Tr),a<fs.length→Iy fs (Q0 fs) F a t→W8 q (ZM fs (Q0 fs) F a r d t)≤wdN fs q a*B3 fs a
 |0,a,r,d,t,h1,_=>Nat.zero_le _
 |F+1,a,r,d,t,h1,hf=>by
  rw[ZM]
  split
  ·rename_i hk
   rw[Ca h.pre h1 hk]
   have:=Nat.mul_le_mul_left (wdN fs q a) (Nw fs a)
   omega
  ·rename_i hk
   refine FY h h1 (Decidable.not_not.1 hk) (Vq _ _ _ (fun i p i1 i2 e hp=>?_) (hf.resolve_left hk))
   have hn:=Q00 h q r d fs.length i (by omega)
   have hv:∀t'∈t.kids.getD p [],∀r',W8 q (ZM fs (Q0 fs) F i r' (d+VU fs i) t')≤wdN fs q i*B3 fs i:=fun t' ht' r'=>H8 h h5 q F i r' _ t' (by omega) (hp.2.2 t' ht')
   have hno:W8 q (ZL fs (Q0 fs) fs.length i r d)≤wdN fs q i*B3 fs i:=Nat.le_trans hn (Nat.mul_le_mul_left _ (Nw fs i))
   by_cases hr:(fs.getD i default).rep=2
   ·have:=HK (r:=r) (R:=upR fs (Q0 fs) (Q0 fs).length i) (n:=3) (by decide) hno hv hp.2.1
    refine Nat.le_trans this ?_
    have h3:=Nv h.pre (by omega) e hr (h5 i (by omega))
    have h4:=Nat.mul_le_mul_left (wdN fs q i) h3
    rw[Nat.mul_left_comm]at h4
    exact h4
   ·have:=HK (r:=r) (R:=upR fs (Q0 fs) (Q0 fs).length i) (n:=1) (by decide) hno hv (hp.1 hr)
    refine Nat.le_trans this ?_
    rw[Nat.one_mul]
    exact Nat.mul_le_mul_left _ (Nx h.pre (by omega) e)
theorem K7(ns:List Int)(rec:List Int):(ZM (Q7 ns) (Q0 (Q7 ns)) (Q7 ns).length 0 0 0 (XP (Q7 ns) rec)).length≤3500∧
 ∀k,W8 (fun i=>Nat.beq i k) (ZM (Q7 ns) (Q0 (Q7 ns)) (Q7 ns).length 0 0 0 (XP (Q7 ns) rec))≤243:=by
 have hL:=Yf ns
 have h5:∀j,j<(Q7 ns).length→ZN (Q7 ns) j≤5:=fun j hj=>Ik ns hj
 have hlen:=Wq ns
 have hpos:=(Y2 ns).pos
 have hf:=Mz (Q7 ns) rec
 have hz:ZN (Q7 ns) 0=0:=by
  have hs:=YB (fs:=Q7 ns) hL.pre.ahead (k:=0) (by rw[hL.pre.len];omega)
  obtain⟨_,m2,_⟩:=Xr ns
  rw[if_neg (by omega)]at hs
  have ha:=hL.pre.ahead 0 (by rw[hL.pre.len];omega)
  have hu:upR (Q7 ns) (Q0 (Q7 ns)) (Q0 (Q7 ns)).length ((Q0 (Q7 ns)).getD 0 0)=0:=by
   unfold upR;rw[if_neg (by omega)]
  show upR _ _ _ _=0
  omega
 have hB:B3 (Q7 ns) 0=243:=by unfold B3;rw[hz];rfl
 have key:=fun q=>H8 hL h5 q (Q7 ns).length 0 0 0 (XP (Q7 ns) rec) (by omega) hf
 have hw:∀q,wdN (Q7 ns) q 0≤Ug q (loL (Q7 ns) (Q0 (Q7 ns)) (Z4 (Q0 (Q7 ns)) 0)):=fun q=>Nat.sub_le _ _
 refine⟨?_,fun k=>?_⟩
 ·have h1:=key fun _=>true
  have h2:=hw fun _=>true
  have e1:W8 (fun _=>true) (ZM (Q7 ns) (Q0 (Q7 ns)) (Q7 ns).length 0 0 0 (XP (Q7 ns) rec))=(ZM (Q7 ns) (Q0 (Q7 ns)) (Q7 ns).length 0 0 0 (XP (Q7 ns) rec)).length:=by
   unfold W8
   exact List.countP_eq_length.2 fun _ _=>rfl
  have e2:Ug (fun _=>true) (loL (Q7 ns) (Q0 (Q7 ns)) (Z4 (Q0 (Q7 ns)) 0))=loL (Q7 ns) (Q0 (Q7 ns)) (Z4 (Q0 (Q7 ns)) 0):=by
   unfold Ug
   rw[List.countP_eq_length.2 fun _ _=>rfl,List.length_range]
  obtain⟨g1,g2,g3⟩:=Zd hL.pre (a:=0) (by rw[hL.pre.len];omega)
  have h3:=Zw (Q7 ns) (Q0 (Q7 ns)) (Z4 (Q0 (Q7 ns)) 0)
  have h4:loL (Q7 ns) (Q0 (Q7 ns)) (Z4 (Q0 (Q7 ns)) 0)≤Z4 (Q0 (Q7 ns)) 0:=h3
  have h6:=hL.pre.len
  rw[e1,hB]at h1
  rw[e2]at h2
  omega
 ·have h1:=key fun i=>Nat.beq i k
  have h2:=hw fun i=>Nat.beq i k
  have h3:∀n,Ug (fun i=>Nat.beq i k) n≤(if k<n then 1 else 0):=fun n=>by
   induction n with
   |zero=>exact Nat.le_refl _
   |succ n ih=>
    rw[JR]
    by_cases hk:n=k
    ·subst hk
     rw[if_pos (Nat.beq_refl n),if_pos (by omega)]
     rw[if_neg (by omega)]at ih
     omega
    ·rw[if_neg (by rw[Qd hk];decide)]
     split at ih<;>split<;>omega
  have h4:=h3 (loL (Q7 ns) (Q0 (Q7 ns)) (Z4 (Q0 (Q7 ns)) 0))
  rw[hB]at h1
  split at h4<;>omega
theorem DQ{fs:List Fd}{f:Nat}(hf:f<fs.length)(hk:(fs.getD f default).kind≠0):((Q5 fs).getD (loL fs (Q0 fs) f) default).r=ZN fs f∧loL fs (Q0 fs) f<Qf fs:=by
 obtain⟨h1,h2⟩:=MB (ps:=Q0 fs) hf hk
 refine⟨?_,h2⟩
 show((QV fs (Q0 fs) fs.length).getD (QV fs (Q0 fs) f).length default).r=upR fs (Q0 fs) (Q0 fs).length f
 rw[h1,upR,if_pos (by omega),Int.toNat_natCast,Wr fs (Q0 fs) (by rw[Qj];exact hf)]
def G4(fs:List Fd)(c:Cl):Prop:=c.k<Qf fs∧0≤c.r∧c.r<Xh fs c.k
theorem VA{ps:List Int}{a:Nat}{g:Nat→Nat→List Cl}{Q:Cl→Prop}:∀(c j m:Nat),(∀i q,j≤i→i<j+c→ps.getD i 0=a→ ∀x∈g i q,Q x)→ ∀x∈ZP ps a g c j m,Q x
 |0,_,_,_,x,hx=>nomatch hx
 |c+1,j,m,h,x,hx=>by
  rw[ZP]at hx
  split at hx
  ·rename_i e
   rcases List.mem_append.1 hx with hx|hx
   ·exact h j m (Nat.le_refl _) (by omega) e x hx
   ·exact VA c (j+1) (m+1) (fun i q h1 h2=>h i q (by omega) (by omega)) x hx
  ·exact VA c (j+1) m (fun i q h1 h2=>h i q (by omega) (by omega)) x hx
theorem Dl{fs:List Fd}{a:Nat}(ha:a<fs.length)(hk:(fs.getD a default).kind≠0){r d:Int}{v:Option (Int×List UInt8)}(hr:0≤r∧r≤ZN fs a):G4 fs ⟨loL fs (Q0 fs) a,r,d,v⟩:=by
 obtain⟨h1,h2⟩:=DQ ha hk
 refine⟨h2,hr.1,?_⟩
 show r<((((Q5 fs).getD (loL fs (Q0 fs) a) default).r+1).toNat:Int)
 rw[h1]
 omega
theorem Mr{fs:List Fd}(h:PreO fs (Q0 fs))(r d:Int):∀(F a:Nat),a<fs.length→0≤r∧r≤ZN fs a→ ∀c∈ZL fs (Q0 fs) F a r d,G4 fs c
 |0,a,_,_,c,hc=>nomatch hc
 |F+1,a,h1,hr,c,hc=>by
  rw[ZL]at hc
  split at hc
  ·rename_i hk
   obtain rfl:=List.mem_singleton.1 hc
   exact Dl h1 hk hr
  ·refine VA _ _ _ (fun i q i1 i2 e=>Mr h r d F i (by omega) ?_) c hc
   have:=Wn h (by omega) e
   omega
theorem Je{fs:List Fd}(h:PreO fs (Q0 fs)):∀(F a:Nat) (r d:Int) (t:Tr),a<fs.length→0≤r∧r≤ZN fs a→ ∀c∈ZM fs (Q0 fs) F a r d t,G4 fs c
 |0,a,_,_,_,_,_,c,hc=>nomatch hc
 |F+1,a,r,d,t,h1,hr,c,hc=>by
  rw[ZM]at hc
  split at hc
  ·rename_i hk
   obtain rfl:=List.mem_singleton.1 hc
   exact Dl h1 hk hr
  ·refine VA _ _ _ (fun i q i1 i2 e=>?_) c hc
   have h3:=Wn h (show i<fs.length by omega) e
   have h4:=Va h (show i<fs.length by omega)
   generalize t.kids.getD q []=l
   intro x hx
   cases l with
   |nil=>exact Mr h r d _ i (by omega) (by omega) x hx
   |cons t0 ts=>
    rcases List.mem_append.1 hx with hx|hx
    ·exact Je h F i _ _ t0 (by omega) (by omega) x hx
    ·obtain⟨t',_,hx⟩:=List.mem_flatMap.1 hx
     exact Je h F i _ _ t' (by omega) ⟨h4,Int.le_refl _⟩ x hx
theorem NY{fs:List Fd}(h:0<Qf fs):nx1 fs ((Qf fs-1:Nat):Int) 0=Qf fs:=by
 have e:QY fs ((Qf fs-1:Nat):Int) (((Qf fs-1:Nat):Int)+1)=0:=by
  unfold QY
  rw[if_pos (by unfold Qf at *;omega)]
 rw[nx1,e,if_pos (Int.le_refl 0)]
 omega
theorem NX(a b:List Cl)(k:Nat):ofK (a++b) k=ofK a k++ofK b k:=List.filter_append ..
theorem Ue(a b:List Cl)(k:Nat):QJ (a++b) k=QJ a k++QJ b k:=by unfold QJ;rw[NX,List.map_append]
theorem Cz(a:List Cl)(k:Nat):(QJ a k).length=(ofK a k).length:=List.length_map _
theorem U8(k:Nat):∀E:List Cl,QK k E=(QJ E k).getD 0 0∧(QJ E k=[]→QK k E=0)
 |[]=>⟨rfl,fun _=>rfl⟩
 |c::t=>by
  rw[QK]
  by_cases h:c.k=k
  ·rw[if_pos h]
   have e:QJ (c::t) k=c.r::QJ t k:=by
    unfold QJ ofK
    rw[List.filter_cons,if_pos (by rw[h];exact Nat.beq_refl _)];rfl
   rw[e]
   exact⟨rfl,fun h=>nomatch h⟩
  ·rw[if_neg h]
   have e:QJ (c::t) k=QJ t k:=by
    unfold QJ ofK
    rw[List.filter_cons,if_neg (by rw[Qd h];decide)]
   rw[e]
   exact U8 k t
theorem Ef(k:Nat)(a b:List Cl):QK k b=(QJ (a++b) k).getD (QJ a k).length 0:=by
 rw[(U8 k b).1,Ue,List.getD_eq_getElem?_getD,List.getD_eq_getElem?_getD,List.getElem?_append_right (Nat.le_refl _),Nat.sub_self]
theorem DL{k:Nat}{a b:List Cl}(h:¬(QJ a k).length<(QJ (a++b) k).length):QK k b=0:=by
 refine(U8 k b).2 (List.eq_nil_of_length_eq_zero ?_)
 rw[Ue,List.length_append]at h
 omega
theorem Mu{fs:List Fd}{k:Nat}(hk:0<Xh fs k):∀{E:List Cl},(∀c∈E,G4 fs c)→0≤QK k E∧QK k E<Xh fs k
 |[],_=>⟨Int.le_refl 0,by show(0:Int)<_;omega⟩
 |c::t,h=>by
  rw[QK]
  split
  ·rename_i e
   have:=h c (List.mem_cons_self ..)
   rw[←e]
   exact⟨this.2.1,this.2.2⟩
  ·exact Mu hk fun x hx=>h x (List.mem_cons_of_mem _ hx)
theorem HP(E:List Cl)(c:Cl)(k:Nat):(QJ (E++[c]) k).length=(QJ E k).length+(if c.k=k then 1 else 0):=by
 rw[Cz,Cz]
 split
 ·rename_i h
  subst h
  rw[KD,List.length_append,List.length_singleton]
 ·rename_i h
  rw[Jv E c h];rfl
theorem IW{fs:List Fd}{k:Nat}(h:k<Qf fs):0<Xh fs k:=by
 obtain⟨f,h1,h2,h3⟩:=XH fs (Q0 fs) fs.length k h
 have:=(DQ h1 h3).1
 have hp:=Va (Mj fs) h1
 rw[h2]at this
 show 0<(((Q5 fs).getD k default).r+1).toNat
 rw[this]
 omega
section
set_option maxRecDepth 100000
set_option maxHeartbeats 4000000
def ZX(fs:List Fd)(l:List Tr):List Cl:=l.flatMap fun t=>ZM fs (Q0 fs) fs.length 0 0 0 t
structure ClOk(fs:List Fd)(l:List Tr):Prop where
 bg:BgOk fs
 wk:WkOk (mkW fs)
 ft:FtOk fs (Q0 fs)
 fit:∀t∈l,Wt fs (Q0 fs) fs.length 0 t
 few:l.length≤16
 col:∀i k,(QJ (ZX fs (l.take i)) k).length≤4000
 all:(ZX fs l).length≤1000000
abbrev cCl(F:Nat):CallT:=Qv 46 (Yh S_Fits8) (Qv 47 Nj (Qv 48 (ED (GL F)) Qz))
theorem PE[Syms](F:Nat):(cCl F).ok Try.prog:=Qp Nu (BT (Uz (GU F) Qy))
def WA(E:List Cl)(k:Nat):List AVal:=[.vs 1 ((QJ E k).map encI),.vs 1 ((W7 E k).map encI),.vs 2 ((Y5 E k).map vE2)]
abbrev UJ(L:Nat)(E:List Cl):AVal:=.vt 3 L (WA E)
def c0S(fs:List Fd)(l:List Tr)(i:Nat):St:=⟨[(0,vF fs),(1,vRs l),(6,.int .i64 i)],[],0⟩
def c1S(fs:List Fd)(l:List Tr)(i:Nat):St:=⟨[(0,vF fs),(1,vRs l),(8,.ptr 0 0 0),(9,.int .i64 i)],wkH 4 (mkW fs) (ZX fs (l.take i)),50⟩
def c2S(fs:List Fd)(l:List Tr)(i k:Nat):St:=⟨[(0,vF fs),(1,vRs l),(8,.ptr 0 0 0),(9,.int .i64 i),(10,.int .i64 k)],wkH 4 (mkW fs) (ZX fs (l.take (i+1))),50⟩
theorem E6(fs:List Fd){l:List Tr}{i:Nat}(h:i<l.length):ZX fs (l.take (i+1))=ZX fs (l.take i)++ZM fs (Q0 fs) fs.length 0 0 0 (l.getD i default):=by
 unfold ZX
 rw[List.take_add_one,List.getElem?_eq_getElem h,List.flatMap_append,List.getD_eq_getElem?_getD,List.getElem?_eq_getElem h]
 simp
theorem NP(fs:List Fd)(l:List Tr)(i:Nat):(ZX fs (l.take i)).length≤(ZX fs l).length:=by
 conv=>rhs;rw[←List.take_append_drop i l]
 unfold ZX
 rw[List.flatMap_append,List.length_append]
 omega
section
variable [Syms] {N nx c:Nat} {e:Env} {fs:List Fd} {l:List Tr} {i k:Nat}
theorem HW(hL:Qf fs≤15)(hc:Nat.ble 4 c=true)(hs:okC c=true)(h0:e.get 0=vF fs)(h1:e.get 1=vRs l)(h8:e.get 8= .ptr 0 0 0)(h9:WkV (e.get 9) (.int .i64 i)):Reb 0 N ⟨e,wkH c (mkW fs) (ZX fs (l.take i)),nx⟩ (c1S fs l i):=
 Yo (by decide) (by decide) hc hs hL (show 4+3*Qf fs≤50 by omega) (fun τ t0=>⟨by rw[h0];exact .refl _,by rw[h1];exact .refl _,by rw[h8];exact wkp t0,h9,trivial⟩) (Zh rfl)
theorem Bb{E:List Cl}(hE:ZX fs (l.take (i+1))=E)(hL:Qf fs≤15)(hc:Nat.ble 4 c=true)(hs:okC c=true)(h0:e.get 0=vF fs)(h1:e.get 1=vRs l)(h8:e.get 8= .ptr 0 0 0)(h9:WkV (e.get 9) (.int .i64 i))(h10:WkV (e.get 10) (.int .i64 k)):Reb 0 N ⟨e,wkH c (mkW fs) E,nx⟩ (c2S fs l i k):=by
 subst hE
 exact Yo (by decide) (by decide) hc hs hL (show 4+3*Qf fs≤50 by omega) (fun τ t0=>⟨by rw[h0];exact .refl _,by rw[h1];exact .refl _,by rw[h8];exact wkp t0,h9,h10,trivial⟩) (Zh rfl)
end
theorem EN{b L:Nat}{E:List Cl}{k:Nat}(h:k<L):(Xp b L E).getD (0+(k:Int).toNat) []=Wz b E k:=by
 rw[Int.toNat_natCast,Nat.zero_add,List.getD_eq_getElem?_getD,WB h];rfl
theorem Le[Syms]{b:Nat}{W:Wk}{E:List Cl}(hb:4≤b)(hL:W.L≤15)(hok:okC b=true):G1 (wkH b W E) (.slice 2 0 W.L 3 none) (UJ W.L E):=by
 refine NG (G1.slice (rows':=XW W.L (WA E)) (IV b W E) (ZY _ _ _).symm (by rw[YC,ZY]) (fun r hr=>?_) (fun r hr x hx=>?_) (fun k r r' h1 h2=>?_))
 ·obtain⟨k,_,rfl⟩:=List.mem_map.1 hr
  rfl
 ·obtain⟨k,_,rfl⟩:=List.mem_map.1 hr
  simp[WA]at hx
  rcases hx with rfl|rfl|rfl<;>rfl
 ·have hk:k<W.L:=by
   have:=(List.getElem?_eq_some_iff.1 h1).1
   rwa [ZY]at this
  rw[WB hk]at h1
  cases h1
  change ((List.range W.L).map (WA E))[k]?=some r' at h2
  rw[List.getElem?_map,List.getElem?_range hk]at h2
  cases h2
  have g0:=I2 (b:=b) W E (j:=3*k) hb (Mq hok (by omega)) (by omega)
  have g1:=I2 (b:=b) W E (j:=3*k+1) hb (Mq hok (by omega)) (by omega)
  have g2:=I2 (b:=b) W E (j:=3*k+2) hb (Mq hok (by omega)) (by omega)
  rw[Pq]at g0
  rw[Pp]at g1
  rw[Po]at g2
  exact⟨M6 (enc:=encI) X7 (fun _=>rfl) g0,M6 (enc:=encI) X7 (fun _=>rfl) g1,M6 (enc:=vE2) V6 (fun _=>rfl) g2,trivial⟩
theorem Nb[Syms]{na N nx b:Nat}{e:Env}{W:Wk}{E:List Cl}(hb:4≤b)(hL:W.L≤15)(hok:okC b=true)(h4:e.get 4= .slice 2 0 W.L 3 none)(h5:e.get 5= .int .i64 0):Reb na N ⟨e,wkH b W E,nx⟩ ⟨[(4,UJ W.L E),(5,.int .i64 0)],[],nx⟩:=by
 refine NR fun k=>?_
 by_cases k4:k=4
 ·subst k4;rw[h4];exact Le hb hL hok
 ·by_cases k5:k=5
  ·subst k5;rw[h5];exact .wk (.refl _)
  ·rw[Env.get_cons,Qd k4,cond_false,Env.get_cons,Qd k5,cond_false,Env.get_nil]
   exact .wk (.any _)
theorem Pu[Syms](fs:List Fd)(l:List Tr)(ho:ClOk fs l):
 fnT Qz (cCl fs.length) (Zc fns) (Z5 tys) (ZS plt) 100 29 [vF fs,vRs l] [] 0 (fun v H _=>v= .tup [UJ (Qf fs) (ZX fs l),.int .i64 0]∧H=[]):=by
 have hfew:=ho.few
 have hlen:=ho.bg.len
 have hll:((l.map encT).length:Int)=l.length:=by rw[List.length_map]
 repeat' first|refine And.intro ?_ ?_|(intro h;try first|exact dz|replace h:=cv)
 all_goals try exact cz
 refine⟨fun m s=>∃i:Nat,(i≤l.length∧m=l.length-i)∧s=c0S fs l i,⟨_,c0S fs l 0,Q1 [] (by exact rfl) ⟨.refl _,.refl _,Q3 (by first|rfl|omega),trivial⟩ trivial,0,⟨Nat.zero_le _,rfl⟩,rfl⟩,?_⟩
 rintro m s ⟨i,⟨hi,rfl⟩,rfl⟩
 by_cases h1:i<l.length
 ·have e7:=En l h1
  have hw:Wt fs (Q0 fs) fs.length 0 (l.getD i default):=ho.fit _ (by rw[List.getD_eq_getElem?_getD,List.getElem?_eq_getElem h1];exact List.getElem_mem h1)
  rcases hlt:l.getD i default with⟨ks',tn',ts'⟩
  rw[hlt,ZF]at e7
  rw[hlt]at hw
  have hk3:(i:Int)<((l.map encT).length:Int):=by rw[List.length_map];omega
  repeat' first|refine And.intro ?_ ?_|(intro h;try first|exact dz|replace h:=cv)
  all_goals try exact cz
  ·rw[e7];rfl
  rw[e7]
  repeat' first|refine And.intro ?_ ?_|(intro h;try first|exact dz|replace h:=cv)
  all_goals try exact cz
  refine⟨fs,.mk ks' tn' ts',(by rw[ZF];rfl),ho.bg.ok,ho.ft,ho.bg.h0,hw,?_⟩
  repeat' first|refine And.intro ?_ ?_|(intro h;try first|exact dz|replace h:=cv)
  all_goals try exact cz
  exact⟨_,c0S fs l (i+1),Q1 [] (by exact rfl) ⟨.refl _,.refl _,Q3 (by first|rfl|omega),trivial⟩ trivial,⟨i+1,⟨by omega,rfl⟩,rfl⟩,by omega⟩
 ·obtain rfl:i=l.length:=by omega
  repeat' first|refine And.intro ?_ ?_|(intro h;try first|exact dz|replace h:=cv)
  all_goals try exact cz
  refine⟨fs,rfl,rfl,rfl,ho.bg,?_⟩
  have hL:Qf fs≤15:=ho.wk.L
  have hWL:(mkW fs).L=Qf fs:=rfl
  clear h1 hi
  repeat' first|refine And.intro ?_ ?_|(intro h;try first|exact dz|replace h:=cv)
  all_goals try exact cz
  refine⟨fun m s=>∃i:Nat,(i≤l.length∧m=l.length-i)∧s=c1S fs l i,⟨_,c1S fs l 0,HW (c:=4) hL rfl rfl rfl rfl rfl (Q3 (by first|rfl|omega)),0,⟨Nat.zero_le _,rfl⟩,rfl⟩,?_⟩
  rintro m s ⟨i,⟨hi,rfl⟩,rfl⟩
  by_cases h1:i<l.length
  ·have e7:=En l h1
   have hw:Wt fs (Q0 fs) fs.length 0 (l.getD i default):=ho.fit _ (by rw[List.getD_eq_getElem?_getD,List.getElem?_eq_getElem h1];exact List.getElem_mem h1)
   have hs:=E6 fs h1
   rcases hlt:l.getD i default with⟨ks',tn',ts'⟩
   rw[hlt,ZF]at e7
   rw[hlt]at hw hs
   have hk3:(i:Int)<((l.map encT).length:Int):=by rw[List.length_map];omega
   have hle:=NP fs l (i+1)
   have hall:=ho.all
   have hEl:(ZX fs (l.take i)).length+(ZM fs (Q0 fs) fs.length 0 0 0 (.mk ks' tn' ts')).length≤1000000:=by
    rw[hs,List.length_append]at hle
    omega
   repeat' first|refine And.intro ?_ ?_|(intro h;try first|exact dz|replace h:=cv)
   all_goals try exact cz
   ·rw[e7];rfl
   rw[e7]
   repeat' first|refine And.intro ?_ ?_|(intro h;try first|exact dz|replace h:=cv)
   all_goals try exact cz
   refine⟨4,[.int .i64 ((0:Nat):Int),.int .i64 0,.int .i64 0,.agg (XZ ks' tn' ts')],mkW fs,ZX fs (l.take i),rfl,rfl,rfl,⟨by decide,by decide,hL,rfl,rfl⟩,0,0,0,.mk ks' tn' ts',(by rw[ZF]),⟨ho.wk,ho.bg.h0,(by exact Nat.sub_le _ _),hw,⟨by omega,by omega⟩,hEl⟩,?_⟩
   repeat' first|refine And.intro ?_ ?_|(intro h;try first|exact dz|replace h:=cv)
   all_goals try exact cz
   refine⟨fun m s=>∃k:Nat,(k≤Qf fs∧m=Qf fs-k)∧s=c2S fs l i k,⟨_,c2S fs l i 0,Bb (c:=102) hs hL rfl rfl rfl rfl rfl (.refl _) (Q3 (by first|rfl|omega)),0,⟨Nat.zero_le _,rfl⟩,rfl⟩,?_⟩
   rintro m s ⟨k,⟨hk,rfl⟩,rfl⟩
   by_cases h2:k<Qf fs
   ·obtain⟨rl,hrl⟩:∃rl,QJ (ZX fs (l.take (i+1))) k=rl:=⟨_,rfl⟩
    have e3:(Xp 4 (mkW fs).L (ZX fs (l.take (i+1)))).getD (0+(k:Int).toNat) []=[Z8 (4+3*k) 1 rl,Z8 (4+3*k+1) 1 (W7 (ZX fs (l.take (i+1))) k),Z8 (4+3*k+2) 2 (Y5 (ZX fs (l.take (i+1))) k)]:=(EN h2).trans (by rw[Wz,hrl])
    have hcol:=ho.col (i+1) k
    rw[hrl]at hcol
    clear hrl
    cases rl with
    |nil=>
     repeat' first|refine And.intro ?_ ?_|(intro h;try first|exact dz|replace h:=cv)
     all_goals try exact cz
     ·rw[e3];rfl
     rw[e3]
     repeat' first|refine And.intro ?_ ?_|(intro h;try first|exact dz|replace h:=cv)
     all_goals try exact cz
     exact⟨_,c2S fs l i (k+1),Bb (c:=4) rfl hL rfl rfl rfl rfl rfl (.refl _) (Q3 (by first|rfl|omega)),⟨k+1,⟨by omega,rfl⟩,rfl⟩,by omega⟩
    |cons r0 rt=>
     repeat' first|refine And.intro ?_ ?_|(intro h;try first|exact dz|replace h:=cv)
     all_goals try exact cz
     ·rw[e3];rfl
     rw[e3]
     repeat' first|refine And.intro ?_ ?_|(intro h;try first|exact dz|replace h:=cv)
     all_goals try exact cz
     exact⟨_,c2S fs l i (k+1),Bb (c:=4) rfl hL rfl rfl rfl rfl rfl (.refl _) (Q3 (by first|rfl|omega)),⟨k+1,⟨by omega,rfl⟩,rfl⟩,by omega⟩
   ·obtain rfl:k=Qf fs:=by omega
    repeat' first|refine And.intro ?_ ?_|(intro h;try first|exact dz|replace h:=cv)
    all_goals try exact cz
    exact⟨_,c1S fs l (i+1),HW (c:=4) hL rfl rfl rfl rfl rfl (Q3 (by first|rfl|omega)),⟨i+1,⟨by omega,rfl⟩,rfl⟩,by omega⟩
  ·obtain rfl:i=l.length:=by omega
   repeat' first|refine And.intro ?_ ?_|(intro h;try first|exact dz|replace h:=cv)
   all_goals try exact cz
   exact⟨⟨[(4,UJ (mkW fs).L (ZX fs (l.take l.length))),(5,.int .i64 0)],[],50⟩,Nb (b:=4) (by decide) hL rfl rfl rfl,_,rfl,by rw[List.take_length];exact⟨rfl,rfl⟩⟩
def S_cols:SpecI:=fun args K=>∃fs l,args=[vF fs,vRs l]∧ClOk fs l∧K (.tup [UJ (Qf fs) (ZX fs l),.int .i64 0])
theorem Oo[Syms]:X0 Try.prog 29 S_cols:=by
 rintro args K ⟨fs,l,rfl,ho,hk⟩
 exact⟨rfl,_,rfl,hk,QS QN QO Qn (PE _) Za (Pu fs l ho)⟩
end
def I64(x:Int):Prop:=-9223372036854775808≤x∧x≤9223372036854775807
theorem Ph{l:List Int}(h:∀a∈l,I64 a)(k:Nat):-9223372036854775808≤l.getD k 0∧l.getD k 0≤9223372036854775807:=by
 rw[List.getD_eq_getElem?_getD]
 by_cases hk:k<l.length
 ·rw[List.getElem?_eq_getElem hk];exact h _ (List.getElem_mem hk)
 ·rw[List.getElem?_eq_none (by omega)];decide
theorem Il(ns rec:List Int)(hl:rec.length≤9223372036854775807)(hr:∀a∈rec,I64 a):MkOk (Q7 ns) (Q0 (Q7 ns)) rec where
 len:=Wq ns
 par:=Qj _
 kind i h:=(GD ns i).1
 rep i h:=(GD ns i).2
 raw:=hl
 int:=Ph hr
theorem My(ns:List Int):0<Qf (Q7 ns):=by
 have hL:=Yf ns
 have h0:=(Y2 ns).pos
 have:=hL.leaf 0 (by rw[hL.pre.len];exact h0)
 rw[(Xr ns).2.2]at this
 exact Nat.lt_of_le_of_lt (Nat.zero_le _) this
theorem Ob(ns:List Int):BgOk (Q7 ns):=⟨O8 ns,(Y2 ns).pos,Wq ns,My ns⟩
theorem O6(ns:List Int):WkOk (mkW (Q7 ns)) where
 len:=Wq ns
 par:=Qj _
 lfl:=by show(lfP _ _).length=_;unfold lfP;rw[List.length_map,List.length_range];rfl
 rrl:=by show(rrP _ _).length=_;unfold rrP;rw[List.length_map,List.length_range];rfl
 L:=Nat.le_trans (Zw _ _ _) (Nat.le_trans (Wq ns) (by decide))
 lf a ha hk:=by
  have ha:a<(Q7 ns).length:=ha
  refine⟨?_,(DQ ha hk).2⟩
  show(lfP (Q7 ns) (Q7 ns).length).getD a 0=_
  rw[lfP,List.getD_eq_getElem?_getD,List.getElem?_map,List.getElem?_range ha]
  exact if_neg hk
 rr a ha:=by
  have ha:a<(Q7 ns).length:=ha
  show(rrP (Q7 ns) (Q7 ns).length).getD a 0=_
  rw[rrP,List.getD_eq_getElem?_getD,List.getElem?_map,List.getElem?_range ha]
  rfl
theorem O9(ns:List Int):FtOk (Q7 ns) (Q0 (Q7 ns)):=⟨Wq ns,Qj _,fun a ha hk=>Ej ns ha hk⟩
theorem Vg{fs:List Fd}{ls:List (List Int)}{t:Tr}(h:t∈QD fs ls):∃l∈ls,t=XP fs l:=by
 obtain⟨l,h1,rfl⟩:=List.mem_map.1 h
 exact⟨l,List.mem_of_mem_take h1,rfl⟩
theorem Nc(E:List Cl)(k:Nat):(QJ E k).length=W8 (fun i=>Nat.beq i k) E:=by
 unfold QJ ofK W8
 rw[List.length_map,List.countP_eq_length_filter]
theorem BN{fs:List Fd}{B k:Nat}:∀l:List Tr,(∀t∈l,(QJ (ZM fs (Q0 fs) fs.length 0 0 0 t) k).length≤B)→(QJ (ZX fs l) k).length≤l.length*B
 |[],_=>Nat.zero_le _
 |t::l,h=>by
  have ih:=BN l fun t' ht'=>h t' (List.mem_cons_of_mem _ ht')
  have h0:=h t (List.mem_cons_self ..)
  show(QJ (ZM fs (Q0 fs) fs.length 0 0 0 t++ZX fs l) k).length≤_
  rw[Ue,List.length_append,List.length_cons,Nat.add_mul,Nat.one_mul]
  omega
theorem BM{fs:List Fd}{B:Nat}:∀l:List Tr,(∀t∈l,(ZM fs (Q0 fs) fs.length 0 0 0 t).length≤B)→(ZX fs l).length≤l.length*B
 |[],_=>Nat.zero_le _
 |t::l,h=>by
  have ih:=BM l fun t' ht'=>h t' (List.mem_cons_of_mem _ ht')
  have h0:=h t (List.mem_cons_self ..)
  show(ZM fs (Q0 fs) fs.length 0 0 0 t++ZX fs l).length≤_
  rw[List.length_append,List.length_cons,Nat.add_mul,Nat.one_mul]
  omega
theorem KE(fs:List Fd)(ls:List (List Int)):(QD fs ls).length≤16:=by
 unfold QD;rw[List.length_map,List.length_take];omega
theorem Oa(ns:List Int)(ls:List (List Int)):ClOk (Q7 ns) (QD (Q7 ns) ls) where
 bg:=Ob ns
 wk:=O6 ns
 ft:=O9 ns
 fit t ht:=by
  obtain⟨l,_,rfl⟩:=Vg ht
  exact Io ns l
 few:=KE _ _
 col i k:=by
  have h:=BN (fs:=Q7 ns) (B:=243) (k:=k) ((QD (Q7 ns) ls).take i) fun t ht=>by
   obtain⟨l,_,rfl⟩:=Vg (List.mem_of_mem_take ht)
   rw[Nc]
   exact(K7 ns l).2 k
  have h2:((QD (Q7 ns) ls).take i).length≤16:=by have:=KE (Q7 ns) ls;rw[List.length_take];omega
  omega
 all:=by
  have h:=BM (fs:=Q7 ns) (B:=3500) (QD (Q7 ns) ls) fun t ht=>by
   obtain⟨l,_,rfl⟩:=Vg ht
   exact(K7 ns l).1
  have h2:=KE (Q7 ns) ls
  omega
structure WgOk(fs:List Fd)(ls:List (List Int)):Prop where
 cl:ClOk fs (QD fs ls)
 mkk:∀l∈ls,MkOk fs (Q0 fs) l
 link:∀t∈QD fs ls,∀T,(∀k,QK k T=0)→WI (nx1 fs) (ZM fs (Q0 fs) fs.length 0 0 0 t) T 0 (Qf fs:Nat)
 zero:∀t∈QD fs ls,∀k,k<Qf fs→ ∀T,QK k (ZM fs (Q0 fs) fs.length 0 0 0 t++T)=0
 cells:∀t∈QD fs ls,(ZM fs (Q0 fs) fs.length 0 0 0 t).length≤3500
 good:∀c∈ZX fs (QD fs ls),G4 fs c
theorem O7(ns:List Int)(ls:List (List Int))(h1:∀l∈ls,l.length≤9223372036854775807∧ ∀a∈l,I64 a):WgOk (Q7 ns) ls:=by
 refine⟨Oa ns ls,fun l hl=>Il ns l (h1 l hl).1 (h1 l hl).2,fun t ht T hT=>?_,fun t ht k hk T=>?_,fun t ht=>?_,fun c hc=>?_⟩
 ·obtain⟨l,_,rfl⟩:=Vg ht
  have:=(Kt (Yf ns) (Y2 ns).pos (Xr ns).1 (Xr ns).2.1 (Xr ns).2.2 (Ey _ _ _ _ _ (Mz (Q7 ns) l)) T hT).1
  rw[NY (My ns)]at this
  exact this
 ·obtain⟨l,_,rfl⟩:=Vg ht
  exact(Kt (Yf ns) (Y2 ns).pos (Xr ns).1 (Xr ns).2.1 (Xr ns).2.2 (Ey _ _ _ _ _ (Mz (Q7 ns) l)) [] (fun k=>rfl)).2 k hk T
 ·obtain⟨l,_,rfl⟩:=Vg ht
  exact(K7 ns l).1
 ·obtain⟨t,ht,hc⟩:=List.mem_flatMap.1 hc
  exact Je (Yf ns).pre _ 0 0 0 t (Y2 ns).pos ⟨Int.le_refl _,Va (Yf ns).pre (Y2 ns).pos⟩ c hc
theorem Gc{k:Nat}:∀{E:List Cl},(∀c∈E,c.k≠k)→QK k E=0
 |[],_=>rfl
 |c::t,h=>by
  rw[QK,if_neg (h c (List.mem_cons_self ..))]
  exact Gc fun x hx=>h x (List.mem_cons_of_mem _ hx)
theorem I8{fs:List Fd}{ls:List (List Int)}(h:WgOk fs ls):∀l:List Tr,(∀t∈l,t∈QD fs ls)→ ∀k,QK k (ZX fs l)=0
 |[],_,k=>rfl
 |t::l,hl,k=>by
  by_cases hk:k<Qf fs
  ·exact h.zero t (hl t (List.mem_cons_self ..)) k hk (ZX fs l)
  ·refine Gc fun c hc e=>hk ?_
   obtain⟨t',ht',hc⟩:=List.mem_flatMap.1 hc
   have:=h.good c (List.mem_flatMap.2 ⟨t',hl t' ht',hc⟩)
   rw[←e]
   exact this.1
end Go.Proofs.Ytcpikannlnmafaa
