/-
  The document's walk over a shape goes as the program's. Plain. What is wrong with a shape. Plain. 'name':is a text a name? The program's;a field's check. A path's names. The program's. The places of a path's fields in their groups. The program's. A leaf's value:is it one of its kind? The program's (tree.short,tree.leaf). Is a value one of a kind? The program's (tree.Fits of a schema of one leaf,query.sound).
-/
import Derived.Test.YtekipcaifckffaaGreatL3
import Derived.Test.YtekipcaifckffaaGreatL2
import Derived.Test.YtekipcaifckffaaGreatL5
import Derived.Laws.RangeAny
import Derived.Test.YtekipcaifckffaaGreatL8
set_option linter.unusedVariables false
set_option linter.unusedSimpArgs false
namespace Go.Proofs.YtekipcaifckffaaGreat
open Go Go.Av
def X2:Stk→Stk
 |[]=>[]
 |(a,k)::t=>if k=0 then X2 t else(a,k)::t
def YO(i:Nat)(f:Fd)(st:Stk):Stk:=if f.kind=0∧0<f.kids then((i:Int),f.kids)::st else st
def MD:List Fd→Nat→Stk→List (Int×Int)
 |[],_,_=>[]
 |f::fs,i,st=>(Vt (X2 st),((X2 st).length:Int))::MD fs (i+1) (YO i f (YE (X2 st)))
def K5(st:Stk):Prop:=∀p∈st,0≤p.2
theorem MZ:∀{st:Stk},K5 st→X2 st=ZG st
 |[],_=>rfl
 |(a,k)::t,h=>by
  have hk:0≤k:=h (a,k) (List.mem_cons_self ..)
  rw[X2,ZG]
  by_cases h0:k=0
  ·rw[if_pos h0,if_pos (by omega)];exact MZ fun p hp=>h p (List.mem_cons_of_mem _ hp)
  ·rw[if_neg h0,if_neg (by omega)]
theorem B9{st:Stk}{p:Int×Int}(h:p∈X2 st):p∈st:=by
 induction st with
 |nil=>simp[X2]at h
 |cons q t ih=>
  obtain⟨a,k⟩:=q
  rw[X2]at h
  split at h
  ·exact List.mem_cons_of_mem _ (ih h)
  ·exact h
theorem Hq{st:Stk}{a k:Int}{t:Stk}(hn:K5 st)(h:X2 st=(a,k)::t):0<k:=by
 induction st with
 |nil=>simp[X2]at h
 |cons q s ih=>
  obtain⟨b,l⟩:=q
  rw[X2]at h
  split at h
  ·exact ih (fun p hp=>hn p (List.mem_cons_of_mem _ hp)) h
  ·cases h
   have:=hn (a,k) (List.mem_cons_self ..)
   simp only at this;omega
theorem GG{st:Stk}(h:K5 st)(i:Nat)(f:Fd):K5 (YO i f (YE (X2 st))):=by
 have hd:K5 (YE (X2 st)):=by
  intro p hp
  cases hq:X2 st with
  |nil=>rw[hq]at hp;simp[YE]at hp
  |cons q t=>
   obtain⟨a,k⟩:=q
   rw[hq]at hp
   have hk:=Hq h hq
   simp only[YE,List.mem_cons]at hp
   rcases hp with rfl|hp
   ·simp only;omega
   ·exact h p (B9 (by rw[hq];exact List.mem_cons_of_mem _ hp))
 unfold YO
 split
 ·rename_i hc
  intro p hp
  rcases List.mem_cons.1 hp with rfl|hp
  ·simp only;omega
  ·exact hd p hp
 ·exact hd
theorem MR:∀(fs:List Fd) (i:Nat) (st rt:Stk),K5 rt→X2 rt=ZG st→MD fs i rt=Xz fs i st
 |[],_,_,_,_,_=>rfl
 |f::fs,i,st,rt,hn,he=>by
  rw[MD,Xz,he]
  congr 1
  refine MR fs (i+1) _ _ ?_ ?_
  ·rw[←he];exact GG hn i f
  ·rw[MZ (by rw[←he];exact GG hn i f)]
   unfold YO X3
   by_cases h0:f.kind=0
   ·by_cases h1:0<f.kids
    ·rw[if_pos ⟨h0,h1⟩,if_pos h0]
    ·rw[if_neg (fun h=>h1 h.2),if_pos h0]
     show _=ZG (((i:Int),f.kids)::YE (ZG st))
     rw[ZG,if_pos (by omega)]
   ·rw[if_neg (fun h=>h0 h.1),if_neg h0]
def Ww(fs:List Fd):List Int:=(Xz fs 0 []).map (·.2)
theorem Es(fs:List Fd):MD fs 0 []=Xz fs 0 []:=MR fs 0 [] [] (fun p hp=>by cases hp) rfl
def YU(c:UInt8):Bool:=decide (97≤c.toNat)&&decide (c.toNat≤122)
def DX(c:UInt8):Bool:=YU c||(decide (48≤c.toNat)&&decide (c.toNat≤57))||decide (c.toNat=95)
def L3(s:List UInt8):Bool:=decide (1≤s.length)&&decide (s.length≤12)&&YU (s.headD 0)&&s.all DX
def O7(f:Fd)(i:Nat)(par dep:Int)(nm tw:Bool):Int:=
 if 0<i∧par<0 then 1 else if 8<dep then 11 else if nm=false∨tw=true then 7
 else if f.rep<0∨2<f.rep∨f.kind<0∨4<f.kind then 3 else if i=0∧(f.rep≠0∨f.kind≠0)then 3
 else if(f.kind=0∧f.kids<1)∨(f.kind≠0∧f.kids≠0)then 1 else 0
def BN(fs:List Fd)(ps:List Int)(i:Nat)(dep:Int):Int:=
 O7 (fs.getD i default) i (ps.getD i 0) dep (L3 (fs.getD i default).name) (Iq fs ps i)
def Yt(fs:List Fd):Nat→Nat→Int
 |_,0=>0
 |i,n+1=>if BN fs (Q0 fs) i ((Ww fs).getD i 0)≠0 then BN fs (Q0 fs) i ((Ww fs).getD i 0)else Yt fs (i+1) n
def JX:List Fd→Nat→Stk→Stk
 |[],_,st=>st
 |f::fs,i,st=>JX fs (i+1) (X3 i f (YE (ZG st)))
def IR(st:Stk):Bool:=st.any fun p=>decide (0<p.2)
def CX(fs:List Fd):Int:=
 if fs.length<1∨40<fs.length then 4 else if Yt fs 0 fs.length≠0 then Yt fs 0 fs.length else if IR (JX fs 0 [])=true then 1 else 0
section
set_option maxRecDepth 100000
set_option maxHeartbeats 4000000
theorem ET{s:List UInt8}(h:s≠[]):eqb s []=false:=by
 cases s with
 |nil=>exact absurd rfl h
 |cons a l=>rfl
theorem EX{s:List UInt8}{k:Nat}(hk:k<s.length)(ha:(s.getD k 0).toNat<128):Utf8.decode ⟨⟨s⟩⟩ k=((s.getD k 0).toNat,1):=by
 have e:s.getD k 0=s[k]:=by simp[hk]
 have:=decode_ascii ⟨⟨s⟩⟩ k hk (by rw[e]at ha;exact ha)
 rw[this,e];rfl
theorem LB{s:List UInt8}{k:Nat}(hk:k<s.length)(ha:128≤(s.getD k 0).toNat):128≤(Utf8.decode ⟨⟨s⟩⟩ k).1∧1≤(Utf8.decode ⟨⟨s⟩⟩ k).2:=by
 have e:s.getD k 0=s[k]:=by simp[hk]
 exact decode_high ⟨⟨s⟩⟩ k hk (by rw[e]at ha;exact ha)
end
section
set_option maxRecDepth 100000
set_option maxHeartbeats 4000000
def encSt(s:List UInt8):List AVal:=[.str s]
theorem fSt(l:List (List UInt8)):Ql (l.map encSt):=Xo (fun a x hx=>by simp[encSt]at hx;subst hx;rfl) l
theorem gSt(l:List (List UInt8))(x:List UInt8):List.take l.length (List.drop 0 (l.map encSt))++[[.str x]]=(l++[x]).map encSt:=by
 rw[List.drop_zero,List.take_of_length_le (by simp),List.map_append];rfl
def Zy(p:List UInt8):Nat→List (List UInt8)×Nat
 |0=>([],0)
 |i+1=>if p.getD i 0=46 then((Zy p i).1++[(p.drop (Zy p i).2).take (i-(Zy p i).2)],i+1)else Zy p i
def Zl(p:List UInt8):List (List UInt8):=(Zy p p.length).1++[p.drop (Zy p p.length).2]
theorem U5(p:List UInt8):∀i,(Zy p i).2≤i∧(Zy p i).1.length≤i
 |0=>⟨Nat.le_refl _,Nat.le_refl _⟩
 |i+1=>by
  have ih:=U5 p i
  rw[Zy]
  split
  ·exact⟨Nat.le_refl _,by simp;omega⟩
  ·exact⟨by omega,by omega⟩
def GO(p:List UInt8)(i:Nat):St:=⟨[(0,.str p),(3,XU 1 1 (Zy p i).1),(4,.int .i64 (Zy p i).2),(8,.obj 0)],[(0,some (.iter p i)),(1,Xy encSt (Zy p i).1)],2⟩
theorem NJ[Syms](p:List UInt8)(hl:p.length≤1000)(hp:∀k,k<p.length→(p.getD k 0).toNat<128):
 fnT Qi Qi (QK fns) (QH tys) (QW plt) 100 88 [.str p] [] 0 (fun v H _=>v=vT 1 encSt [] (Zl p)∧H=[]):=by
 refine⟨fun m s=>∃i:Nat,(i≤p.length∧m=p.length-i)∧s=GO p i,⟨_,GO p 0,(ZB (nx':=2) (by omega)).trans (Q1 [0,1] (by exact rfl) ⟨.refl _,.refl _,.refl _,.refl _,trivial⟩ ⟨⟨by decide,_,rfl,.refl _⟩,trivial⟩),0,⟨by omega,rfl⟩,rfl⟩,?_⟩
 rintro m s ⟨i,⟨hi,rfl⟩,rfl⟩
 obtain⟨hfr,hol⟩:=U5 p i
 unfold GO
 rcases hq:Zy p i with⟨out,fr⟩
 rw[hq]at hfr hol
 dsimp only at hfr hol ⊢
 by_cases h1:i<p.length
 ·have hd:=EX h1 (hp i h1)
  have hb:=hp i h1
  have e1:(Utf8.decode ⟨⟨p⟩⟩ i).1=(p.getD i 0).toNat:=by rw[hd]
  have e2:(Utf8.decode ⟨⟨p⟩⟩ i).2=1:=by rw[hd]
  by_cases h46:p.getD i 0=46
  ·have hn:Zy p (i+1)=(out++[(p.drop fr).take (i-fr)],i+1):=by rw[Zy,if_pos h46,hq]
   have e3:((Utf8.decode ⟨⟨p⟩⟩ i).1:Int)=46:=by rw[e1,h46];rfl
   cases out with
   |nil=>
    repeat' first|refine And.intro ?_ ?_|(intro h;try first|exact dz|replace h:=cv)
    all_goals try exact cz
    refine⟨_,GO p (i+1),?_,⟨i+1,⟨by omega,rfl⟩,rfl⟩,by omega⟩
    unfold GO
    rw[hn]
    exact Q1 [0,4] (by exact rfl) ⟨.refl _,.cap _ _ _ _ _,Q8 (by first|rfl|omega),.refl _,trivial⟩ ⟨⟨by decide,_,rfl,by rw[e2];exact .refl _⟩,⟨by decide,_,rfl,Q4 (by exact rfl) (fSt _)⟩,trivial⟩
   |cons o0 ot=>
    repeat' first|refine And.intro ?_ ?_|(intro h;try first|exact dz|replace h:=cv)
    all_goals try exact cz
    refine⟨_,GO p (i+1),?_,⟨i+1,⟨by omega,rfl⟩,rfl⟩,by omega⟩
    unfold GO
    rw[hn]
    exact Q1 [0,4] (by exact rfl) ⟨.refl _,Q7 (by simp),Q8 (by first|rfl|omega),.refl _,trivial⟩ ⟨⟨by decide,_,rfl,by rw[e2];exact .refl _⟩,⟨by decide,_,rfl,Q4 (by exact gSt (o0::ot) _) (fSt _)⟩,trivial⟩
  ·have hn:Zy p (i+1)=(out,fr):=by rw[Zy,if_neg h46,hq]
   have e3:¬((Utf8.decode ⟨⟨p⟩⟩ i).1:Int)=46:=by
    rw[e1];intro h;exact h46 (UInt8.toNat_inj.1 (by show _=46;omega))
   cases out with
   |nil=>
    repeat' first|refine And.intro ?_ ?_|(intro h;try first|exact dz|replace h:=cv)
    all_goals try exact cz
    refine⟨_,GO p (i+1),?_,⟨i+1,⟨by omega,rfl⟩,rfl⟩,by omega⟩
    unfold GO
    rw[hn]
    exact Q1 [0,1] (by exact rfl) ⟨.refl _,.refl _,.refl _,.refl _,trivial⟩ ⟨⟨by decide,_,rfl,by rw[e2];exact .refl _⟩,trivial⟩
   |cons o0 ot=>
    repeat' first|refine And.intro ?_ ?_|(intro h;try first|exact dz|replace h:=cv)
    all_goals try exact cz
    refine⟨_,GO p (i+1),?_,⟨i+1,⟨by omega,rfl⟩,rfl⟩,by omega⟩
    unfold GO
    rw[hn]
    exact Q1 [0,1] (by exact rfl) ⟨.refl _,.refl _,.refl _,.refl _,trivial⟩ ⟨⟨by decide,_,rfl,by rw[e2];exact .refl _⟩,⟨by decide,_,rfl,Qp (fSt _)⟩,trivial⟩
 ·obtain rfl:i=p.length:=by omega
  have hn:Zl p=out++[p.drop fr]:=by rw[Zl,hq]
  have ht:(p.drop fr).take (p.length-fr)=p.drop fr:=List.take_of_length_le (by simp)
  cases out with
  |nil=>
   repeat' first|refine And.intro ?_ ?_|(intro h;try first|exact dz|replace h:=cv)
   all_goals try exact cz
   refine⟨⟨[(2,vT 1 encSt [] (Zl p))],[],1⟩,Reb.trans (s':=⟨[(2,.slice 0 0 (Zl p).length 1 none)],[(0,some (.cells ((Zl p).map encSt) false))],1⟩) ?_ (XJ [] rfl rfl (fSt _) (List.take_of_length_le (by simp)) (by simp)),_,rfl,rfl,rfl⟩
   rw[hn]
   exact Q1 [3] (by exact rfl) ⟨.cap _ _ _ _ _,trivial⟩ ⟨⟨by decide,_,rfl,Q4 (by exact congrArg (fun z=>[[AVal.str z]]) ht) (fSt _)⟩,trivial⟩
  |cons o0 ot=>
   repeat' first|refine And.intro ?_ ?_|(intro h;try first|exact dz|replace h:=cv)
   all_goals try exact cz
   all_goals(conv=>whnf)
   refine⟨⟨[(2,vT 1 encSt [] (Zl p))],[],1⟩,Reb.trans (s':=⟨[(2,.slice 0 0 (Zl p).length 1 none)],[(0,some (.cells ((Zl p).map encSt) false))],1⟩) ?_ (XJ [] rfl rfl (fSt _) (List.take_of_length_le (by simp)) (by simp)),_,rfl,rfl,rfl⟩
   rw[hn]
   exact Q1 [3] (by exact rfl) ⟨Q7 (by simp),trivial⟩ ⟨⟨by decide,_,rfl,Q4 (by rw[←ht];exact gSt (o0::ot) _) (fSt _)⟩,trivial⟩
def S_names:SpecI:=fun args K=>∃p:List UInt8,args=[.str p]∧(p.length≤1000∧ ∀k,k<p.length→(p.getD k 0).toNat<128)∧K (vT 1 encSt [] (Zl p))
theorem IZ[Syms]:Z5 Tryz.prog 88 S_names:=by
 rintro args K ⟨p,rfl,⟨h1,h2⟩,hk⟩
 exact⟨rfl,_,rfl,hk,fnI Qu Qs Qd Qh QJ (NJ p h1 h2)⟩
theorem UM(p:List UInt8):(Zl p).length≤p.length+1:=by
 have:=(U5 p p.length).2
 simp[Zl];omega
end
section
set_option maxRecDepth 100000
set_option maxHeartbeats 4000000
def wkF(fs:List Fd)(nm:List UInt8)(g:Nat):Nat→Nat→Nat×Nat
 |0,k=>(g,k)
 |n+1,k=>if(Q0 fs).getD (fs.length-(n+1)) 0=g then(if(fs.getD (fs.length-(n+1)) default).name=nm then(fs.length-(n+1),k)else wkF fs nm g n (k+1))else wkF fs nm g n k
def Vx(fs:List Fd):List (List UInt8)→Nat→List Int
 |[],_=>[]
 |nm::r,g=>((wkF fs nm g (fs.length-(g+1)) 0).2:Int)::Vx fs r (wkF fs nm g (fs.length-(g+1)) 0).1
def Vy(fs:List Fd)(p:List UInt8):List Int:=Vx fs (Zl p) 0
theorem G4{fs:List Fd}{nm:List UInt8}{g i k:Nat}(h:i<fs.length):wkF fs nm g (fs.length-i) k=if(Q0 fs).getD i 0=g then(if(fs.getD i default).name=nm then(i,k)else wkF fs nm g (fs.length-(i+1)) (k+1))else wkF fs nm g (fs.length-(i+1)) k:=by
 obtain⟨n,hn⟩:∃n,fs.length-i=n+1:=⟨fs.length-i-1,by omega⟩
 rw[hn,wkF,show fs.length-(n+1)=i by omega,show fs.length-(i+1)=n by omega]
theorem DK(fs:List Fd):∀(l:List (List UInt8)) (g:Nat),(Vx fs l g).length=l.length
 |[],_=>rfl
 |_::r,_=>by rw[Vx,List.length_cons,DK fs r,List.length_cons]
theorem Ef(fs:List Fd):∀(l:List (List UInt8)) (g i:Nat),0≤(Vx fs l g).getD i 0
 |[],_,i=>by simp[Vx]
 |_::r,_,0=>by rw[Vx];exact Int.natCast_nonneg _
 |_::r,_,i+1=>by rw[Vx];exact Ef fs r _ i
theorem gI(l:List Int)(x:Int):List.take l.length (List.drop 0 (l.map encI))++[[.int .i64 x]]=(l++[x]).map encI:=by
 rw[List.drop_zero,List.take_of_length_le (by simp),List.map_append];rfl
abbrev vNs(nl:List (List UInt8)):AVal:=vT 1 encSt [] nl
def wyS(fs:List Fd)(nl:List (List UInt8))(i:Nat)(out:List Int)(g:Nat):St:=⟨[(0,vF fs),(5,vI (Q0 fs)),(6,XU 0 1 out),(7,.int .i64 g),(15,vNs nl),(16,.int .i64 nl.length),(17,.int .i64 i)],[(0,Xy encI out)],1⟩
def wyI(fs:List Fd)(nl:List (List UInt8))(i:Nat)(out:List Int)(g q k:Nat):St:=⟨[(0,vF fs),(5,vI (Q0 fs)),(6,XU 0 1 out),(7,.int .i64 g),(9,.str (nl.getD i [])),(10,.int .i64 k),(11,.int .i64 q),(15,vNs nl),(16,.int .i64 nl.length),(17,.int .i64 i)],[(0,Xy encI out)],1⟩
abbrev cWy:CallT:=Qm 76 (Zd S_par) (Qm 88 (Zd S_names) Qi)
theorem PV[Syms]:cWy.ok Tryz.prog:=Q6 FX (Q6 IZ Qh)
theorem RG[Syms](fs:List Fd)(p:List UInt8)(hF:FsOk fs)(h0:0<fs.length)(hl:p.length≤1000)(hp:∀k,k<p.length→(p.getD k 0).toNat<128):
 fnT Qi cWy (QK fns) (QH tys) (QW plt) 100 50 [vF fs,.str p] [] 0 (fun v H _=>v= .vs 1 ((Vy fs p).map encI)∧H=[]):=by
 have hlen:=hF.len
 have hpl:(Q0 fs).length=fs.length:=by rw[Q0,List.length_map,Z7]
 repeat' first|refine And.intro ?_ ?_|(intro h;try first|exact dz|replace h:=cv)
 all_goals try exact cz
 refine⟨fs,rfl,hF,?_⟩
 repeat' first|refine And.intro ?_ ?_|(intro h;try first|exact dz|replace h:=cv)
 all_goals try exact cz
 refine⟨p,rfl,⟨hl,hp⟩,?_⟩
 have hnl:=UM p
 have hn0:0<(Zl p).length:=by simp[Zl]
 unfold Vy
 generalize Zl p=nl at *
 repeat' first|refine And.intro ?_ ?_|(intro h;try first|exact dz|replace h:=cv)
 all_goals try exact cz
 refine⟨fun m s=>∃(i:Nat) (out:List Int) (g:Nat),(i≤nl.length∧m=nl.length-i∧out++Vx fs (nl.drop i) g=Vx fs nl 0∧g<fs.length∧out.length=i)∧s=wyS fs nl i out g,⟨_,wyS fs nl 0 [] 0,?_,0,[],0,⟨by omega,rfl,rfl,h0,rfl⟩,rfl⟩,?_⟩
 ·exact(ZB (nx':=1) (by omega)).trans (Q1 [0] (by exact rfl) ⟨.refl _,.refl _,.refl _,.refl _,.refl _,.refl _,.refl _,trivial⟩ trivial)
 rintro m s ⟨i,out,g,⟨hi,rfl,hv,hg,hol⟩,rfl⟩
 unfold wyS
 by_cases h1:i<nl.length
 ·have hd:nl.drop i=nl.getD i []::nl.drop (i+1):=by
   rw[List.drop_eq_getElem_cons h1,List.getD_eq_getElem?_getD,List.getElem?_eq_getElem h1];rfl
  rw[hd,Vx]at hv
  cases out with
  |nil=>
   repeat' first|refine And.intro ?_ ?_|(intro h;try first|exact dz|replace h:=cv)
   all_goals try exact cz
   refine⟨fun m s=>∃(q k:Nat),(q≤fs.length∧m=fs.length-q∧k≤q∧wkF fs (nl.getD i []) g (fs.length-q) k=wkF fs (nl.getD i []) g (fs.length-(g+1)) 0)∧s=wyI fs nl i [] g q k,⟨_,wyI fs nl i [] g (g+1) 0,?_,g+1,0,⟨by omega,rfl,by omega,rfl⟩,rfl⟩,?_⟩
   ·unfold wyI
    exact Q1 [0] (by exact rfl) ⟨.refl _,.refl _,.refl _,.refl _,.refl _,Q8 (by first|rfl|omega),Q8 (by first|rfl|omega),.refl _,.refl _,.refl _,trivial⟩ trivial
   rintro m s ⟨q,k,⟨hq,rfl,hkq,hk⟩,rfl⟩
   unfold wyI
   by_cases h2:q<fs.length
   ·rw[G4 h2]at hk
    by_cases h3:(Q0 fs).getD q 0=g
    ·rw[if_pos h3]at hk
     by_cases h4:(fs.getD q default).name=nl.getD i []
     ·rw[if_pos h4]at hk
      rw[←hk]at hv
      have hx1:eqb (fs.getD q default).name (nl.getD i [])=true:=(Yi _ _).trans (decide_eq_true h4)
      repeat' first|refine And.intro ?_ ?_|(intro h;try first|exact dzh|replace h:=cvh)
      all_goals try exact cz
      refine⟨_,wyS fs nl (i+1) ([]++[((k:Nat):Int)]) q,?_,⟨i+1,_,q,⟨by omega,rfl,(by rw[List.append_assoc];exact hv),by omega,(by rw[List.length_append,hol];rfl)⟩,rfl⟩,by omega⟩
      unfold wyS
      exact Q1 [2] (by exact rfl) ⟨.refl _,.refl _,.cap _ _ _ _ _,Q8 (by first|rfl|omega),.refl _,.refl _,Q8 (by first|rfl|omega),trivial⟩ ⟨⟨by decide,_,rfl,Q4 (by exact rfl) (fI _)⟩,trivial⟩
     ·rw[if_neg h4]at hk
      have hx1:eqb (fs.getD q default).name (nl.getD i [])=false:=(Yi _ _).trans (decide_eq_false h4)
      repeat' first|refine And.intro ?_ ?_|(intro h;try first|exact dzh|replace h:=cvh)
      all_goals try exact cz
      refine⟨_,wyI fs nl i [] g (q+1) (k+1),?_,⟨q+1,k+1,⟨by omega,rfl,by omega,hk⟩,rfl⟩,by omega⟩
      unfold wyI
      exact Q1 [0] (by exact rfl) ⟨.refl _,.refl _,.refl _,.refl _,.refl _,Q8 (by first|rfl|omega),Q8 (by first|rfl|omega),.refl _,.refl _,.refl _,trivial⟩ trivial
    ·rw[if_neg h3]at hk
     repeat' first|refine And.intro ?_ ?_|(intro h;try first|exact dz|replace h:=cv)
     all_goals try exact cz
     refine⟨_,wyI fs nl i [] g (q+1) k,?_,⟨q+1,k,⟨by omega,rfl,by omega,hk⟩,rfl⟩,by omega⟩
     unfold wyI
     exact Q1 [0] (by exact rfl) ⟨.refl _,.refl _,.refl _,.refl _,.refl _,Q8 (by first|rfl|omega),Q8 (by first|rfl|omega),.refl _,.refl _,.refl _,trivial⟩ trivial
   ·rw[show fs.length-q=0 by omega,wkF]at hk
    rw[←hk]at hv
    repeat' first|refine And.intro ?_ ?_|(intro h;try first|exact dz|replace h:=cv)
    all_goals try exact cz
    refine⟨_,wyS fs nl (i+1) ([]++[((k:Nat):Int)]) g,?_,⟨i+1,_,g,⟨by omega,rfl,(by rw[List.append_assoc];exact hv),by omega,(by rw[List.length_append,hol];rfl)⟩,rfl⟩,by omega⟩
    unfold wyS
    exact Q1 [2] (by exact rfl) ⟨.refl _,.refl _,.cap _ _ _ _ _,Q8 (by first|rfl|omega),.refl _,.refl _,Q8 (by first|rfl|omega),trivial⟩ ⟨⟨by decide,_,rfl,Q4 (by exact rfl) (fI _)⟩,trivial⟩
  |cons o0 ot=>
   repeat' first|refine And.intro ?_ ?_|(intro h;try first|exact dz|replace h:=cv)
   all_goals try exact cz
   refine⟨fun m s=>∃(q k:Nat),(q≤fs.length∧m=fs.length-q∧k≤q∧wkF fs (nl.getD i []) g (fs.length-q) k=wkF fs (nl.getD i []) g (fs.length-(g+1)) 0)∧s=wyI fs nl i (o0::ot) g q k,⟨_,wyI fs nl i (o0::ot) g (g+1) 0,?_,g+1,0,⟨by omega,rfl,by omega,rfl⟩,rfl⟩,?_⟩
   ·unfold wyI
    exact Q1 [0] (by exact rfl) ⟨.refl _,.refl _,.refl _,.refl _,.refl _,Q8 (by first|rfl|omega),Q8 (by first|rfl|omega),.refl _,.refl _,.refl _,trivial⟩ ⟨⟨by decide,_,rfl,Qp (fI _)⟩,trivial⟩
   rintro m s ⟨q,k,⟨hq,rfl,hkq,hk⟩,rfl⟩
   unfold wyI
   by_cases h2:q<fs.length
   ·rw[G4 h2]at hk
    by_cases h3:(Q0 fs).getD q 0=g
    ·rw[if_pos h3]at hk
     by_cases h4:(fs.getD q default).name=nl.getD i []
     ·rw[if_pos h4]at hk
      rw[←hk]at hv
      have hx1:eqb (fs.getD q default).name (nl.getD i [])=true:=(Yi _ _).trans (decide_eq_true h4)
      repeat' first|refine And.intro ?_ ?_|(intro h;try first|exact dzh|replace h:=cvh)
      all_goals try exact cz
      refine⟨_,wyS fs nl (i+1) ((o0::ot)++[((k:Nat):Int)]) q,?_,⟨i+1,_,q,⟨by omega,rfl,(by rw[List.append_assoc];exact hv),by omega,(by rw[List.length_append,hol];rfl)⟩,rfl⟩,by omega⟩
      unfold wyS
      exact Q1 [2] (by exact rfl) ⟨.refl _,.refl _,Q7 (by simp),Q8 (by first|rfl|omega),.refl _,.refl _,Q8 (by first|rfl|omega),trivial⟩ ⟨⟨by decide,_,rfl,Q4 (by exact gI (o0::ot) _) (fI _)⟩,trivial⟩
     ·rw[if_neg h4]at hk
      have hx1:eqb (fs.getD q default).name (nl.getD i [])=false:=(Yi _ _).trans (decide_eq_false h4)
      repeat' first|refine And.intro ?_ ?_|(intro h;try first|exact dzh|replace h:=cvh)
      all_goals try exact cz
      refine⟨_,wyI fs nl i (o0::ot) g (q+1) (k+1),?_,⟨q+1,k+1,⟨by omega,rfl,by omega,hk⟩,rfl⟩,by omega⟩
      unfold wyI
      exact Q1 [0] (by exact rfl) ⟨.refl _,.refl _,.refl _,.refl _,.refl _,Q8 (by first|rfl|omega),Q8 (by first|rfl|omega),.refl _,.refl _,.refl _,trivial⟩ ⟨⟨by decide,_,rfl,Qp (fI _)⟩,trivial⟩
    ·rw[if_neg h3]at hk
     repeat' first|refine And.intro ?_ ?_|(intro h;try first|exact dz|replace h:=cv)
     all_goals try exact cz
     refine⟨_,wyI fs nl i (o0::ot) g (q+1) k,?_,⟨q+1,k,⟨by omega,rfl,by omega,hk⟩,rfl⟩,by omega⟩
     unfold wyI
     exact Q1 [0] (by exact rfl) ⟨.refl _,.refl _,.refl _,.refl _,.refl _,Q8 (by first|rfl|omega),Q8 (by first|rfl|omega),.refl _,.refl _,.refl _,trivial⟩ ⟨⟨by decide,_,rfl,Qp (fI _)⟩,trivial⟩
   ·rw[show fs.length-q=0 by omega,wkF]at hk
    rw[←hk]at hv
    repeat' first|refine And.intro ?_ ?_|(intro h;try first|exact dz|replace h:=cv)
    all_goals try exact cz
    refine⟨_,wyS fs nl (i+1) ((o0::ot)++[((k:Nat):Int)]) g,?_,⟨i+1,_,g,⟨by omega,rfl,(by rw[List.append_assoc];exact hv),by omega,(by rw[List.length_append,hol];rfl)⟩,rfl⟩,by omega⟩
    unfold wyS
    exact Q1 [2] (by exact rfl) ⟨.refl _,.refl _,Q7 (by simp),Q8 (by first|rfl|omega),.refl _,.refl _,Q8 (by first|rfl|omega),trivial⟩ ⟨⟨by decide,_,rfl,Q4 (by exact gI (o0::ot) _) (fI _)⟩,trivial⟩
 ·obtain rfl:i=nl.length:=by omega
  rw[List.drop_length,Vx,List.append_nil]at hv
  subst hv
  cases ho:Vx fs nl 0 with
  |nil=>rw[ho]at hol;exact absurd hol (by show ¬0=_;omega)
  |cons o0 ot=>
   repeat' first|refine And.intro ?_ ?_|(intro h;try first|exact dz|replace h:=cv)
   all_goals try exact cz
   refine⟨_,GC (k:=4) (n:=0) (off:=0) (len:=(o0::ot).length) (sz:=1) (cap:=none) (rows:=(o0::ot).map encI) rfl rfl (by simp) (fI _),_,rfl,?_,rfl⟩
   exact congrArg (AVal.vs 1) ((List.take_of_length_le (by simp)).trans List.drop_zero)
def S_way:SpecI:=fun args K=>∃(fs:List Fd) (p:List UInt8),args=[vF fs,.str p]∧(FsOk fs∧0<fs.length∧p.length≤1000∧ ∀k,k<p.length→(p.getD k 0).toNat<128)∧K (.vs 1 ((Vy fs p).map encI))
theorem Ik[Syms]:Z5 Tryz.prog 50 S_way:=by
 rintro args K ⟨fs,p,rfl,⟨h1,h2,h3,h4⟩,hk⟩
 exact⟨rfl,_,rfl,hk,fnI Qu Qs Qd PV QJ (RG fs p h1 h2 h3 h4)⟩
end
section
set_option maxRecDepth 100000
set_option maxHeartbeats 4000000
def shS(s:List UInt8)(i:Nat):St:=⟨[(0,.str s),(5,.obj 0)],[(0,some (.iter s i))],1⟩
theorem NY{s:List UInt8}{i:Nat}(h:i<s.length):1≤(Utf8.decode ⟨⟨s⟩⟩ i).2:=by
 by_cases hb:(s.getD i 0).toNat<128
 ·rw[EX h hb];exact Nat.le_refl _
 ·exact(LB h (by omega)).2
theorem Nr[Syms](s:List UInt8)(hs:s.length≤9223372036854775807):
 fnT Qi Qi (QK fns) (QH tys) (QW plt) 100 201 [.str s] [] 0 (fun v H _=>v= .bool (decide (s.length≤100))∧H=[]):=by
 refine⟨fun m st=>∃i:Nat,(m=s.length-i)∧st=shS s i,⟨_,shS s 0,(ZB (nx':=1) (by omega)).trans (Q1 [0] (by exact rfl) ⟨.refl _,.refl _,trivial⟩ ⟨⟨by decide,_,rfl,.refl _⟩,trivial⟩),0,rfl,rfl⟩,?_⟩
 rintro m st ⟨i,rfl,rfl⟩
 unfold shS
 by_cases h1:i<s.length
 ·have hd:=NY h1
  by_cases h2:100<i
  ·have hx:decide (s.length≤100)=false:=decide_eq_false (by omega)
   rw[hx]
   repeat' first|refine And.intro ?_ ?_|(intro h;try first|exact dz|replace h:=cv)
   all_goals try exact cz
   exact⟨_,Q5 [2] rfl,_,rfl,rfl,rfl⟩
  · repeat' first|refine And.intro ?_ ?_|(intro h;try first|exact dz|replace h:=cv)
    all_goals try exact cz
    refine⟨_,shS s (i+(Utf8.decode ⟨⟨s⟩⟩ i).2),?_,⟨_,rfl,rfl⟩,by omega⟩
    unfold shS
    exact Q1 [0] (by exact rfl) ⟨.refl _,.refl _,trivial⟩ ⟨⟨by decide,_,rfl,.refl _⟩,trivial⟩
 · repeat' first|refine And.intro ?_ ?_|(intro h;try first|exact dz|replace h:=cv)
   all_goals try exact cz
   exact⟨⟨[(2,.bool (decide ((s.length:Int)≤100)))],[],0⟩,Q5 [2] rfl,_,rfl,congrArg AVal.bool (by simp only[decide_eq_decide];omega),rfl⟩
def S_short:SpecI:=fun args K=>∃s:List UInt8,args=[.str s]∧s.length≤9223372036854775807∧K (.bool (decide (s.length≤100)))
theorem Iw[Syms]:Z5 Tryz.prog 201 S_short:=by
 rintro args K ⟨s,rfl,h,hk⟩
 exact⟨rfl,_,rfl,hk,fnI Qu Qs Qd Qh QJ (Nr s h)⟩
def ZM(kind n:Int)(s:List UInt8):Int:=
 if kind=4∧n≠0∨kind≠4∧s≠[]then 13 else if kind=3 then 0 else if kind=2 then(if n< -2147483648∨2147483647<n then 14 else 0)
 else if s.length≤100 then(if n<0∨(if kind=1 then 1 else 0)<n then 14 else 0)else 5
abbrev cLf:CallT:=Qm 201 (Zd S_short) Qi
noncomputable def SN:Nat→Nat→Pl:=Xx [(171,0)] (QW plt)
def lfS(kind n:Int)(s:List UInt8):St:=⟨[(0,.int .i64 kind),(3,.ptr 0 0 0),(4,.int .i64 0)],[(0,some (.cells [[.int .i64 n,.str s,.vs 1 []]] false))],1⟩
theorem Po[Syms](kind n:Int)(s:List UInt8)(hs:s.length≤9223372036854775807):
 fnT Qi cLf (QK fns) (QH tys) SN 100 171 [.int .i64 kind,.agg [.int .i64 n,.str s,.vs 1 []]] [] 0 (fun v H _=>v= .int .i64 (ZM kind n s)∧H=[]):=by
 refine⟨lfS kind n s,Q1 [0] (by exact rfl) ⟨.refl _,.refl _,.refl _,trivial⟩ ⟨⟨by decide,_,rfl,.refl _⟩,trivial⟩,?_⟩
 unfold lfS
 have hE:ZM kind n s=ZM kind n s:=rfl
 conv at hE=>rhs;unfold ZM
 by_cases k4:kind=4
 ·by_cases n0:n=0
  ·subst k4 n0
   rw[if_neg (by simp),if_neg (by decide),if_neg (by decide)]at hE
   by_cases hl:s.length≤100
   ·rw[if_pos hl,if_neg (by decide)]at hE
    have hx1:=decide_eq_true hl
    rw[hE]
    repeat' first|refine And.intro ?_ ?_|(intro h;try first|exact dzh|replace h:=cvh)
    all_goals try exact cz
    refine⟨s,rfl,hs,?_⟩
    rw[decide_eq_true hl]
    repeat' first|refine And.intro ?_ ?_|(intro h;try first|exact dzh|replace h:=cvh)
    all_goals try exact cz
    exact⟨_,Q5 [4] rfl,_,rfl,rfl,rfl⟩
   ·rw[if_neg hl]at hE
    have hx1:=decide_eq_false hl
    rw[hE]
    repeat' first|refine And.intro ?_ ?_|(intro h;try first|exact dzh|replace h:=cvh)
    all_goals try exact cz
    refine⟨s,rfl,hs,?_⟩
    rw[decide_eq_false hl]
    repeat' first|refine And.intro ?_ ?_|(intro h;try first|exact dzh|replace h:=cvh)
    all_goals try exact cz
    exact⟨_,Q5 [4] rfl,_,rfl,rfl,rfl⟩
  ·rw[if_pos (.inl ⟨k4,n0⟩)]at hE
   have hx1:True:=trivial
   rw[hE]
   repeat' first|refine And.intro ?_ ?_|(intro h;try first|exact dzh|replace h:=cvh)
   all_goals try exact cz
   exact⟨_,Q5 [4] rfl,_,rfl,rfl,rfl⟩
 ·by_cases s0:s=[]
  ·subst s0
   have hx1:eqb [] []=true:=rfl
   rw[if_neg (by simp[k4])]at hE
   by_cases k3:kind=3
   ·rw[if_pos k3]at hE
    rw[hE]
    repeat' first|refine And.intro ?_ ?_|(intro h;try first|exact dzh|replace h:=cvh)
    all_goals try exact cz
    exact⟨_,Q5 [4] rfl,_,rfl,rfl,rfl⟩
   ·rw[if_neg k3]at hE
    by_cases k2:kind=2
    ·rw[if_pos k2]at hE
     by_cases hn:n< -2147483648∨2147483647<n
     ·rw[if_pos hn]at hE
      by_cases ha:n< -2147483648
      ·rw[hE]
       repeat' first|refine And.intro ?_ ?_|(intro h;try first|exact dzh|replace h:=cvh)
       all_goals try exact cz
       exact⟨_,Q5 [4] rfl,_,rfl,rfl,rfl⟩
      ·have hb:2147483647<n:=hn.resolve_left ha
       rw[hE]
       repeat' first|refine And.intro ?_ ?_|(intro h;try first|exact dzh|replace h:=cvh)
       all_goals try exact cz
       exact⟨_,Q5 [4] rfl,_,rfl,rfl,rfl⟩
     ·rw[if_neg hn]at hE
      rw[hE]
      repeat' first|refine And.intro ?_ ?_|(intro h;try first|exact dzh|replace h:=cvh)
      all_goals try exact cz
      exact⟨_,Q5 [4] rfl,_,rfl,rfl,rfl⟩
    ·rw[if_neg k2,if_pos (show([]:List UInt8).length≤100 by decide)]at hE
     by_cases k1:kind=1
     ·rw[if_pos k1]at hE
      by_cases hn:n<0∨1<n
      ·rw[if_pos hn]at hE
       by_cases ha:n<0
       ·rw[hE]
        repeat' first|refine And.intro ?_ ?_|(intro h;try first|exact dzh|replace h:=cvh)
        all_goals try exact cz
        refine⟨[],rfl,hs,?_⟩
        repeat' first|refine And.intro ?_ ?_|(intro h;try first|exact dzh|replace h:=cvh)
        all_goals try exact cz
        exact⟨_,Q5 [4] rfl,_,rfl,rfl,rfl⟩
       ·have hb:1<n:=hn.resolve_left ha
        rw[hE]
        repeat' first|refine And.intro ?_ ?_|(intro h;try first|exact dzh|replace h:=cvh)
        all_goals try exact cz
        refine⟨[],rfl,hs,?_⟩
        repeat' first|refine And.intro ?_ ?_|(intro h;try first|exact dzh|replace h:=cvh)
        all_goals try exact cz
        exact⟨_,Q5 [4] rfl,_,rfl,rfl,rfl⟩
      ·rw[if_neg hn]at hE
       rw[hE]
       repeat' first|refine And.intro ?_ ?_|(intro h;try first|exact dzh|replace h:=cvh)
       all_goals try exact cz
       refine⟨[],rfl,hs,?_⟩
       repeat' first|refine And.intro ?_ ?_|(intro h;try first|exact dzh|replace h:=cvh)
       all_goals try exact cz
       exact⟨_,Q5 [4] rfl,_,rfl,rfl,rfl⟩
     ·rw[if_neg k1]at hE
      by_cases hn:n<0∨0<n
      ·rw[if_pos hn]at hE
       by_cases ha:n<0
       ·rw[hE]
        repeat' first|refine And.intro ?_ ?_|(intro h;try first|exact dzh|replace h:=cvh)
        all_goals try exact cz
        refine⟨[],rfl,hs,?_⟩
        repeat' first|refine And.intro ?_ ?_|(intro h;try first|exact dzh|replace h:=cvh)
        all_goals try exact cz
        exact⟨_,Q5 [4] rfl,_,rfl,rfl,rfl⟩
       ·have hb:0<n:=hn.resolve_left ha
        rw[hE]
        repeat' first|refine And.intro ?_ ?_|(intro h;try first|exact dzh|replace h:=cvh)
        all_goals try exact cz
        refine⟨[],rfl,hs,?_⟩
        repeat' first|refine And.intro ?_ ?_|(intro h;try first|exact dzh|replace h:=cvh)
        all_goals try exact cz
        exact⟨_,Q5 [4] rfl,_,rfl,rfl,rfl⟩
      ·rw[if_neg hn]at hE
       rw[hE]
       repeat' first|refine And.intro ?_ ?_|(intro h;try first|exact dzh|replace h:=cvh)
       all_goals try exact cz
       refine⟨[],rfl,hs,?_⟩
       repeat' first|refine And.intro ?_ ?_|(intro h;try first|exact dzh|replace h:=cvh)
       all_goals try exact cz
       exact⟨_,Q5 [4] rfl,_,rfl,rfl,rfl⟩
  ·rw[if_pos (.inr ⟨k4,s0⟩)]at hE
   have hx1:=ET s0
   rw[hE]
   repeat' first|refine And.intro ?_ ?_|(intro h;try first|exact dzh|replace h:=cvh)
   all_goals try exact cz
   exact⟨_,Q5 [4] rfl,_,rfl,rfl,rfl⟩
def S_leaf8:SpecI:=fun args K=>∃(kind n:Int) (s:List UInt8),args=[.int .i64 kind,.agg [.int .i64 n,.str s,.vs 1 []]]∧s.length≤9223372036854775807∧K (.int .i64 (ZM kind n s))
theorem Bp[Syms]:Z5 Tryz.prog 171 S_leaf8:=by
 rintro args K ⟨kind,n,s,rfl,h,hk⟩
 exact⟨rfl,_,rfl,hk,fnI Qu Qs Qd (Q6 Iw Qh) QJ (Po kind n s h)⟩
end
section
set_option maxRecDepth 100000
set_option maxHeartbeats 4000000
def sq(k:Int):List Fd:=[⟨[109],0,0,1⟩,⟨[118],0,k,0⟩]
abbrev sqR(k:Int):List (List AVal):=[[.str [109],.int .i64 0,.int .i64 0,.int .i64 1],[.str [118],.int .i64 0,.int .i64 k,.int .i64 0]]
abbrev vSq(k:Int):AVal:=.vs 4 (sqR k)
theorem RO(k:Int):SeeV (vSq k) (vF (sq k)):=.tab _ _ _ _ (Qj encF default (sq k)).symm
theorem P1(k:Int):Q0 (sq k)=[-1,0]:=rfl
theorem RN(k:Int):FsOk (sq k) where
 len:=by show 2<1000;decide
 kids i:=by
  rcases i with _|_|i
  ·show(1:Int)≤_;decide
  ·show(0:Int)≤_;decide
  ·show(0:Int)≤_;decide
 name i:=by
  rcases i with _|_|i
  ·show 1≤_;decide
  ·show 1≤_;decide
  ·show 0≤_;decide
abbrev cFt:CallT:=Qm 76 (Zd (MC S_par)) Qi
theorem Rf[Syms]:cFt.ok Tryz.prog:=Q6 FX.see Qh
def ftS(k:Int)(i:Int)(c:AVal)(rest:Heap)(n:Nat):St:=⟨[(3,.ptr 0 0 0),(13,vI [-1,0]),(14,.int .i64 2),(15,.int .i64 i)],(0,some (.cells [[vSq k,.slice 2 0 2 1 none]] false))::(2,some (.cells [[c],[.nils]] false))::rest,n⟩
theorem PL[Syms](k:Int):
 fnT Qi cFt (QK fns) (QH tys) (QW plt) 100 132 [vSq k] [] 0 (fun v H _=>v= .vp [vSq k,.vs 1 [[.vs 1 [[.int .i64 1]]],[.nils]]] 0∧H=[]):=by
 repeat' first|refine And.intro ?_ ?_|(intro h;try first|exact dz|replace h:=cv)
 all_goals try exact cz
 ·show(2:Int)*24≤281474976710656;decide
 ·show(2:Int)≤281474976710656;decide
 refine⟨[vF (sq k)],⟨RO k,trivial⟩,sq k,rfl,RN k,?_⟩
 rw[P1]
 repeat' first|refine And.intro ?_ ?_|(intro h;try first|exact dz|replace h:=cv)
 all_goals try exact cz
 refine⟨fun m s=>(m=2∧s=ftS k 0 .nils [] 3)∨(m=1∧s=ftS k 1 .nils [] 3)∨(m=0∧s=ftS k 2 (.slice 3 0 1 1 none) [(3,some (.cells [[.int .i64 1]] false))] 4),⟨_,ftS k 0 .nils [] 3,?_,.inl ⟨rfl,rfl⟩⟩,?_⟩
 ·exact(ZB (nx':=5) (by omega)).trans (Q1 [1,2,0] (by exact rfl) ⟨.refl _,.refl _,.refl _,.refl _,trivial⟩ ⟨⟨by decide,_,rfl,ZU (row:=[vSq k,.slice 2 0 2 1 none]) ⟨.refl _,.cap _ _ _ _ _,trivial⟩⟩,⟨by decide,_,rfl,.refl _⟩,trivial⟩)
 have hx1:([-1,0]:List Int).getD 0 0= -1:=rfl
 have hx2:([-1,0]:List Int).getD 1 0=0:=rfl
 have hx3:(2:Int)=2:=rfl
 have hx4:(2:Int)=2:=rfl
 rintro m s (⟨rfl,rfl⟩|⟨rfl,rfl⟩|⟨rfl,rfl⟩)
 ·unfold ftS
  repeat' first|refine And.intro ?_ ?_|(intro h;try first|exact dzi|replace h:=cvi)
  all_goals try exact cz
  ·show(0:Int)<2;decide
  ·refine⟨_,ftS k 1 .nils [] 3,?_,.inr (.inl ⟨rfl,rfl⟩),by omega⟩
   exact Q1 [0,1,2] (by exact rfl) ⟨.refl _,.refl _,.refl _,.refl _,trivial⟩ ⟨⟨by decide,_,rfl,.refl _⟩,⟨by decide,_,rfl,.refl _⟩,trivial⟩
 ·unfold ftS
  repeat' first|refine And.intro ?_ ?_|(intro h;try first|exact dzi|replace h:=cvi)
  all_goals try exact cz
  ·show(1:Int)<2;decide
  all_goals(try(show(0:Int)<2;decide))
  ·refine⟨_,ftS k 2 (.slice 3 0 1 1 none) [(3,some (.cells [[.int .i64 1]] false))] 4,?_,.inr (.inr ⟨rfl,rfl⟩),by omega⟩
   exact Q1 [0,1,2,60129542147] (by exact rfl) ⟨.refl _,.refl _,.refl _,.refl _,trivial⟩ ⟨⟨by decide,_,rfl,.refl _⟩,⟨by decide,.cells [[.slice 60129542147 0 1 1 none],[.nils]] false,rfl,.refl _⟩,⟨by decide,_,rfl,.refl _⟩,trivial⟩
  ·exact absurd (show(0:Int)<0 from h) (by decide)
 ·unfold ftS
  repeat' first|refine And.intro ?_ ?_|(intro h;try first|exact dzi|replace h:=cvi)
  all_goals try exact cz
  refine⟨⟨[(2,.vp [vSq k,.vs 1 [[.vs 1 [[.int .i64 1]]],[.nils]]] 0)],[],4⟩,?_,_,rfl,rfl,rfl⟩
  refine Reb.trans (s':=⟨[(2,.ptr 0 0 0)],[(0,some (.cells [[vSq k,.slice 2 0 2 1 none]] false)),(2,some (.cells [[.slice 3 0 1 1 none],[.nils]] false)),(3,some (.cells [[.int .i64 1]] false))],4⟩) (Q1 [0,1,2,3] (by exact rfl) ⟨.refl _,trivial⟩ ⟨⟨by decide,_,rfl,.refl _⟩,⟨by decide,_,rfl,.refl _⟩,⟨by decide,_,rfl,.refl _⟩,trivial⟩) ?_
  refine Reb.trans (s':=⟨[(2,.ptr 0 0 0)],[(0,some (.cells [[vSq k,.slice 2 0 2 1 none]] false)),(2,some (.cells [[.vs 1 [[.int .i64 1]]],[.nils]] false))],4⟩) (QV (n:=3) (rows:=[[.int .i64 1]]) rfl (fun q hq y hy=>by simp at hq;subst hq;simp at hy;subst hy;rfl) ⟨.same _,trivial⟩ ⟨⟨by decide,_,rfl,.same _⟩,⟨by decide,_,rfl,.cells _ _ _ rfl fun k r r' h1 h2=>?_⟩,trivial⟩) ?_
  ·rcases k with _|_|k
   ·cases h1;cases h2
    exact⟨.sl (n:=3) (rows:=[[.int .i64 1]]) 0 1 1 none (by decide) (by decide),trivial⟩
   ·cases h1;cases h2
    exact⟨.same _,trivial⟩
   ·cases h1
  refine Reb.trans (s':=⟨[(2,.ptr 0 0 0)],[(0,some (.cells [[vSq k,.vs 1 [[.vs 1 [[.int .i64 1]]],[.nils]]]] false))],4⟩) (QV (n:=2) (rows:=[[.vs 1 [[.int .i64 1]]],[.nils]]) rfl (fun q hq y hy=>by simp at hq;rcases hq with rfl|rfl<;>(simp at hy;subst hy;rfl)) ⟨.same _,trivial⟩ ⟨⟨by decide,_,rfl,.cells _ _ _ rfl fun k r r' h1 h2=>?_⟩,trivial⟩) ?_
  ·rcases k with _|k
   ·cases h1;cases h2
    exact⟨.same _,.sl (n:=2) (rows:=[[.vs 1 [[.int .i64 1]]],[.nils]]) 0 2 1 none (by decide) (by decide),trivial⟩
   ·cases h1
  exact QV (n:=0) (rows:=[[vSq k,.vs 1 [[.vs 1 [[.int .i64 1]]],[.nils]]]]) rfl (fun q hq y hy=>by simp at hq;subst hq;simp at hy;rcases hy with rfl|rfl<;>rfl) ⟨.pt 0 0 _ [vSq k,.vs 1 [[.vs 1 [[.int .i64 1]]],[.nils]]] rfl ⟨.same _,.same _,trivial⟩,trivial⟩ trivial
def S_fits1:SpecI:=fun args K=>∃k:Int,args=[vSq k]∧K (.vp [vSq k,.vs 1 [[.vs 1 [[.int .i64 1]]],[.nils]]] 0)
theorem Bz[Syms]:Z5 Tryz.prog 132 S_fits1:=by
 rintro args K ⟨k,rfl,hk⟩
 exact⟨rfl,_,rfl,hk,fnI Qu Qs Qd Rf QJ (PL k)⟩
end
end Go.Proofs.YtekipcaifckffaaGreat
