/-
  The places of a path's fields in their groups. The program's. A leaf's value:is it one of its kind? The program's (tree.short,tree.leaf). Is a value one of a kind? The program's (tree.Fits of a schema of one leaf,query.sound). Is a value one of a kind? The program's (tree.Fits,query.sound). The order of values. The program's. A record's leaf,by its way. The program's. What is asked,looked at. The program's (query.asks). A value of a kind,of a raw one. The statements' (chapter 11). The document's walk over a shape:of each field its group,and its depth. The document's 'walk':what is asked of it,and what it answers. The document's 'Parents':it answers as the program's. The document's 'Path':it answers as the program's.
-/
import Derived.Test.YtekipcaifckffaaGreatL3
import Derived.Test.YtekipcaifckffaaGreatL2
import Derived.Test.YtekipcaifckffaaGreatSxOne
set_option linter.unusedVariables false
set_option linter.unusedSimpArgs false
namespace Go.Proofs.YtekipcaifckffaaGreat
open Go Go.Av
section
set_option maxRecDepth 100000
set_option maxHeartbeats 4000000
def wkF(fs:List Fd)(nm:List UInt8)(g:Nat):Nat→Nat→Nat×Nat
 |0,k=>(g,k)
 |n+1,k=>if(Q6 fs).getD (fs.length-(n+1)) 0=g then(if(fs.getD (fs.length-(n+1)) default).name=nm then(fs.length-(n+1),k)else wkF fs nm g n (k+1))else wkF fs nm g n k
def Kf(fs:List Fd):List (List UInt8)→Nat→List Int
 |[],_=>[]
 |nm::r,g=>((wkF fs nm g (fs.length-(g+1)) 0).2:Int)::Kf fs r (wkF fs nm g (fs.length-(g+1)) 0).1
def UB(fs:List Fd)(p:List UInt8):List Int:=Kf fs (ZR p) 0
theorem C1{fs:List Fd}{nm:List UInt8}{g i k:Nat}(h:i<fs.length):wkF fs nm g (fs.length-i) k=if(Q6 fs).getD i 0=g then(if(fs.getD i default).name=nm then(i,k)else wkF fs nm g (fs.length-(i+1)) (k+1))else wkF fs nm g (fs.length-(i+1)) k:=by
 obtain⟨n,hn⟩:∃n,fs.length-i=n+1:=⟨fs.length-i-1,by omega⟩
 rw[hn,wkF,show fs.length-(n+1)=i by omega,show fs.length-(i+1)=n by omega]
theorem FQ(fs:List Fd):∀(l:List (List UInt8)) (g:Nat),(Kf fs l g).length=l.length
 |[],_=>rfl
 |_::r,_=>by rw[Kf,List.length_cons,FQ fs r,List.length_cons]
theorem C3(fs:List Fd):∀(l:List (List UInt8)) (g i:Nat),0≤(Kf fs l g).getD i 0
 |[],_,i=>by simp[Kf]
 |_::r,_,0=>by rw[Kf];exact Int.natCast_nonneg _
 |_::r,_,i+1=>by rw[Kf];exact C3 fs r _ i
theorem gI(l:List Int)(x:Int):List.take l.length (List.drop 0 (l.map encI))++[[.int .i64 x]]=(l++[x]).map encI:=by
 rw[List.drop_zero,List.take_of_length_le (by simp),List.map_append];rfl
abbrev vNs(nl:List (List UInt8)):AVal:=vT 1 encSt [] nl
def wyS(fs:List Fd)(nl:List (List UInt8))(i:Nat)(out:List Int)(g:Nat):St:=⟨[(0,vF fs),(5,vI (Q6 fs)),(6,XR 0 1 out),(7,.int .i64 g),(15,vNs nl),(16,.int .i64 nl.length),(17,.int .i64 i)],[(0,Xn encI out)],1⟩
def wyI(fs:List Fd)(nl:List (List UInt8))(i:Nat)(out:List Int)(g q k:Nat):St:=⟨[(0,vF fs),(5,vI (Q6 fs)),(6,XR 0 1 out),(7,.int .i64 g),(9,.str (nl.getD i [])),(10,.int .i64 k),(11,.int .i64 q),(15,vNs nl),(16,.int .i64 nl.length),(17,.int .i64 i)],[(0,Xn encI out)],1⟩
abbrev cWy:CallT:=Qu 76 (ZJ S_par) (Qu 88 (ZJ S_names) Ql)
theorem Nr[Syms]:cWy.ok Tryz.prog:=Q8 MZ (Q8 He Qk)
theorem O5[Syms](fs:List Fd)(p:List UInt8)(hF:FsOk fs)(h0:0<fs.length)(hl:p.length≤1000)(hp:∀k,k<p.length→(p.getD k 0).toNat<128):
 fnT Ql cWy (QW fns) (QP tys) (Z1 plt) 100 50 [vF fs,.str p] [] 0 (fun v H _=>v= .vs 1 ((UB fs p).map encI)∧H=[]):=by
 have hlen:=hF.len
 have hpl:(Q6 fs).length=fs.length:=by rw[Q6,List.length_map,W3]
 repeat' first|refine And.intro ?_ ?_|(intro h;try first|exact dz|replace h:=cv)
 all_goals try exact cz
 refine⟨fs,rfl,hF,?_⟩
 repeat' first|refine And.intro ?_ ?_|(intro h;try first|exact dz|replace h:=cv)
 all_goals try exact cz
 refine⟨p,rfl,⟨hl,hp⟩,?_⟩
 have hnl:=G6 p
 have hn0:0<(ZR p).length:=by simp[ZR]
 unfold UB
 generalize ZR p=nl at *
 repeat' first|refine And.intro ?_ ?_|(intro h;try first|exact dz|replace h:=cv)
 all_goals try exact cz
 refine⟨fun m s=>∃(i:Nat) (out:List Int) (g:Nat),(i≤nl.length∧m=nl.length-i∧out++Kf fs (nl.drop i) g=Kf fs nl 0∧g<fs.length∧out.length=i)∧s=wyS fs nl i out g,⟨_,wyS fs nl 0 [] 0,?_,0,[],0,⟨by omega,rfl,rfl,h0,rfl⟩,rfl⟩,?_⟩
 ·exact(Yh (nx':=1) (by omega)).trans (Q0 [0] (by exact rfl) ⟨.refl _,.refl _,.refl _,.refl _,.refl _,.refl _,.refl _,trivial⟩ trivial)
 rintro m s ⟨i,out,g,⟨hi,rfl,hv,hg,hol⟩,rfl⟩
 unfold wyS
 by_cases h1:i<nl.length
 ·have hd:nl.drop i=nl.getD i []::nl.drop (i+1):=by
   rw[List.drop_eq_getElem_cons h1,List.getD_eq_getElem?_getD,List.getElem?_eq_getElem h1];rfl
  rw[hd,Kf]at hv
  cases out with
  |nil=>
   repeat' first|refine And.intro ?_ ?_|(intro h;try first|exact dz|replace h:=cv)
   all_goals try exact cz
   refine⟨fun m s=>∃(q k:Nat),(q≤fs.length∧m=fs.length-q∧k≤q∧wkF fs (nl.getD i []) g (fs.length-q) k=wkF fs (nl.getD i []) g (fs.length-(g+1)) 0)∧s=wyI fs nl i [] g q k,⟨_,wyI fs nl i [] g (g+1) 0,?_,g+1,0,⟨by omega,rfl,by omega,rfl⟩,rfl⟩,?_⟩
   ·unfold wyI
    exact Q0 [0] (by exact rfl) ⟨.refl _,.refl _,.refl _,.refl _,.refl _,Qa (by first|rfl|omega),Qa (by first|rfl|omega),.refl _,.refl _,.refl _,trivial⟩ trivial
   rintro m s ⟨q,k,⟨hq,rfl,hkq,hk⟩,rfl⟩
   unfold wyI
   by_cases h2:q<fs.length
   ·rw[C1 h2]at hk
    by_cases h3:(Q6 fs).getD q 0=g
    ·rw[if_pos h3]at hk
     by_cases h4:(fs.getD q default).name=nl.getD i []
     ·rw[if_pos h4]at hk
      rw[←hk]at hv
      have hx1:eqb (fs.getD q default).name (nl.getD i [])=true:=(Wh _ _).trans (decide_eq_true h4)
      repeat' first|refine And.intro ?_ ?_|(intro h;try first|exact dzh|replace h:=cvh)
      all_goals try exact cz
      refine⟨_,wyS fs nl (i+1) ([]++[((k:Nat):Int)]) q,?_,⟨i+1,_,q,⟨by omega,rfl,(by rw[List.append_assoc];exact hv),by omega,(by rw[List.length_append,hol];rfl)⟩,rfl⟩,by omega⟩
      unfold wyS
      exact Q0 [2] (by exact rfl) ⟨.refl _,.refl _,.cap _ _ _ _ _,Qa (by first|rfl|omega),.refl _,.refl _,Qa (by first|rfl|omega),trivial⟩ ⟨⟨by decide,_,rfl,Q1 (by exact rfl) (fI _)⟩,trivial⟩
     ·rw[if_neg h4]at hk
      have hx1:eqb (fs.getD q default).name (nl.getD i [])=false:=(Wh _ _).trans (decide_eq_false h4)
      repeat' first|refine And.intro ?_ ?_|(intro h;try first|exact dzh|replace h:=cvh)
      all_goals try exact cz
      refine⟨_,wyI fs nl i [] g (q+1) (k+1),?_,⟨q+1,k+1,⟨by omega,rfl,by omega,hk⟩,rfl⟩,by omega⟩
      unfold wyI
      exact Q0 [0] (by exact rfl) ⟨.refl _,.refl _,.refl _,.refl _,.refl _,Qa (by first|rfl|omega),Qa (by first|rfl|omega),.refl _,.refl _,.refl _,trivial⟩ trivial
    ·rw[if_neg h3]at hk
     repeat' first|refine And.intro ?_ ?_|(intro h;try first|exact dz|replace h:=cv)
     all_goals try exact cz
     refine⟨_,wyI fs nl i [] g (q+1) k,?_,⟨q+1,k,⟨by omega,rfl,by omega,hk⟩,rfl⟩,by omega⟩
     unfold wyI
     exact Q0 [0] (by exact rfl) ⟨.refl _,.refl _,.refl _,.refl _,.refl _,Qa (by first|rfl|omega),Qa (by first|rfl|omega),.refl _,.refl _,.refl _,trivial⟩ trivial
   ·rw[show fs.length-q=0 by omega,wkF]at hk
    rw[←hk]at hv
    repeat' first|refine And.intro ?_ ?_|(intro h;try first|exact dz|replace h:=cv)
    all_goals try exact cz
    refine⟨_,wyS fs nl (i+1) ([]++[((k:Nat):Int)]) g,?_,⟨i+1,_,g,⟨by omega,rfl,(by rw[List.append_assoc];exact hv),by omega,(by rw[List.length_append,hol];rfl)⟩,rfl⟩,by omega⟩
    unfold wyS
    exact Q0 [2] (by exact rfl) ⟨.refl _,.refl _,.cap _ _ _ _ _,Qa (by first|rfl|omega),.refl _,.refl _,Qa (by first|rfl|omega),trivial⟩ ⟨⟨by decide,_,rfl,Q1 (by exact rfl) (fI _)⟩,trivial⟩
  |cons o0 ot=>
   repeat' first|refine And.intro ?_ ?_|(intro h;try first|exact dz|replace h:=cv)
   all_goals try exact cz
   refine⟨fun m s=>∃(q k:Nat),(q≤fs.length∧m=fs.length-q∧k≤q∧wkF fs (nl.getD i []) g (fs.length-q) k=wkF fs (nl.getD i []) g (fs.length-(g+1)) 0)∧s=wyI fs nl i (o0::ot) g q k,⟨_,wyI fs nl i (o0::ot) g (g+1) 0,?_,g+1,0,⟨by omega,rfl,by omega,rfl⟩,rfl⟩,?_⟩
   ·unfold wyI
    exact Q0 [0] (by exact rfl) ⟨.refl _,.refl _,.refl _,.refl _,.refl _,Qa (by first|rfl|omega),Qa (by first|rfl|omega),.refl _,.refl _,.refl _,trivial⟩ ⟨⟨by decide,_,rfl,Qo (fI _)⟩,trivial⟩
   rintro m s ⟨q,k,⟨hq,rfl,hkq,hk⟩,rfl⟩
   unfold wyI
   by_cases h2:q<fs.length
   ·rw[C1 h2]at hk
    by_cases h3:(Q6 fs).getD q 0=g
    ·rw[if_pos h3]at hk
     by_cases h4:(fs.getD q default).name=nl.getD i []
     ·rw[if_pos h4]at hk
      rw[←hk]at hv
      have hx1:eqb (fs.getD q default).name (nl.getD i [])=true:=(Wh _ _).trans (decide_eq_true h4)
      repeat' first|refine And.intro ?_ ?_|(intro h;try first|exact dzh|replace h:=cvh)
      all_goals try exact cz
      refine⟨_,wyS fs nl (i+1) ((o0::ot)++[((k:Nat):Int)]) q,?_,⟨i+1,_,q,⟨by omega,rfl,(by rw[List.append_assoc];exact hv),by omega,(by rw[List.length_append,hol];rfl)⟩,rfl⟩,by omega⟩
      unfold wyS
      exact Q0 [2] (by exact rfl) ⟨.refl _,.refl _,Q3 (by simp),Qa (by first|rfl|omega),.refl _,.refl _,Qa (by first|rfl|omega),trivial⟩ ⟨⟨by decide,_,rfl,Q1 (by exact gI (o0::ot) _) (fI _)⟩,trivial⟩
     ·rw[if_neg h4]at hk
      have hx1:eqb (fs.getD q default).name (nl.getD i [])=false:=(Wh _ _).trans (decide_eq_false h4)
      repeat' first|refine And.intro ?_ ?_|(intro h;try first|exact dzh|replace h:=cvh)
      all_goals try exact cz
      refine⟨_,wyI fs nl i (o0::ot) g (q+1) (k+1),?_,⟨q+1,k+1,⟨by omega,rfl,by omega,hk⟩,rfl⟩,by omega⟩
      unfold wyI
      exact Q0 [0] (by exact rfl) ⟨.refl _,.refl _,.refl _,.refl _,.refl _,Qa (by first|rfl|omega),Qa (by first|rfl|omega),.refl _,.refl _,.refl _,trivial⟩ ⟨⟨by decide,_,rfl,Qo (fI _)⟩,trivial⟩
    ·rw[if_neg h3]at hk
     repeat' first|refine And.intro ?_ ?_|(intro h;try first|exact dz|replace h:=cv)
     all_goals try exact cz
     refine⟨_,wyI fs nl i (o0::ot) g (q+1) k,?_,⟨q+1,k,⟨by omega,rfl,by omega,hk⟩,rfl⟩,by omega⟩
     unfold wyI
     exact Q0 [0] (by exact rfl) ⟨.refl _,.refl _,.refl _,.refl _,.refl _,Qa (by first|rfl|omega),Qa (by first|rfl|omega),.refl _,.refl _,.refl _,trivial⟩ ⟨⟨by decide,_,rfl,Qo (fI _)⟩,trivial⟩
   ·rw[show fs.length-q=0 by omega,wkF]at hk
    rw[←hk]at hv
    repeat' first|refine And.intro ?_ ?_|(intro h;try first|exact dz|replace h:=cv)
    all_goals try exact cz
    refine⟨_,wyS fs nl (i+1) ((o0::ot)++[((k:Nat):Int)]) g,?_,⟨i+1,_,g,⟨by omega,rfl,(by rw[List.append_assoc];exact hv),by omega,(by rw[List.length_append,hol];rfl)⟩,rfl⟩,by omega⟩
    unfold wyS
    exact Q0 [2] (by exact rfl) ⟨.refl _,.refl _,Q3 (by simp),Qa (by first|rfl|omega),.refl _,.refl _,Qa (by first|rfl|omega),trivial⟩ ⟨⟨by decide,_,rfl,Q1 (by exact gI (o0::ot) _) (fI _)⟩,trivial⟩
 ·obtain rfl:i=nl.length:=by omega
  rw[List.drop_length,Kf,List.append_nil]at hv
  subst hv
  cases ho:Kf fs nl 0 with
  |nil=>rw[ho]at hol;exact absurd hol (by show ¬0=_;omega)
  |cons o0 ot=>
   repeat' first|refine And.intro ?_ ?_|(intro h;try first|exact dz|replace h:=cv)
   all_goals try exact cz
   refine⟨_,JW (k:=4) (n:=0) (off:=0) (len:=(o0::ot).length) (sz:=1) (cap:=none) (rows:=(o0::ot).map encI) rfl rfl (by simp) (fI _),_,rfl,?_,rfl⟩
   exact congrArg (AVal.vs 1) ((List.take_of_length_le (by simp)).trans List.drop_zero)
def S_way:SpecI:=fun args K=>∃(fs:List Fd) (p:List UInt8),args=[vF fs,.str p]∧(FsOk fs∧0<fs.length∧p.length≤1000∧ ∀k,k<p.length→(p.getD k 0).toNat<128)∧K (.vs 1 ((UB fs p).map encI))
theorem EJ[Syms]:Z8 Tryz.prog 50 S_way:=by
 rintro args K ⟨fs,p,rfl,⟨h1,h2,h3,h4⟩,hk⟩
 exact⟨rfl,_,rfl,hk,fnI QC Qz Qe Nr QV (O5 fs p h1 h2 h3 h4)⟩
end
section
set_option maxRecDepth 100000
set_option maxHeartbeats 4000000
def shS(s:List UInt8)(i:Nat):St:=⟨[(0,.str s),(5,.obj 0)],[(0,some (.iter s i))],1⟩
theorem IW{s:List UInt8}{i:Nat}(h:i<s.length):1≤(Utf8.decode ⟨⟨s⟩⟩ i).2:=by
 by_cases hb:(s.getD i 0).toNat<128
 ·rw[CH h hb];exact Nat.le_refl _
 ·exact(HK h (by omega)).2
theorem Iq[Syms](s:List UInt8)(hs:s.length≤9223372036854775807):
 fnT Ql Ql (QW fns) (QP tys) (Z1 plt) 100 201 [.str s] [] 0 (fun v H _=>v= .bool (decide (s.length≤100))∧H=[]):=by
 refine⟨fun m st=>∃i:Nat,(m=s.length-i)∧st=shS s i,⟨_,shS s 0,(Yh (nx':=1) (by omega)).trans (Q0 [0] (by exact rfl) ⟨.refl _,.refl _,trivial⟩ ⟨⟨by decide,_,rfl,.refl _⟩,trivial⟩),0,rfl,rfl⟩,?_⟩
 rintro m st ⟨i,rfl,rfl⟩
 unfold shS
 by_cases h1:i<s.length
 ·have hd:=IW h1
  by_cases h2:100<i
  ·have hx:decide (s.length≤100)=false:=decide_eq_false (by omega)
   rw[hx]
   repeat' first|refine And.intro ?_ ?_|(intro h;try first|exact dz|replace h:=cv)
   all_goals try exact cz
   exact⟨_,Q9 [2] rfl,_,rfl,rfl,rfl⟩
  · repeat' first|refine And.intro ?_ ?_|(intro h;try first|exact dz|replace h:=cv)
    all_goals try exact cz
    refine⟨_,shS s (i+(Utf8.decode ⟨⟨s⟩⟩ i).2),?_,⟨_,rfl,rfl⟩,by omega⟩
    unfold shS
    exact Q0 [0] (by exact rfl) ⟨.refl _,.refl _,trivial⟩ ⟨⟨by decide,_,rfl,.refl _⟩,trivial⟩
 · repeat' first|refine And.intro ?_ ?_|(intro h;try first|exact dz|replace h:=cv)
   all_goals try exact cz
   exact⟨⟨[(2,.bool (decide ((s.length:Int)≤100)))],[],0⟩,Q9 [2] rfl,_,rfl,congrArg AVal.bool (by simp only[decide_eq_decide];omega),rfl⟩
def S_short:SpecI:=fun args K=>∃s:List UInt8,args=[.str s]∧s.length≤9223372036854775807∧K (.bool (decide (s.length≤100)))
theorem ER[Syms]:Z8 Tryz.prog 201 S_short:=by
 rintro args K ⟨s,rfl,h,hk⟩
 exact⟨rfl,_,rfl,hk,fnI QC Qz Qe Qk QV (Iq s h)⟩
def ZC(kind n:Int)(s:List UInt8):Int:=
 if kind=4∧n≠0∨kind≠4∧s≠[]then 13 else if kind=3 then 0 else if kind=2 then(if n< -2147483648∨2147483647<n then 14 else 0)
 else if s.length≤100 then(if n<0∨(if kind=1 then 1 else 0)<n then 14 else 0)else 5
abbrev cLf:CallT:=Qu 201 (ZJ S_short) Ql
noncomputable def OZ:Nat→Nat→Pl:=YK [(171,0)] (Z1 plt)
def lfS(kind n:Int)(s:List UInt8):St:=⟨[(0,.int .i64 kind),(3,.ptr 0 0 0),(4,.int .i64 0)],[(0,some (.cells [[.int .i64 n,.str s,.vs 1 []]] false))],1⟩
theorem LY[Syms](kind n:Int)(s:List UInt8)(hs:s.length≤9223372036854775807):
 fnT Ql cLf (QW fns) (QP tys) OZ 100 171 [.int .i64 kind,.agg [.int .i64 n,.str s,.vs 1 []]] [] 0 (fun v H _=>v= .int .i64 (ZC kind n s)∧H=[]):=by
 refine⟨lfS kind n s,Q0 [0] (by exact rfl) ⟨.refl _,.refl _,.refl _,trivial⟩ ⟨⟨by decide,_,rfl,.refl _⟩,trivial⟩,?_⟩
 unfold lfS
 have hE:ZC kind n s=ZC kind n s:=rfl
 conv at hE=>rhs;unfold ZC
 by_cases k4:kind=4
 ·by_cases n0:n=0
  ·subst k4 n0
   rw[if_neg (by simp),if_neg (by decide),if_neg (by decide)]at hE
   by_cases hl:s.length≤100
   ·rw[if_pos hl,if_neg (by decide)]at hE
    have hx1:=decide_eq_true hl
    rw[hE]
    repeat' first|refine And.intro ?_ ?_|(intro h;try first|exact dzh|replace h:=cvh)
    all_goals try exact cz
    refine⟨s,rfl,hs,?_⟩
    rw[decide_eq_true hl]
    repeat' first|refine And.intro ?_ ?_|(intro h;try first|exact dzh|replace h:=cvh)
    all_goals try exact cz
    exact⟨_,Q9 [4] rfl,_,rfl,rfl,rfl⟩
   ·rw[if_neg hl]at hE
    have hx1:=decide_eq_false hl
    rw[hE]
    repeat' first|refine And.intro ?_ ?_|(intro h;try first|exact dzh|replace h:=cvh)
    all_goals try exact cz
    refine⟨s,rfl,hs,?_⟩
    rw[decide_eq_false hl]
    repeat' first|refine And.intro ?_ ?_|(intro h;try first|exact dzh|replace h:=cvh)
    all_goals try exact cz
    exact⟨_,Q9 [4] rfl,_,rfl,rfl,rfl⟩
  ·rw[if_pos (.inl ⟨k4,n0⟩)]at hE
   have hx1:True:=trivial
   rw[hE]
   repeat' first|refine And.intro ?_ ?_|(intro h;try first|exact dzh|replace h:=cvh)
   all_goals try exact cz
   exact⟨_,Q9 [4] rfl,_,rfl,rfl,rfl⟩
 ·by_cases s0:s=[]
  ·subst s0
   have hx1:eqb [] []=true:=rfl
   rw[if_neg (by simp[k4])]at hE
   by_cases k3:kind=3
   ·rw[if_pos k3]at hE
    rw[hE]
    repeat' first|refine And.intro ?_ ?_|(intro h;try first|exact dzh|replace h:=cvh)
    all_goals try exact cz
    exact⟨_,Q9 [4] rfl,_,rfl,rfl,rfl⟩
   ·rw[if_neg k3]at hE
    by_cases k2:kind=2
    ·rw[if_pos k2]at hE
     by_cases hn:n< -2147483648∨2147483647<n
     ·rw[if_pos hn]at hE
      by_cases ha:n< -2147483648
      ·rw[hE]
       repeat' first|refine And.intro ?_ ?_|(intro h;try first|exact dzh|replace h:=cvh)
       all_goals try exact cz
       exact⟨_,Q9 [4] rfl,_,rfl,rfl,rfl⟩
      ·have hb:2147483647<n:=hn.resolve_left ha
       rw[hE]
       repeat' first|refine And.intro ?_ ?_|(intro h;try first|exact dzh|replace h:=cvh)
       all_goals try exact cz
       exact⟨_,Q9 [4] rfl,_,rfl,rfl,rfl⟩
     ·rw[if_neg hn]at hE
      rw[hE]
      repeat' first|refine And.intro ?_ ?_|(intro h;try first|exact dzh|replace h:=cvh)
      all_goals try exact cz
      exact⟨_,Q9 [4] rfl,_,rfl,rfl,rfl⟩
    ·rw[if_neg k2,if_pos (show([]:List UInt8).length≤100 by decide)]at hE
     by_cases k1:kind=1
     ·rw[if_pos k1]at hE
      by_cases hn:n<0∨1<n
      ·rw[if_pos hn]at hE
       by_cases ha:n<0
       ·rw[hE]
        repeat' first|refine And.intro ?_ ?_|(intro h;try first|exact dzh|replace h:=cvh)
        all_goals try exact cz
        refine⟨[],rfl,hs,?_⟩
        repeat' first|refine And.intro ?_ ?_|(intro h;try first|exact dzh|replace h:=cvh)
        all_goals try exact cz
        exact⟨_,Q9 [4] rfl,_,rfl,rfl,rfl⟩
       ·have hb:1<n:=hn.resolve_left ha
        rw[hE]
        repeat' first|refine And.intro ?_ ?_|(intro h;try first|exact dzh|replace h:=cvh)
        all_goals try exact cz
        refine⟨[],rfl,hs,?_⟩
        repeat' first|refine And.intro ?_ ?_|(intro h;try first|exact dzh|replace h:=cvh)
        all_goals try exact cz
        exact⟨_,Q9 [4] rfl,_,rfl,rfl,rfl⟩
      ·rw[if_neg hn]at hE
       rw[hE]
       repeat' first|refine And.intro ?_ ?_|(intro h;try first|exact dzh|replace h:=cvh)
       all_goals try exact cz
       refine⟨[],rfl,hs,?_⟩
       repeat' first|refine And.intro ?_ ?_|(intro h;try first|exact dzh|replace h:=cvh)
       all_goals try exact cz
       exact⟨_,Q9 [4] rfl,_,rfl,rfl,rfl⟩
     ·rw[if_neg k1]at hE
      by_cases hn:n<0∨0<n
      ·rw[if_pos hn]at hE
       by_cases ha:n<0
       ·rw[hE]
        repeat' first|refine And.intro ?_ ?_|(intro h;try first|exact dzh|replace h:=cvh)
        all_goals try exact cz
        refine⟨[],rfl,hs,?_⟩
        repeat' first|refine And.intro ?_ ?_|(intro h;try first|exact dzh|replace h:=cvh)
        all_goals try exact cz
        exact⟨_,Q9 [4] rfl,_,rfl,rfl,rfl⟩
       ·have hb:0<n:=hn.resolve_left ha
        rw[hE]
        repeat' first|refine And.intro ?_ ?_|(intro h;try first|exact dzh|replace h:=cvh)
        all_goals try exact cz
        refine⟨[],rfl,hs,?_⟩
        repeat' first|refine And.intro ?_ ?_|(intro h;try first|exact dzh|replace h:=cvh)
        all_goals try exact cz
        exact⟨_,Q9 [4] rfl,_,rfl,rfl,rfl⟩
      ·rw[if_neg hn]at hE
       rw[hE]
       repeat' first|refine And.intro ?_ ?_|(intro h;try first|exact dzh|replace h:=cvh)
       all_goals try exact cz
       refine⟨[],rfl,hs,?_⟩
       repeat' first|refine And.intro ?_ ?_|(intro h;try first|exact dzh|replace h:=cvh)
       all_goals try exact cz
       exact⟨_,Q9 [4] rfl,_,rfl,rfl,rfl⟩
  ·rw[if_pos (.inr ⟨k4,s0⟩)]at hE
   have hx1:=IU s0
   rw[hE]
   repeat' first|refine And.intro ?_ ?_|(intro h;try first|exact dzh|replace h:=cvh)
   all_goals try exact cz
   exact⟨_,Q9 [4] rfl,_,rfl,rfl,rfl⟩
def S_leaf8:SpecI:=fun args K=>∃(kind n:Int) (s:List UInt8),args=[.int .i64 kind,.agg [.int .i64 n,.str s,.vs 1 []]]∧s.length≤9223372036854775807∧K (.int .i64 (ZC kind n s))
theorem Dr[Syms]:Z8 Tryz.prog 171 S_leaf8:=by
 rintro args K ⟨kind,n,s,rfl,h,hk⟩
 exact⟨rfl,_,rfl,hk,fnI QC Qz Qe (Q8 ER Qk) QV (LY kind n s h)⟩
end
section
set_option maxRecDepth 100000
set_option maxHeartbeats 4000000
def sq(k:Int):List Fd:=[⟨[109],0,0,1⟩,⟨[118],0,k,0⟩]
abbrev sqR(k:Int):List (List AVal):=[[.str [109],.int .i64 0,.int .i64 0,.int .i64 1],[.str [118],.int .i64 0,.int .i64 k,.int .i64 0]]
abbrev vSq(k:Int):AVal:=.vs 4 (sqR k)
theorem Od(k:Int):SeeV (vSq k) (vF (sq k)):=.tab _ _ _ _ (Xw encF default (sq k)).symm
theorem LJ(k:Int):Q6 (sq k)=[-1,0]:=rfl
theorem Oc(k:Int):FsOk (sq k) where
 len:=by show 2<1000;decide
 kids i:=by
  rcases i with _|_|i
  ·show(1:Int)≤_;decide
  ·show(0:Int)≤_;decide
  ·show(0:Int)≤_;decide
 name i:=by
  rcases i with _|_|i
  ·show 1≤_;decide
  ·show 1≤_;decide
  ·show 0≤_;decide
abbrev cFt:CallT:=Qu 76 (ZJ (D5 S_par)) Ql
theorem NF[Syms]:cFt.ok Tryz.prog:=Q8 MZ.see Qk
def ftS(k:Int)(i:Int)(c:AVal)(rest:Heap)(n:Nat):St:=⟨[(3,.ptr 0 0 0),(13,vI [-1,0]),(14,.int .i64 2),(15,.int .i64 i)],(0,some (.cells [[vSq k,.slice 2 0 2 1 none]] false))::(2,some (.cells [[c],[.nils]] false))::rest,n⟩
theorem Ni[Syms](k:Int):
 fnT Ql cFt (QW fns) (QP tys) (Z1 plt) 100 132 [vSq k] [] 0 (fun v H _=>v= .vp [vSq k,.vs 1 [[.vs 1 [[.int .i64 1]]],[.nils]]] 0∧H=[]):=by
 repeat' first|refine And.intro ?_ ?_|(intro h;try first|exact dz|replace h:=cv)
 all_goals try exact cz
 ·show(2:Int)*24≤281474976710656;decide
 ·show(2:Int)≤281474976710656;decide
 refine⟨[vF (sq k)],⟨Od k,trivial⟩,sq k,rfl,Oc k,?_⟩
 rw[LJ]
 repeat' first|refine And.intro ?_ ?_|(intro h;try first|exact dz|replace h:=cv)
 all_goals try exact cz
 refine⟨fun m s=>(m=2∧s=ftS k 0 .nils [] 3)∨(m=1∧s=ftS k 1 .nils [] 3)∨(m=0∧s=ftS k 2 (.slice 3 0 1 1 none) [(3,some (.cells [[.int .i64 1]] false))] 4),⟨_,ftS k 0 .nils [] 3,?_,.inl ⟨rfl,rfl⟩⟩,?_⟩
 ·exact(Yh (nx':=5) (by omega)).trans (Q0 [1,2,0] (by exact rfl) ⟨.refl _,.refl _,.refl _,.refl _,trivial⟩ ⟨⟨by decide,_,rfl,ZP (row:=[vSq k,.slice 2 0 2 1 none]) ⟨.refl _,.cap _ _ _ _ _,trivial⟩⟩,⟨by decide,_,rfl,.refl _⟩,trivial⟩)
 have hx1:([-1,0]:List Int).getD 0 0= -1:=rfl
 have hx2:([-1,0]:List Int).getD 1 0=0:=rfl
 have hx3:(2:Int)=2:=rfl
 have hx4:(2:Int)=2:=rfl
 rintro m s (⟨rfl,rfl⟩|⟨rfl,rfl⟩|⟨rfl,rfl⟩)
 ·unfold ftS
  repeat' first|refine And.intro ?_ ?_|(intro h;try first|exact dzi|replace h:=cvi)
  all_goals try exact cz
  ·show(0:Int)<2;decide
  ·refine⟨_,ftS k 1 .nils [] 3,?_,.inr (.inl ⟨rfl,rfl⟩),by omega⟩
   exact Q0 [0,1,2] (by exact rfl) ⟨.refl _,.refl _,.refl _,.refl _,trivial⟩ ⟨⟨by decide,_,rfl,.refl _⟩,⟨by decide,_,rfl,.refl _⟩,trivial⟩
 ·unfold ftS
  repeat' first|refine And.intro ?_ ?_|(intro h;try first|exact dzi|replace h:=cvi)
  all_goals try exact cz
  ·show(1:Int)<2;decide
  all_goals(try(show(0:Int)<2;decide))
  ·refine⟨_,ftS k 2 (.slice 3 0 1 1 none) [(3,some (.cells [[.int .i64 1]] false))] 4,?_,.inr (.inr ⟨rfl,rfl⟩),by omega⟩
   exact Q0 [0,1,2,60129542147] (by exact rfl) ⟨.refl _,.refl _,.refl _,.refl _,trivial⟩ ⟨⟨by decide,_,rfl,.refl _⟩,⟨by decide,.cells [[.slice 60129542147 0 1 1 none],[.nils]] false,rfl,.refl _⟩,⟨by decide,_,rfl,.refl _⟩,trivial⟩
  ·exact absurd (show(0:Int)<0 from h) (by decide)
 ·unfold ftS
  repeat' first|refine And.intro ?_ ?_|(intro h;try first|exact dzi|replace h:=cvi)
  all_goals try exact cz
  refine⟨⟨[(2,.vp [vSq k,.vs 1 [[.vs 1 [[.int .i64 1]]],[.nils]]] 0)],[],4⟩,?_,_,rfl,rfl,rfl⟩
  refine Reb.trans (s':=⟨[(2,.ptr 0 0 0)],[(0,some (.cells [[vSq k,.slice 2 0 2 1 none]] false)),(2,some (.cells [[.slice 3 0 1 1 none],[.nils]] false)),(3,some (.cells [[.int .i64 1]] false))],4⟩) (Q0 [0,1,2,3] (by exact rfl) ⟨.refl _,trivial⟩ ⟨⟨by decide,_,rfl,.refl _⟩,⟨by decide,_,rfl,.refl _⟩,⟨by decide,_,rfl,.refl _⟩,trivial⟩) ?_
  refine Reb.trans (s':=⟨[(2,.ptr 0 0 0)],[(0,some (.cells [[vSq k,.slice 2 0 2 1 none]] false)),(2,some (.cells [[.vs 1 [[.int .i64 1]]],[.nils]] false))],4⟩) (Z2 (n:=3) (rows:=[[.int .i64 1]]) rfl (fun q hq y hy=>by simp at hq;subst hq;simp at hy;subst hy;rfl) ⟨.same _,trivial⟩ ⟨⟨by decide,_,rfl,.same _⟩,⟨by decide,_,rfl,.cells _ _ _ rfl fun k r r' h1 h2=>?_⟩,trivial⟩) ?_
  ·rcases k with _|_|k
   ·cases h1;cases h2
    exact⟨.sl (n:=3) (rows:=[[.int .i64 1]]) 0 1 1 none (by decide) (by decide),trivial⟩
   ·cases h1;cases h2
    exact⟨.same _,trivial⟩
   ·cases h1
  refine Reb.trans (s':=⟨[(2,.ptr 0 0 0)],[(0,some (.cells [[vSq k,.vs 1 [[.vs 1 [[.int .i64 1]]],[.nils]]]] false))],4⟩) (Z2 (n:=2) (rows:=[[.vs 1 [[.int .i64 1]]],[.nils]]) rfl (fun q hq y hy=>by simp at hq;rcases hq with rfl|rfl<;>(simp at hy;subst hy;rfl)) ⟨.same _,trivial⟩ ⟨⟨by decide,_,rfl,.cells _ _ _ rfl fun k r r' h1 h2=>?_⟩,trivial⟩) ?_
  ·rcases k with _|k
   ·cases h1;cases h2
    exact⟨.same _,.sl (n:=2) (rows:=[[.vs 1 [[.int .i64 1]]],[.nils]]) 0 2 1 none (by decide) (by decide),trivial⟩
   ·cases h1
  exact Z2 (n:=0) (rows:=[[vSq k,.vs 1 [[.vs 1 [[.int .i64 1]]],[.nils]]]]) rfl (fun q hq y hy=>by simp at hq;subst hq;simp at hy;rcases hy with rfl|rfl<;>rfl) ⟨.pt 0 0 _ [vSq k,.vs 1 [[.vs 1 [[.int .i64 1]]],[.nils]]] rfl ⟨.same _,.same _,trivial⟩,trivial⟩ trivial
def S_fits1:SpecI:=fun args K=>∃k:Int,args=[vSq k]∧K (.vp [vSq k,.vs 1 [[.vs 1 [[.int .i64 1]]],[.nils]]] 0)
theorem DA[Syms]:Z8 Tryz.prog 132 S_fits1:=by
 rintro args K ⟨k,rfl,hk⟩
 exact⟨rfl,_,rfl,hk,fnI QC Qz Qe NF QV (Ni k)⟩
end
section
set_option maxRecDepth 100000
set_option maxHeartbeats 4000000
abbrev Fe(k:Int):AVal:=.vp [vSq k,.vs 1 [[.vs 1 [[.int .i64 1]]],[.nils]]] 0
abbrev lfA(n:Int)(s:List UInt8):List AVal:=[.int .i64 n,.str s,.vs 1 []]
abbrev cV1:CallT:=Qu 171 (ZJ S_leaf8) Ql
theorem L8[Syms]:cV1.det Tryz.prog:=ZL Dr Qe
theorem Nt[Syms]:cV1.ok Tryz.prog:=Q8 Dr Qk
theorem EL[Syms](k n:Int)(s:List UInt8)(hk:k≠0)(hs:s.length≤9223372036854775807):
 fnT cV1 cV1 (QW fns) (QP tys) (Z1 plt) 100 133 [Fe k,.int .i64 1,.agg (lfA n s)] [] 0 (fun v H _=>v= .int .i64 (ZC k n s)∧H=[]):=by
 have hx1:asI (((asR (vSq k)).getD (Int.toNat 1) []).getD 2 .any)=k:=rfl
 repeat' first|refine And.intro ?_ ?_|(intro h;try first|exact dzh|replace h:=cvh)
 all_goals try exact cz
 all_goals(try(show(1:Int)<2;decide))
 refine⟨k,n,s,rfl,hs,?_⟩
 repeat' first|refine And.intro ?_ ?_|(intro h;try first|exact dzh|replace h:=cvh)
 all_goals try exact cz
 exact⟨_,Q9 [6] rfl,_,rfl,rfl,rfl⟩
def S_v1:SpecI:=fun args K=>∃(k n:Int) (s:List UInt8),args=[Fe k,.int .i64 1,.agg (lfA n s)]∧(k≠0∧s.length≤9223372036854775807)∧K (.int .i64 (ZC k n s))
theorem O6[Syms]:Z8 Tryz.prog 133 S_v1:=by
 rintro args K ⟨k,n,s,rfl,⟨h1,h2⟩,hk⟩
 exact⟨rfl,_,rfl,hk,fnI QC Qz L8 Nt QV (EL k n s h1 h2)⟩
abbrev cA1:CallT:=Qu 133 (ZJ S_v1) Ql
theorem NN[Syms]:cA1.ok Tryz.prog:=Q8 O6 Qk
def alS(k n:Int)(s:List UInt8)(i:Int):St:=⟨[(0,Fe k),(1,.int .i64 1),(40,.vs 3 [lfA n s]),(41,.int .i64 1),(42,.int .i64 i)],[],0⟩
theorem NW[Syms](k n:Int)(s:List UInt8)(hk:k≠0)(hs:s.length≤9223372036854775807):
 fnT Ql cA1 (QW fns) (QP tys) (Z1 plt) 100 172 [Fe k,.int .i64 1,.vs 3 [lfA n s]] [] 0 (fun v H _=>v= .int .i64 (ZC k n s)∧H=[]):=by
 have hx1:asI (((asR (vSq k)).getD (Int.toNat 1) []).getD 1 .any)=0:=rfl
 have hx2:((([lfA n s]).length:Nat):Int)=1:=rfl
 have hx3:(0:Int)=0:=rfl
 have hx4:(0:Int)=0:=rfl
 repeat' first|refine And.intro ?_ ?_|(intro h;try first|exact dzi|replace h:=cvi)
 all_goals try exact cz
 all_goals(try(show(1:Int)<2;decide))
 refine .inl ?_
 repeat' first|refine And.intro ?_ ?_|(intro h;try first|exact dzi|replace h:=cvi)
 all_goals try exact cz
 all_goals(try(show(1:Int)<2;decide))
 refine⟨fun m st=>(m=1∧st=alS k n s 0)∨(m=0∧ZC k n s=0∧st=alS k n s 1),⟨_,alS k n s 0,Q9 [0,1,40,41,42] rfl,.inl ⟨rfl,rfl⟩⟩,?_⟩
 rintro m st (⟨rfl,rfl⟩|⟨rfl,he,rfl⟩)
 ·unfold alS
  by_cases he:ZC k n s=0
  · repeat' first|refine And.intro ?_ ?_|(intro h;try first|exact dzi|replace h:=cvi)
    all_goals try exact cz
    all_goals(try((with_reducible show _=_);exact rfl))
    refine⟨k,n,s,rfl,⟨hk,hs⟩,?_⟩
    rw[he]
    repeat' first|refine And.intro ?_ ?_|(intro h;try first|exact dzi|replace h:=cvi)
    all_goals try exact cz
    refine⟨_,alS k n s 1,Q9 [0,1,40,41,42] rfl,.inr ⟨rfl,rfl,rfl⟩,by omega⟩
  · repeat' first|refine And.intro ?_ ?_|(intro h;try first|exact dzi|replace h:=cvi)
    all_goals try exact cz
    all_goals(try((with_reducible show _=_);exact rfl))
    refine⟨k,n,s,rfl,⟨hk,hs⟩,?_⟩
    repeat' first|refine And.intro ?_ ?_|(intro h;try first|exact dzi|replace h:=cvi)
    all_goals try exact cz
    exact⟨_,Q9 [6] rfl,_,rfl,rfl,rfl⟩
 ·unfold alS
  rw[he]
  repeat' first|refine And.intro ?_ ?_|(intro h;try first|exact dzi|replace h:=cvi)
  all_goals try exact cz
  exact⟨_,Q9 [6] rfl,_,rfl,rfl,rfl⟩
def S_a1:SpecI:=fun args K=>∃(k n:Int) (s:List UInt8),args=[Fe k,.int .i64 1,.vs 3 [lfA n s]]∧(k≠0∧s.length≤9223372036854775807)∧K (.int .i64 (ZC k n s))
theorem OP[Syms]:Z8 Tryz.prog 172 S_a1:=by
 rintro args K ⟨k,n,s,rfl,⟨h1,h2⟩,hk⟩
 exact⟨rfl,_,rfl,hk,fnI QC Qz Qe NN QV (NW k n s h1 h2)⟩
abbrev cV0:CallT:=Qu 172 (ZJ S_a1) Ql
theorem Nu[Syms]:cV0.ok Tryz.prog:=Q8 OP Qk
def v0S(k n:Int)(s:List UInt8)(i:Int):St:=⟨[(0,Fe k),(7,.vs 1 [[.int .i64 1]]),(54,.vs 1 [[.vs 3 [lfA n s]]]),(55,.int .i64 1),(56,.int .i64 i)],[],0⟩
noncomputable def OV:Nat→Nat→Pl:=YK [(133,0)] (Z1 plt)
theorem EM[Syms](k n:Int)(s:List UInt8)(hk:k≠0)(hs:s.length≤9223372036854775807):
 fnT Ql cV0 (QW fns) (QP tys) OV 100 133 [Fe k,.int .i64 0,.agg [.int .i64 0,.str [],.vs 1 [[.vs 3 [lfA n s]]]]] [] 0 (fun v H _=>v= .int .i64 (ZC k n s)∧H=[]):=by
 refine⟨⟨[(0,Fe k),(1,.int .i64 0),(5,.ptr 0 0 0),(6,.int .i64 0)],[(0,some (.cells [[.int .i64 0,.str [],.vs 1 [[.vs 3 [lfA n s]]]]] false))],1⟩,Q0 [0] (by exact rfl) ⟨.refl _,.refl _,.refl _,.refl _,trivial⟩ ⟨⟨by decide,_,rfl,.refl _⟩,trivial⟩,?_⟩
 have hx1:asI (((asR (vSq k)).getD 0 []).getD 2 .any)=0:=rfl
 have hx2:eqb [] []=true:=rfl
 have hx3:(((asR (((asR (AVal.vs 1 [[AVal.vs 1 [[AVal.int .i64 1]]],[AVal.nils]])).getD 0 []).getD 0 .any)).length:Nat):Int)=1:=rfl
 have hx4:(([[AVal.vs 3 [lfA n s]]].length:Nat):Int)=1:=rfl
 repeat' first|refine And.intro ?_ ?_|(intro h;try first|exact dzi|replace h:=cvi)
 all_goals try exact cz
 all_goals(try(show(0:Int)<2;decide))
 refine⟨fun m st=>(m=1∧st=v0S k n s 0)∨(m=0∧ZC k n s=0∧st=v0S k n s 1),⟨_,v0S k n s 0,Q9 [0,7,54,55,56] rfl,.inl ⟨rfl,rfl⟩⟩,?_⟩
 rintro m st (⟨rfl,rfl⟩|⟨rfl,he,rfl⟩)
 ·unfold v0S
  by_cases he:ZC k n s=0
  · repeat' first|refine And.intro ?_ ?_|(intro h;try first|exact dzi|replace h:=cvi)
    all_goals try exact cz
    all_goals(try(show(0:Int)<1;decide))
    all_goals(try((with_reducible show _=_);exact rfl))
    refine⟨k,n,s,rfl,⟨hk,hs⟩,?_⟩
    rw[he]
    repeat' first|refine And.intro ?_ ?_|(intro h;try first|exact dzi|replace h:=cvi)
    all_goals try exact cz
    refine⟨_,v0S k n s 1,Q9 [0,7,54,55,56] rfl,.inr ⟨rfl,rfl,rfl⟩,by omega⟩
  · repeat' first|refine And.intro ?_ ?_|(intro h;try first|exact dzi|replace h:=cvi)
    all_goals try exact cz
    all_goals(try(show(0:Int)<1;decide))
    all_goals(try((with_reducible show _=_);exact rfl))
    refine⟨k,n,s,rfl,⟨hk,hs⟩,?_⟩
    repeat' first|refine And.intro ?_ ?_|(intro h;try first|exact dzi|replace h:=cvi)
    all_goals try exact cz
    exact⟨_,Q9 [6] rfl,_,rfl,rfl,rfl⟩
 ·unfold v0S
  rw[he]
  repeat' first|refine And.intro ?_ ?_|(intro h;try first|exact dzi|replace h:=cvi)
  all_goals try exact cz
  exact⟨_,Q9 [6] rfl,_,rfl,rfl,rfl⟩
def S_v0:SpecI:=fun args K=>∃(k n:Int) (s:List UInt8),args=[Fe k,.int .i64 0,.agg [.int .i64 0,.str [],.vs 1 [[.vs 3 [lfA n s]]]]]∧(k≠0∧s.length≤9223372036854775807)∧K (.int .i64 (ZC k n s))
theorem Lv[Syms]:Z8 Tryz.prog 133 S_v0:=by
 rintro args K ⟨k,n,s,rfl,⟨h1,h2⟩,hk⟩
 exact⟨rfl,_,rfl,hk,fnI QC Qz Qe Nu QV (EM k n s h1 h2)⟩
abbrev cFs:CallT:=Qu 132 (ZJ S_fits1) (Qu 133 (ZJ S_v0) Ql)
theorem Lc[Syms]:cFs.det Tryz.prog:=ZL DA (ZL Lv Qe)
theorem NG[Syms]:cFs.ok Tryz.prog:=Q8 DA (Q8 Lv Qk)
noncomputable def P3:Nat→Nat→Pl:=YK [(87,0)] (Z1 plt)
abbrev fsH(n:Int)(s:List UInt8):Heap:=[(0,some (.cells [[.slice 1 0 1 3 none]] false)),(1,some (.cells [lfA n s] false))]
theorem flf(n:Int)(s:List UInt8):∀r∈[lfA n s],∀x∈r,x.flat=true:=fun q hq y hy=>by
 simp at hq;subst hq;simp[lfA]at hy;rcases hy with rfl|rfl|rfl<;>rfl
theorem NZ[Syms]{Post:AVal→Heap→Nat→Prop}(k n:Int)(s:List UInt8)(hk:k≠0)(hs:s.length≤9223372036854775807)(hP:Post (.int .i64 (ZC k n s)) [] 2):
 fnT cFs cFs (QW fns) (QP tys) P3 100 87 [vSq k,.agg [.int .i64 0,.str [],.slice 0 0 1 1 none]] (fsH n s) 2 Post:=by
 refine⟨⟨[(0,vSq k),(3,.ptr 2 0 0),(4,.int .i64 0)],[(2,some (.cells [[.int .i64 0,.str [],.vs 1 [[.vs 3 [lfA n s]]]]] false))],3⟩,?_,?_⟩
 ·refine Reb.trans (s':=⟨[(0,vSq k),(3,.ptr 2 0 0),(4,.int .i64 0)],[(0,some (.cells [[.slice 1 0 1 3 none]] false)),(1,some (.cells [lfA n s] false)),(2,some (.cells [[.int .i64 0,.str [],.slice 0 0 1 1 none]] false))],3⟩) (Q0 [0,1,2] (by exact rfl) ⟨.refl _,.refl _,.refl _,trivial⟩ ⟨⟨by decide,_,rfl,.refl _⟩,⟨by decide,_,rfl,.refl _⟩,⟨by decide,_,rfl,.refl _⟩,trivial⟩) ?_
  refine Reb.trans (s':=⟨[(0,vSq k),(3,.ptr 2 0 0),(4,.int .i64 0)],[(0,some (.cells [[.vs 3 [lfA n s]]] false)),(2,some (.cells [[.int .i64 0,.str [],.slice 0 0 1 1 none]] false))],3⟩) (Z2 (n:=1) (rows:=[lfA n s]) rfl (flf n s) ⟨.same _,.same _,.same _,trivial⟩ ⟨⟨by decide,_,rfl,.cells _ _ _ rfl fun k r r' h1 h2=>?_⟩,⟨by decide,_,rfl,.same _⟩,trivial⟩) ?_
  ·rcases k with _|k
   ·cases h1;cases h2
    exact⟨.sl (n:=1) (rows:=[lfA n s]) 0 1 3 none (by decide) (Nat.le_refl 1),trivial⟩
   ·cases h1
  refine Z2 (n:=0) (rows:=[[.vs 3 [lfA n s]]]) rfl (fun q hq y hy=>by simp at hq;subst hq;simp at hy;subst hy;rfl) ⟨.same _,.same _,.same _,trivial⟩ ⟨⟨by decide,_,rfl,.cells _ _ _ rfl fun k r r' h1 h2=>?_⟩,trivial⟩
  rcases k with _|k
  ·cases h1;cases h2
   exact⟨.same _,.same _,.sl (n:=0) (rows:=[[.vs 3 [lfA n s]]]) 0 1 1 none (by decide) (Nat.le_refl 1),trivial⟩
  ·cases h1
 ·have hx1:(((sqR k).length:Nat):Int)=2:=rfl
  repeat' first|refine And.intro ?_ ?_|(intro h;try first|exact dzh|replace h:=cvh)
  all_goals try exact cz
  refine⟨k,rfl,?_⟩
  repeat' first|refine And.intro ?_ ?_|(intro h;try first|exact dzh|replace h:=cvh)
  all_goals try exact cz
  refine⟨k,n,s,rfl,⟨hk,hs⟩,?_⟩
  repeat' first|refine And.intro ?_ ?_|(intro h;try first|exact dzh|replace h:=cvh)
  all_goals try exact cz
  exact⟨_,Q9 [4] rfl,_,rfl,hP⟩
def Ic:SpecT:=fun args H nx Post=>∃(k n:Int) (s:List UInt8),args=[vSq k,.agg [.int .i64 0,.str [],.slice 0 0 1 1 none]]∧H=fsH n s∧nx=2∧(k≠0∧s.length≤9223372036854775807)∧Post (.int .i64 (ZC k n s)) [] 2
theorem Lu[Syms]:Ic.ok Tryz.prog 87:=by
 rintro args H nx Post ⟨k,n,s,rfl,rfl,rfl,⟨h1,h2⟩,h⟩
 exact Zr QC Qz Lc NG QV (NZ k n s h1 h2 h)
def YG(k n:Int)(s:List UInt8):Bool:=decide (ZC k n s=0)
abbrev cSd:CallT:=Qu 87 (GT Ic) Ql
theorem Nv[Syms]:cSd.ok Tryz.prog:=YL Lu Qk
noncomputable def OW:Nat→Nat→Pl:=YK [(49,1)] (Z1 plt)
theorem Ip[Syms](k n:Int)(s:List UInt8)(hk:k≠0)(hs:s.length≤9223372036854775807):
 fnT Ql cSd (QW fns) (QP tys) OW 100 49 [.int .i64 k,.agg [.int .i64 n,.str s]] [] 0 (fun v H _=>v= .bool (YG k n s)∧H=[]):=by
 repeat' first|refine And.intro ?_ ?_|(intro h;try first|exact dz|replace h:=cv)
 all_goals try exact cz
 refine⟨⟨[(3,.ptr 0 0 0),(5,vSq k)],[(0,some (.cells [[.int .i64 n,.str s]] false))],2⟩,?_,?_⟩
 ·refine Reb.trans (s':=⟨[(3,.ptr 0 0 0),(5,.slice 1 0 2 4 none)],[(0,some (.cells [[.int .i64 n,.str s]] false)),(1,some (.cells (sqR k) false))],2⟩) (Q0 [0,1] (by exact rfl) ⟨.refl _,.cap _ _ _ _ _,trivial⟩ ⟨⟨by decide,_,rfl,.refl _⟩,⟨by decide,_,rfl,.refl _⟩,trivial⟩) ?_
  exact Z2 (n:=1) (rows:=sqR k) rfl (fF (sq k)) ⟨.same _,.sl (n:=1) (rows:=sqR k) 0 2 4 none (by decide) (Nat.le_refl 2),trivial⟩ ⟨⟨by decide,_,rfl,.same _⟩,trivial⟩
 ·have hx1:(((sqR k).length:Nat):Int)=2:=rfl
  repeat' first|refine And.intro ?_ ?_|(intro h;try first|exact dzh|replace h:=cvh)
  all_goals try exact cz
  refine⟨[3,2],[vSq k,.agg [.int .i64 0,.str [],.slice 0 0 1 1 none]],fsH n s,rfl,⟨.refl _,?_,trivial⟩,⟨⟨by decide,_,rfl,ZP (row:=[.slice 1 0 1 3 none]) ⟨.cap _ _ _ _ _,trivial⟩⟩,⟨by decide,_,rfl,ZP (row:=lfA n s) ⟨.refl _,.refl _,.zero _ _ rfl,trivial⟩⟩,trivial⟩,k,n,s,rfl,rfl,rfl,⟨hk,hs⟩,?_⟩
  ·exact WkV.aggs ⟨.refl _,.refl _,.cap _ _ _ _ _,trivial⟩
  · repeat' first|refine And.intro ?_ ?_|(intro h;try first|exact dzh|replace h:=cvh)
    all_goals try exact cz
    exact⟨_,Q9 [4] rfl,_,rfl,rfl,rfl⟩
def S_sound:SpecI:=fun args K=>∃(k n:Int) (s:List UInt8),args=[.int .i64 k,.agg [.int .i64 n,.str s]]∧(k≠0∧s.length≤9223372036854775807)∧K (.bool (YG k n s))
theorem D3[Syms]:Z8 Tryz.prog 49 S_sound:=by
 rintro args K ⟨k,n,s,rfl,⟨h1,h2⟩,hk⟩
 exact⟨rfl,_,rfl,hk,fnI QC Qz Qe Nv QV (Ip k n s h1 h2)⟩
end
section
set_option maxRecDepth 100000
set_option maxHeartbeats 4000000
structure Vl where
 n:Int
 s:List UInt8
 deriving Inhabited
def Yc(v:Vl):List AVal:=[.int .i64 v.n,.str v.s]
def L6(a b:List UInt8):Int:=if Op.bytesLess a b=true then -1 else if(Op.bytesLess a b||eqb a b)=true then 0 else 1
def L5(a b:Int):Int:=if a<b then -1 else if b<a then 1 else 0
def HR(kind:Int)(a b:Vl):Int:=if kind=4 then L6 a.s b.s else L5 a.n b.n
abbrev bN[Syms]:CallT:=HZ Ql Ql (QW fns) (QP tys) (Z1 plt) 100
abbrev Ny[Syms]:CallT:=Qu 173 bN (Qu 174 bN Ql)
theorem LC[Syms]:bN.ok Tryz.prog:=Vv QC Qz Qe Qk QV
theorem CO[Syms]:Ny.ok Tryz.prog:=Wv LC (Wv LC Qk)
theorem Gl:∀s:List UInt8,eqb s s=true
 |[]=>rfl
 |a::s=>by rw[eqb,Nat.beq_refl,Gl s];rfl
theorem Np[Syms](a b:List UInt8):fnT Ql Ny (QW fns) (QP tys) (Z1 plt) 100 134 [.str a,.str b] [] 0 (fun v H _=>v= .int .i64 (L6 a b)∧H=[]):=by
 have hx1:=Gl a
 have hx2:=Gl b
 refine⟨_,.refl _ _ _,_,rfl,?_⟩
 refine⟨_,.refl _ _ _,_,rfl,?_⟩
 rw[hx1,hx2]
 unfold L6
 cases hl:Op.bytesLess a b
 ·cases he:eqb a b
  all_goals
   have hx3:=hl
   have hx4:=he
   repeat' first|refine And.intro ?_ ?_|(intro h;try first|exact dzi|replace h:=cvi)
   all_goals try exact cz
  all_goals first|exact⟨_,Q9 [4] rfl,_,rfl,rfl,rfl⟩|(exfalso;simp_all)
 ·have hx3:=hl
  have hx4:=hl
  repeat' first|refine And.intro ?_ ?_|(intro h;try first|exact dzi|replace h:=cvi)
  all_goals try exact cz
  all_goals first|exact⟨_,Q9 [4] rfl,_,rfl,rfl,rfl⟩|(exfalso;simp_all)
def S_cmpS:SpecI:=fun args K=>∃a b,args=[.str a,.str b]∧K (.int .i64 (L6 a b))
theorem L3[Syms]:Z8 Tryz.prog 134 S_cmpS:=by
 rintro args K ⟨a,b,rfl,hk⟩
 exact⟨rfl,_,rfl,hk,fnI QC Qz Qe CO QV (Np a b)⟩
theorem Nq[Syms](a b:Int):fnT Ql Ny (QW fns) (QP tys) (Z1 plt) 100 135 [.int .i64 a,.int .i64 b] [] 0 (fun v H _=>v= .int .i64 (L5 a b)∧H=[]):=by
 refine⟨_,.refl _ _ _,_,rfl,?_⟩
 refine⟨_,.refl _ _ _,_,rfl,?_⟩
 unfold L5
 by_cases h1:a<b
 ·rw[if_pos h1]
  repeat' first|refine And.intro ?_ ?_|(intro h;try first|exact dz|replace h:=cv)
  all_goals try exact cz
  all_goals exact⟨_,Q9 [4] rfl,_,rfl,rfl,rfl⟩
 ·rw[if_neg h1]
  by_cases h2:b<a
  ·rw[if_pos h2]
   repeat' first|refine And.intro ?_ ?_|(intro h;try first|exact dz|replace h:=cv)
   all_goals try exact cz
   all_goals exact⟨_,Q9 [4] rfl,_,rfl,rfl,rfl⟩
  ·rw[if_neg h2]
   repeat' first|refine And.intro ?_ ?_|(intro h;try first|exact dz|replace h:=cv)
   all_goals try exact cz
   all_goals exact⟨_,Q9 [4] rfl,_,rfl,rfl,rfl⟩
def S_cmpI:SpecI:=fun args K=>∃a b,args=[.int .i64 a,.int .i64 b]∧K (.int .i64 (L5 a b))
theorem L4[Syms]:Z8 Tryz.prog 135 S_cmpI:=by
 rintro args K ⟨a,b,rfl,hk⟩
 exact⟨rfl,_,rfl,hk,fnI QC Qz Qe CO QV (Nq a b)⟩
abbrev OE:CallT:=Qu 134 (ZJ S_cmpS) (Qu 135 (ZJ S_cmpI) Ql)
theorem Lh[Syms]:OE.ok Tryz.prog:=Q8 L3 (Q8 L4 Qk)
theorem OA[Syms](k:Int)(a b:Vl):fnT Ql OE (QW fns) (QP tys) (Z1 plt) 100 90 [.int .i64 k,.agg (Yc a),.agg (Yc b)] [] 0 (fun v H _=>v= .int .i64 (HR k a b)∧H=[]):=by
 unfold HR
 by_cases h4:k=4
 ·rw[if_pos h4]
  repeat' first|refine And.intro ?_ ?_|(intro h;try first|exact dz|replace h:=cv)
  all_goals try exact cz
  refine⟨a.s,b.s,rfl,?_⟩
  exact⟨_,Q9 [6] rfl,_,rfl,rfl,rfl⟩
 ·rw[if_neg h4]
  repeat' first|refine And.intro ?_ ?_|(intro h;try first|exact dz|replace h:=cv)
  all_goals try exact cz
  refine⟨a.n,b.n,rfl,?_⟩
  exact⟨_,Q9 [6] rfl,_,rfl,rfl,rfl⟩
def S_cmp:SpecI:=fun args K=>∃k a b,args=[.int .i64 k,.agg (Yc a),.agg (Yc b)]∧K (.int .i64 (HR k a b))
theorem Q05[Syms]:Z8 Tryz.prog 90 S_cmp:=by
 rintro args K ⟨k,a,b,rfl,hk⟩
 exact⟨rfl,_,rfl,hk,fnI QC Qz Qe Lh QV (OA k a b)⟩
end
section
set_option maxRecDepth 100000
set_option maxHeartbeats 4000000
def Tr.kids:Tr→List (List Tr)
 | .mk ks _ _=>ks
def Tr.num:Tr→Int
 | .mk _ n _=>n
def Tr.txt:Tr→List UInt8
 | .mk _ _ s=>s
structure Ask where
 at':Int
 leaf:Lf
 way:List Int
 path:List UInt8
 op:Int
 v:Vl
 deriving Inhabited
def encA(x:Ask):List AVal:=.int .i64 x.at'::QQ x.leaf++[.vs 1 (x.way.map encI),.str x.path,.int .i64 x.op]++Yc x.v
def KV:List Int→Tr→Option Tr
 |[],t=>some t
 |k::w,t=>if(t.kids.length:Int)≤k∨t.kids.getD k.toNat []=[]then none else KV w ((t.kids.getD k.toNat []).getD 0 default)
def V7(x:Ask)(t:Tr):Vl×Bool:=match KV x.way t with
 |some u=>(⟨u.num,u.txt⟩,true)
 |none=>(⟨0,[]⟩,false)
def vaS(x:Ask)(i:Nat)(t:Tr):St:=⟨[(2,.ptr 0 0 0),(3,.ptr 1 0 0),(4,.ptr 2 0 0),(5,.bool false),(9,.vs 1 (x.way.map encI)),(10,.int .i64 x.way.length),(11,.int .i64 i)],[(0,some (.cells [encA x] false)),(1,some (.cells [encT t] false)),(2,some (.cells [Yc ⟨0,[]⟩] false))],3⟩
theorem MN(H:Heap):Heap.sub [] H:=fun n b h=>by rw[Heap.get_nil]at h;cases h
theorem Ii[Syms]{Post:AVal→Heap→Nat→Prop}(x:Ask)(t:Tr)(hl:x.way.length≤1000)(hw:∀k,0≤x.way.getD k 0)(hP:Post (.tup [.agg (Yc (V7 x t).1),.bool (V7 x t).2]) [] 1):
 fnT Ql Ql (QW fns) (QP tys) (Z1 plt) 100 89 [.agg (encA x),.agg (encT t)] [] 0 (D1 Post):=by
 have e0:encT t=[.int .i64 t.num,.str t.txt,.vs 1 (t.kids.map fun x=>[.vs 3 (x.map encT)])]:=by cases t;exact QL _ _ _
 rw[e0]
 repeat' first|refine And.intro ?_ ?_|(intro h;try first|exact dz|replace h:=cv)
 all_goals try exact cz
 refine⟨fun m s=>∃(i:Nat) (u:Tr),(i≤x.way.length∧m=x.way.length-i∧KV (x.way.drop i) u=KV x.way t)∧s=vaS x i u,⟨_,vaS x 0 t,?_,0,t,⟨by omega,rfl,rfl⟩,rfl⟩,?_⟩
 ·unfold vaS
  rw[e0]
  exact Q0 [0,1,2] (by exact rfl) ⟨.refl _,.refl _,.refl _,.refl _,.refl _,Qa (by simp),.refl _,trivial⟩ ⟨⟨by decide,_,rfl,.refl _⟩,⟨by decide,_,rfl,.refl _⟩,⟨by decide,_,rfl,.refl _⟩,trivial⟩
 clear e0
 rintro m s ⟨i,u,⟨hi,rfl,hv⟩,rfl⟩
 rcases u with⟨ks,n,s⟩
 unfold vaS
 rw[QL]
 by_cases h1:i<x.way.length
 ·have hd:x.way.drop i=x.way.getD i 0::x.way.drop (i+1):=by
   rw[List.drop_eq_getElem_cons h1,List.getD_eq_getElem?_getD,List.getElem?_eq_getElem h1];rfl
  rw[hd,KV]at hv
  have hx1:(x.way.map encI).getD i []=encI (x.way.getD i 0):=U4 encI 0 h1
  have hk0:=hw i
  generalize x.way.getD i 0=k at *
  have hx2:∀rows,asR (.vs 1 rows)=rows:=fun _=>rfl
  have hx4:∀rows,asR (.vs 3 rows)=rows:=fun _=>rfl
  have hlen:(ks.map fun x=>[AVal.vs 3 (x.map encT)]).length=ks.length:=List.length_map ..
  by_cases hk:(ks.length:Int)≤k
  ·rw[if_pos (.inl hk)]at hv
   have hx3:=hlen
   repeat' first|refine And.intro ?_ ?_|(intro h;try first|exact dzi|replace h:=cvi)
   all_goals try exact cz
   ·rw[show((i:Nat):Int).toNat=i from rfl,hx1];rfl
   ·have hvf:V7 x t=(⟨0,[]⟩,false):=by unfold V7;rw[←hv]
    exact⟨⟨[(4,.ptr 0 0 0),(5,.bool false)],[(0,some (.cells [Yc ⟨0,[]⟩] false))],1⟩,Q0 [2] (by exact rfl) ⟨.refl _,.refl _,trivial⟩ ⟨⟨by decide,_,rfl,.refl _⟩,trivial⟩,_,rfl,[],MN _,by rw[hvf]at hP;exact hP⟩
  ·obtain⟨q,rfl⟩:∃q:Nat,k=q:=⟨k.toNat,by omega⟩
   have hq:q<ks.length:=by omega
   rw[Int.toNat_natCast]at hv
   have hrow:(ks.map fun x=>[AVal.vs 3 (x.map encT)]).getD q []=[.vs 3 ((ks.getD q []).map encT)]:=U4 (fun x=>[AVal.vs 3 (List.map encT x)]) [] hq
   by_cases hz:ks.getD q []=[]
   ·rw[if_pos (.inr hz)]at hv
    rw[hz]at hrow
    have hx3:=hrow
    repeat' first|refine And.intro ?_ ?_|(intro h;try first|exact dzi|replace h:=cvi)
    all_goals try exact cz
    ·show isC _ _ (((x.way.map encI).getD i []).getD 0 .any)=true
     rw[hx1];rfl
    ·show 0≤asI (((x.way.map encI).getD i []).getD 0 .any)
     rw[hx1];exact hk0
    ·show asI (((x.way.map encI).getD i []).getD 0 .any)<((ks.map fun x=>[AVal.vs 3 (x.map encT)]).length:Int)
     rw[hx1,hlen];show(q:Int)<_;omega
    ·show isC _ _ (((ks.map fun x=>[AVal.vs 3 (x.map encT)]).getD (asI (((x.way.map encI).getD i []).getD 0 .any)).toNat []).getD 0 .any)=true
     rw[hx1]
     show isC _ _ (((ks.map fun x=>[AVal.vs 3 (x.map encT)]).getD q []).getD 0 .any)=true
     rw[hrow];rfl
    ·have hvf:V7 x t=(⟨0,[]⟩,false):=by unfold V7;rw[←hv]
     exact⟨⟨[(4,.ptr 0 0 0),(5,.bool false)],[(0,some (.cells [Yc ⟨0,[]⟩] false))],1⟩,Q0 [2] (by exact rfl) ⟨.refl _,.refl _,trivial⟩ ⟨⟨by decide,_,rfl,.refl _⟩,trivial⟩,_,rfl,[],MN _,by rw[hvf]at hP;exact hP⟩
   ·rw[if_neg (by rintro(h|h);exact hk h;exact hz h)]at hv
    obtain⟨l0,lt,hl0⟩:∃l0 lt,ks.getD q []=l0::lt:=by
     cases h:ks.getD q []with
     |nil=>exact absurd h hz
     |cons a b=>exact⟨a,b,rfl⟩
    rw[hl0]at hrow
    rw[show(Tr.mk ks n s).kids=ks from rfl,hl0]at hv
    rcases l0 with⟨k2,n2,s2⟩
    rw[List.map_cons,QL]at hrow
    have hv2:KV (x.way.drop (i+1)) (.mk k2 n2 s2)=KV x.way t:=hv
    have hx3:=hrow
    have g1:asI (((x.way.map encI).getD i []).getD 0 .any)=q:=by rw[hx1];rfl
    repeat' first|refine And.intro ?_ ?_|(intro h;try first|exact dzi|replace h:=cvi)
    all_goals try exact cz
    ·show isC _ _ (((x.way.map encI).getD i []).getD 0 .any)=true
     rw[hx1];rfl
    ·show asI (((x.way.map encI).getD i []).getD 0 .any)<((ks.map fun x=>[AVal.vs 3 (x.map encT)]).length:Int)
     rw[g1,hlen];omega
    ·show isC _ _ (((ks.map fun x=>[AVal.vs 3 (x.map encT)]).getD (asI (((x.way.map encI).getD i []).getD 0 .any)).toNat []).getD 0 .any)=true
     rw[g1]
     show isC _ _ (((ks.map fun x=>[AVal.vs 3 (x.map encT)]).getD q []).getD 0 .any)=true
     rw[hrow];rfl
    ·exfalso
     rw[List.length_cons]at h
     omega
    ·show asI (((x.way.map encI).getD i []).getD 0 .any)<((ks.map fun x=>[AVal.vs 3 (x.map encT)]).length:Int)
     rw[g1,hlen];omega
    ·show isC _ _ (((ks.map fun x=>[AVal.vs 3 (x.map encT)]).getD (asI (((x.way.map encI).getD i []).getD 0 .any)).toNat []).getD 0 .any)=true
     rw[g1]
     show isC _ _ (((ks.map fun x=>[AVal.vs 3 (x.map encT)]).getD q []).getD 0 .any)=true
     rw[hrow];rfl
    ·have e5:((asR (([[AVal.int .i64 n,.str s,.vs 1 (ks.map fun x=>[AVal.vs 3 (x.map encT)])]].getD 0 []).getD (0+2) .any)).getD (asI (((x.way.map encI).getD ((i:Nat):Int).toNat []).getD 0 .any)).toNat [])=[.vs 3 ([.int .i64 n2,.str s2,.vs 1 (k2.map fun x=>[AVal.vs 3 (x.map encT)])]::lt.map encT)]:=by
      show(ks.map fun x=>[AVal.vs 3 (x.map encT)]).getD (asI (((x.way.map encI).getD i []).getD 0 .any)).toNat []=_
      rw[g1];exact hrow
     conv=>whnf
     rw[e5]
     repeat' first|refine And.intro ?_ ?_|(intro h;try first|exact dzi|replace h:=cvi)
     all_goals try exact cz
     ·show(0:Int)<((([AVal.int .i64 n2,.str s2,.vs 1 (k2.map fun x=>[AVal.vs 3 (x.map encT)])]::lt.map encT).length:Nat):Int)
      rw[List.length_cons];omega
     · repeat' first|refine And.intro ?_ ?_|(intro h;try first|exact dzi|replace h:=cvi)
       all_goals try exact cz
       refine⟨_,vaS x (i+1) (.mk k2 n2 s2),?_,⟨i+1,.mk k2 n2 s2,⟨by omega,rfl,hv2⟩,rfl⟩,by omega⟩
       unfold vaS
       rw[QL]
       exact Q0 [0,1,2] (by exact rfl) ⟨.refl _,.refl _,.refl _,.refl _,.refl _,.refl _,Qa (by first|rfl|omega),trivial⟩ ⟨⟨by decide,_,rfl,.refl _⟩,⟨by decide,_,rfl,.refl _⟩,⟨by decide,_,rfl,.refl _⟩,trivial⟩
 ·obtain rfl:i=x.way.length:=by omega
  rw[List.drop_length,KV]at hv
  have hvf:V7 x t=(⟨n,s⟩,true):=by unfold V7;rw[←hv];rfl
  repeat' first|refine And.intro ?_ ?_|(intro h;try first|exact dz|replace h:=cv)
  all_goals try exact cz
  exact⟨⟨[(4,.ptr 0 0 0),(5,.bool true)],[(0,some (.cells [Yc ⟨n,s⟩] false))],1⟩,Q0 [2] (by exact rfl) ⟨.refl _,.refl _,trivial⟩ ⟨⟨by decide,_,rfl,.refl _⟩,trivial⟩,_,rfl,[],MN _,by rw[hvf]at hP;exact hP⟩
def CS:SpecT:=fun args H nx Post=>∃(x:Ask) (t:Tr),args=[.agg (encA x),.agg (encT t)]∧H=[]∧nx=0∧(x.way.length≤1000∧ ∀k,0≤x.way.getD k 0)∧Post (.tup [.agg (Yc (V7 x t).1),.bool (V7 x t).2]) [] 1
theorem EK[Syms]:CS.ok Tryz.prog 89:=by
 rintro args H nx Post ⟨x,t,rfl,rfl,rfl,⟨h1,h2⟩,h⟩
 exact Xr.forget (Zr QC Qz Qe Qk QV (Ii x t h1 h2 h))
end
section
set_option maxRecDepth 100000
set_option maxHeartbeats 4000000
structure Cd where
 path:List UInt8
 op:Int
 v:Vl
 deriving Inhabited
def encC(c:Cd):List AVal:=[.str c.path,.int .i64 c.op]++Yc c.v
abbrev vC(cs:List Cd):AVal:=vT 4 encC default cs
def F7(fs:List Fd)(c:Cd):Lf:=(Q2 fs).getD (Wb fs c.path).toNat default
def Xu(fs:List Fd)(c:Cd):Int:=
 if Wb fs c.path<0 then 2 else if 0<(F7 fs c).r∨c.op<0∨5<c.op∨(c.op≠5∧YG (F7 fs c).kind c.v.n c.v.s=false)then 3 else 0
def XH(fs:List Fd)(c:Cd):Ask:=⟨Wb fs c.path,F7 fs c,UB fs c.path,c.path,c.op,c.v⟩
def WE(fs:List Fd):List Cd→Int
 |[]=>0
 |c::t=>if Xu fs c=0 then WE fs t else Xu fs c
def XG(fs:List Fd)(cs:List Cd):Int:=if 8<cs.length then 4 else WE fs cs
def Xq(fs:List Fd)(cs:List Cd):List Ask:=if XG fs cs=0 then cs.map (XH fs)else[]
structure QOk(fs:List Fd):Prop where
 ok:FsOk fs
 pos:0<fs.length
 kind:∀k,k<(Q2 fs).length→((Q2 fs).getD k default).kind≠0
 path:∀k,k<(Q2 fs).length→(Xc fs k).length≤1000∧ ∀j,j<(Xc fs k).length→((Xc fs k).getD j 0).toNat<128
theorem Hm{fs:List Fd}{p:List UInt8}:∀{n:Nat},n≤(Q2 fs).length→0≤ixP fs p n→ ∃k,k<(Q2 fs).length∧ixP fs p n=(k:Int)∧Xc fs k=p
 |0,_,h=>absurd h (by show ¬(0:Int)≤ -1;decide)
 |n+1,hn,h=>by
  rw[ixP]at h ⊢
  by_cases hp:Xc fs ((Q2 fs).length-(n+1))=p
  ·rw[if_pos hp]
   exact⟨_,by omega,rfl,hp⟩
  ·rw[if_neg hp]at h ⊢
   exact Hm (by omega) h
theorem Gi{fs:List Fd}{p:List UInt8}(h:0≤Wb fs p):∃k,k<(Q2 fs).length∧Wb fs p=(k:Int)∧Xc fs k=p:=Hm (Nat.le_refl _) h
theorem fA(l:List Ask):Qg (l.map encA):=X1 (fun a x hx=>by simp[encA,QQ,Yc]at hx;rcases hx with rfl|rfl|rfl|rfl|rfl|rfl|rfl|rfl|rfl|rfl<;>rfl) l
theorem gA(l:List Ask)(x:Ask):List.take l.length (List.drop 0 (l.map encA))++[encA x]=(l++[x]).map encA:=by
 rw[List.drop_zero,List.take_of_length_le (by simp),List.map_append];rfl
abbrev fnA(fs:List Fd):AVal:=.func 45 [.vp [rLs (Q2 fs)] 0,.vp [rFs fs] 0]
def akS(fs:List Fd)(cs:List Cd)(i:Nat)(e:Int)(out:List Ask):St:=⟨[(2,.vp [rFs fs] 0),(4,XR 0 10 out),(5,.int .i64 e),(6,.vp [rLs (Q2 fs)] 0),(7,fnA fs),(17,vC cs),(18,.int .i64 cs.length),(19,.int .i64 i)],[(0,Xn encA out)],1⟩
abbrev Lj:CallT:=Qu 49 (ZJ S_sound) (Qu 50 (ZJ (D5 S_way)) Ql)
theorem HY[Syms]:Lj.det Tryz.prog:=ZL D3 (ZL EJ.see Qe)
theorem Li[Syms]:Lj.ok Tryz.prog:=Q8 D3 (Q8 EJ.see Qk)
abbrev cAk:CallT:=Qu 44 (ZJ S_leaves) (Qu 45 (ZJ S_find) Lj)
theorem NM[Syms]:cAk.ok Tryz.prog:=Q8 Ec (Q8 Q04 Li)
theorem O8(fs:List Fd):SeeV (vF fs) (rFs fs):=.un _ _ _ _ (Xw encF default fs).symm
theorem O7(l:List Lf):SeeV (vL l) (rLs l):=.un _ _ _ _ (Xw QQ default l).symm
theorem NX[Syms]{N nx:Nat}{e:Env}{H:Heap}{fs:List Fd}{cs:List Cd}(he:GE (rho [0,1] nx) e [(2,.ptr 0 0 0),(4,.nils),(5,.int .i64 4),(6,.ptr 1 0 0),(7,.func 45 [.ptr 1 0 0,.ptr 0 0 0]),(17,vC cs),(18,.int .i64 cs.length),(19,.int .i64 (0:Nat))])
 (hn:V2 0 nx [0,1]=true) (h0:H.get 0=some (.cells [[vF fs]] false)) (h1:H.get 1=some (.cells [[vL (Q2 fs)]] false)):Reb 0 N ⟨e,H,nx⟩ (akS fs cs 0 4 []):=by
 have f1:∀v:AVal,v.flat=true→ ∀q∈[[v]],∀y∈q,y.flat=true:=fun v hv q hq y hy=>by simp at hq;subst hq;simp at hy;subst hy;exact hv
 refine Reb.trans (Q0 (H3:=[(0,some (.cells [[vF fs]] false)),(1,some (.cells [[vL (Q2 fs)]] false))]) [0,1] hn he ⟨⟨by decide,_,h0,Qo (f1 _ rfl)⟩,⟨by decide,_,h1,Qo (f1 _ rfl)⟩,trivial⟩) ?_
 refine Reb.trans (s':=⟨[(2,.vp [rFs fs] 0),(4,.nils),(5,.int .i64 4),(6,.ptr 1 0 0),(7,.func 45 [.ptr 1 0 0,.vp [rFs fs] 0]),(17,vC cs),(18,.int .i64 cs.length),(19,.int .i64 (0:Nat))],[(1,some (.cells [[vL (Q2 fs)]] false))],2⟩) (Z2 (n:=0) (rows:=[[vF fs]]) rfl (f1 _ rfl) ⟨.pt 0 0 [vF fs] [rFs fs] rfl ⟨O8 fs,trivial⟩,.same _,.same _,.same _,.func ⟨.same _,.pt 0 0 [vF fs] [rFs fs] rfl ⟨O8 fs,trivial⟩,trivial⟩,.same _,.same _,.same _,trivial⟩ ⟨⟨by decide,_,rfl,.same _⟩,trivial⟩) ?_
 refine Reb.trans (s':=⟨[(2,.vp [rFs fs] 0),(4,.nils),(5,.int .i64 4),(6,.vp [rLs (Q2 fs)] 0),(7,fnA fs),(17,vC cs),(18,.int .i64 cs.length),(19,.int .i64 (0:Nat))],[],2⟩) (Z2 (n:=1) (rows:=[[vL (Q2 fs)]]) rfl (f1 _ rfl) ⟨.same _,.same _,.same _,.pt 0 0 [vL (Q2 fs)] [rLs (Q2 fs)] rfl ⟨O7 _,trivial⟩,.func ⟨.pt 0 0 [vL (Q2 fs)] [rLs (Q2 fs)] rfl ⟨O7 _,trivial⟩,.same _,trivial⟩,.same _,.same _,.same _,trivial⟩ trivial) ?_
 exact Q0 [0] (by exact rfl) ⟨.refl _,.refl _,.refl _,.refl _,.refl _,.refl _,.refl _,.refl _,trivial⟩ trivial
def akT(fs:List Fd)(cs:List Cd)(i:Nat)(e:Int)(out:List Ask)(c:Cd):St:=⟨[(2,.vp [rFs fs] 0),(4,XR 0 10 out),(5,.int .i64 e),(6,.vp [rLs (Q2 fs)] 0),(7,fnA fs),(9,.ptr 2 0 0),(17,vC cs),(18,.int .i64 cs.length),(19,.int .i64 i)],[(0,Xn encA out),(2,some (.cells [[.str c.path,.int .i64 c.op,.int .i64 c.v.n,.str c.v.s]] false))],3⟩
noncomputable def P7:Nat→Nat→Pl:=YK [(21,7)] (Z1 plt)
theorem NQ[Syms](fs:List Fd)(cs:List Cd)(hQ:QOk fs)(hc:cs.length≤1000)(hs:∀i,(cs.getD i default).v.s.length≤9223372036854775807):
 fnT Lj cAk (QW fns) (QP tys) P7 100 21 [vF fs,vC cs] [] 0 (fun v H _=>v= .tup [.vs 10 ((Xq fs cs).map encA),.int .i64 (XG fs cs)]∧H=[]):=by
 have hl:=hQ.ok.len
 have hle:(Q2 fs).length≤fs.length:=ZE _ _ _
 repeat' first|refine And.intro ?_ ?_|(intro h;try first|exact dz|replace h:=cv)
 all_goals try exact cz
 refine .inl ?_
 repeat' first|refine And.intro ?_ ?_|(intro h;try first|exact dz|replace h:=cv)
 all_goals try exact cz
 refine⟨fs,rfl,hQ.ok,?_⟩
 by_cases h8:8<cs.length
 ·have hE:XG fs cs=4:=if_pos h8
  have hF:Xq fs cs=[]:=if_neg (by rw[hE];decide)
  rw[hE,hF]
  repeat' first|refine And.intro ?_ ?_|(intro h;try first|exact dz|replace h:=cv)
  all_goals try exact cz
  exact⟨⟨[(4,.vs 10 []),(5,.int .i64 4)],[],0⟩,Q0 [] (by exact rfl) ⟨.zero _ _ rfl,.refl _,trivial⟩ trivial,_,rfl,rfl,rfl⟩
 ·have hE:XG fs cs=WE fs cs:=if_neg h8
  repeat' first|refine And.intro ?_ ?_|(intro h;try first|exact dz|replace h:=cv)
  all_goals try exact cz
  refine⟨fun m s=>∃(i:Nat) (e:Int) (out:List Ask),(i≤cs.length∧m=cs.length-i∧WE fs (cs.drop i)=WE fs cs∧out=(cs.take i).map (XH fs))∧s=akS fs cs i e out,⟨_,akS fs cs 0 4 [],NX ⟨.refl _,.refl _,.refl _,.refl _,.refl _,.refl _,.refl _,.refl _,trivial⟩ (by exact rfl) rfl rfl,0,4,[],⟨by omega,rfl,rfl,rfl⟩,rfl⟩,?_⟩
  rintro m s ⟨i,e,out,⟨hi,rfl,hv,ho⟩,rfl⟩
  unfold akS
  by_cases h1:i<cs.length
  ·have hd:cs.drop i=cs.getD i default::cs.drop (i+1):=by
    rw[List.drop_eq_getElem_cons h1,List.getD_eq_getElem?_getD,List.getElem?_eq_getElem h1];rfl
   have ht:cs.take (i+1)=cs.take i++[cs.getD i default]:=by
    rw[List.take_add_one,List.getElem?_eq_getElem h1,List.getD_eq_getElem?_getD,List.getElem?_eq_getElem h1];rfl
   rw[hd,WE]at hv
   have hs1:=hs i
   cases out with
   |nil=>
    repeat' first|refine And.intro ?_ ?_|(intro h;try first|exact dz|replace h:=cv)
    all_goals try exact cz
    refine⟨akT fs cs i e [] (cs.getD i default),?_,?_⟩
    ·unfold akT
     exact(Yh (nx':=5) (by omega)).trans (Q0 [0,3,1] (by exact rfl) ⟨.refl _,.refl _,.refl _,.refl _,.refl _,.refl _,.refl _,.refl _,.refl _,trivial⟩ ⟨⟨by decide,_,rfl,.refl _⟩,trivial⟩)
    unfold akT
    generalize cs.getD i default=c at *
    have hx2:∀rows,asR (.vs 4 rows)=rows:=fun _=>rfl
    by_cases hn:Wb fs c.path<0
    ·have hw:Xu fs c=2:=if_pos hn
     rw[if_neg (by rw[hw];decide)]at hv
     have hx1:(0:Int)=0:=rfl
     have hx3:(0:Int)=0:=rfl
     have hx4:(0:Int)=0:=rfl
     have hE2:XG fs cs=2:=by rw[hE,←hv,hw]
     have hF:Xq fs cs=[]:=if_neg (by rw[hE2];decide)
     rw[hE2,hF]
     repeat' first|refine And.intro ?_ ?_|(intro h;try first|exact dzi|replace h:=cvi)
     all_goals try exact cz
     refine⟨fs,c.path,rfl,hQ.ok,?_⟩
     repeat' first|refine And.intro ?_ ?_|(intro h;try first|exact dzi|replace h:=cvi)
     all_goals try exact cz
     exact⟨⟨[(4,.vs 10 []),(5,.int .i64 2)],[],0⟩,Q0 [] (by exact rfl) ⟨.zero _ _ rfl,.refl _,trivial⟩ trivial,_,rfl,rfl,rfl⟩
    ·obtain⟨k,hk,hkf,hp⟩:=Gi (Int.not_lt.1 hn)
     have hkind:=hQ.kind k hk
     have hpa:=hp▸hQ.path k hk
     have hrow:((Q2 fs).map QQ).getD k []=QQ ((Q2 fs).getD k default):=U4 QQ default hk
     have hlf:F7 fs c=(Q2 fs).getD k default:=by unfold F7;rw[hkf];rfl
     generalize(Q2 fs).getD k default=lf at *
     have hak:XH fs c=⟨k,lf,UB fs c.path,c.path,c.op,c.v⟩:=by unfold XH;rw[hkf,hlf]
     have hx1:=hrow
     have hx3:(0:Int)=0:=rfl
     have hx4:(0:Int)=0:=rfl
     have sA:((k:Nat):Int)<((asR ([rLs (Q2 fs)].getD 0 .any)).length:Int):=by
      show(k:Int)<(((Q2 fs).map QQ).length:Int)
      rw[List.length_map];omega
     have e5:(asR ([rLs (Q2 fs)].getD 0 .any)).getD ((k:Nat):Int).toNat []=QQ lf:=hrow
     have sB1:isC true (AVal.int .i64 0) (((asR ([rLs (Q2 fs)].getD 0 .any)).getD ((k:Nat):Int).toNat []).getD 1 .any)=true:=by rw[e5];rfl
     have sB3:isC true (AVal.int .i64 0) (((asR ([rLs (Q2 fs)].getD 0 .any)).getD ((k:Nat):Int).toNat []).getD 3 .any)=true:=by rw[e5];rfl
     have sB0:isC true (AVal.int .i64 0) (((asR ([rLs (Q2 fs)].getD 0 .any)).getD ((k:Nat):Int).toNat []).getD 0 .any)=true:=by rw[e5];rfl
     have sR:Mj true [AVal.int .i64 0,AVal.int .i64 0,AVal.int .i64 0,AVal.int .i64 0] ((asR ([rLs (Q2 fs)].getD 0 .any)).getD ((k:Nat):Int).toNat []) 0=true:=by rw[e5];rfl
     have sB2:isC true (AVal.int .i64 0) (((asR ([rLs (Q2 fs)].getD 0 .any)).getD ((k:Nat):Int).toNat []).getD 2 .any)=true:=by rw[e5];rfl
     by_cases hbad:0<lf.r∨c.op<0∨5<c.op∨(c.op≠5∧YG lf.kind c.v.n c.v.s=false)
     ·have hw:Xu fs c=3:=by unfold Xu;rw[if_neg hn,hlf,if_pos hbad]
      rw[if_neg (by rw[hw];decide)]at hv
      have hE2:XG fs cs=3:=by rw[hE,←hv,hw]
      have hF:Xq fs cs=[]:=if_neg (by rw[hE2];decide)
      rw[hE2,hF]
      by_cases b1:0<lf.r
      · repeat' first|refine And.intro ?_ ?_|(intro h;try first|exact dzi|replace h:=cvi)
        all_goals try exact cz
        refine⟨fs,c.path,rfl,hQ.ok,?_⟩
        rw[hkf]
        repeat' first|refine And.intro ?_ ?_|(intro h;try first|exact dzi|replace h:=cvi)
        all_goals try exact cz
        all_goals(conv=>whnf)
        all_goals(try first|exact sA|exact sB1|exact sB3)
        exact⟨⟨[(4,.vs 10 []),(5,.int .i64 3)],[],0⟩,Q0 [] (by exact rfl) ⟨.zero _ _ rfl,.refl _,trivial⟩ trivial,_,rfl,rfl,rfl⟩
      ·by_cases b2:c.op<0
       · repeat' first|refine And.intro ?_ ?_|(intro h;try first|exact dzi|replace h:=cvi)
         all_goals try exact cz
         refine⟨fs,c.path,rfl,hQ.ok,?_⟩
         rw[hkf]
         repeat' first|refine And.intro ?_ ?_|(intro h;try first|exact dzi|replace h:=cvi)
         all_goals try exact cz
         all_goals(conv=>whnf)
         all_goals(try first|exact sA|exact sB1|exact sB3)
         exact⟨⟨[(4,.vs 10 []),(5,.int .i64 3)],[],0⟩,Q0 [] (by exact rfl) ⟨.zero _ _ rfl,.refl _,trivial⟩ trivial,_,rfl,rfl,rfl⟩
       ·by_cases b3:5<c.op
        · repeat' first|refine And.intro ?_ ?_|(intro h;try first|exact dzi|replace h:=cvi)
          all_goals try exact cz
          refine⟨fs,c.path,rfl,hQ.ok,?_⟩
          rw[hkf]
          repeat' first|refine And.intro ?_ ?_|(intro h;try first|exact dzi|replace h:=cvi)
          all_goals try exact cz
          all_goals(conv=>whnf)
          all_goals(try first|exact sA|exact sB1|exact sB3)
          exact⟨⟨[(4,.vs 10 []),(5,.int .i64 3)],[],0⟩,Q0 [] (by exact rfl) ⟨.zero _ _ rfl,.refl _,trivial⟩ trivial,_,rfl,rfl,rfl⟩
        ·obtain⟨b4,b5⟩:=hbad.resolve_left b1 |>.resolve_left b2 |>.resolve_left b3
         repeat' first|refine And.intro ?_ ?_|(intro h;try first|exact dzi|replace h:=cvi)
         all_goals try exact cz
         refine⟨fs,c.path,rfl,hQ.ok,?_⟩
         rw[hkf]
         repeat' first|refine And.intro ?_ ?_|(intro h;try first|exact dzi|replace h:=cvi)
         all_goals try exact cz
         all_goals(conv=>whnf)
         all_goals(try first|exact sA|exact sB1|exact sB3)
         rw[e5]
         refine⟨lf.kind,c.v.n,c.v.s,rfl,⟨hkind,hs1⟩,?_⟩
         rw[b5]
         repeat' first|refine And.intro ?_ ?_|(intro h;try first|exact dzi|replace h:=cvi)
         all_goals try exact cz
         all_goals(conv=>whnf)
         exact⟨⟨[(4,.vs 10 []),(5,.int .i64 3)],[],0⟩,Q0 [] (by exact rfl) ⟨.zero _ _ rfl,.refl _,trivial⟩ trivial,_,rfl,rfl,rfl⟩
     ·have hw:Xu fs c=0:=by unfold Xu;rw[if_neg hn,hlf,if_neg hbad]
      rw[if_pos hw]at hv
      have b1:¬0<lf.r:=fun h=>hbad (.inl h)
      have b2:¬c.op<0:=fun h=>hbad (.inr (.inl h))
      have b3:¬5<c.op:=fun h=>hbad (.inr (.inr (.inl h)))
      by_cases b4:c.op=5
      · repeat' first|refine And.intro ?_ ?_|(intro h;try first|exact dzi|replace h:=cvi)
        all_goals try exact cz
        refine⟨fs,c.path,rfl,hQ.ok,?_⟩
        rw[hkf]
        repeat' first|refine And.intro ?_ ?_|(intro h;try first|exact dzi|replace h:=cvi)
        all_goals try exact cz
        all_goals(conv=>whnf)
        all_goals(try first|exact sA|exact sB1|exact sB3)
        all_goals(try first|exact sA|exact sR|exact sB0|exact sB1|exact sB2|exact sB3)
        rw[e5]
        refine⟨[vF fs,.str c.path],⟨D6 fs,.same _,trivial⟩,fs,c.path,rfl,⟨hQ.ok,hQ.pos,hpa.1,hpa.2⟩,?_⟩
        repeat' first|refine And.intro ?_ ?_|(intro h;try first|exact dzi|replace h:=cvi)
        all_goals try exact cz
        refine⟨_,akS fs cs (i+1) 3 ([]++[⟨k,lf,UB fs c.path,c.path,c.op,c.v⟩]),?_,⟨i+1,3,_,⟨by omega,rfl,hv,by rw[ht,List.map_append,←ho,←hak];rfl⟩,rfl⟩,by omega⟩
        unfold akS
        exact Q0 [167503724548] (by exact rfl) ⟨.refl _,.cap _ _ _ _ _,.refl _,.refl _,.refl _,.refl _,.refl _,Qa (by first|rfl|omega),trivial⟩ ⟨⟨by decide,_,rfl,Q1 (by exact rfl) (fA _)⟩,trivial⟩
      ·have b5:YG lf.kind c.v.n c.v.s=true:=by
        cases h:YG lf.kind c.v.n c.v.s with
        |true=>rfl
        |false=>exact absurd (.inr (.inr (.inr ⟨b4,h⟩))) hbad
       repeat' first|refine And.intro ?_ ?_|(intro h;try first|exact dzi|replace h:=cvi)
       all_goals try exact cz
       refine⟨fs,c.path,rfl,hQ.ok,?_⟩
       rw[hkf]
       repeat' first|refine And.intro ?_ ?_|(intro h;try first|exact dzi|replace h:=cvi)
       all_goals try exact cz
       all_goals(conv=>whnf)
       all_goals(try first|exact sA|exact sB1|exact sB3)
       rw[e5]
       refine⟨lf.kind,c.v.n,c.v.s,rfl,⟨hkind,hs1⟩,?_⟩
       rw[b5]
       repeat' first|refine And.intro ?_ ?_|(intro h;try first|exact dzi|replace h:=cvi)
       all_goals try exact cz
       all_goals(conv=>whnf)
       all_goals(try first|exact sA|exact sR|exact sB0|exact sB1|exact sB2|exact sB3)
       rw[e5]
       refine⟨[vF fs,.str c.path],⟨D6 fs,.same _,trivial⟩,fs,c.path,rfl,⟨hQ.ok,hQ.pos,hpa.1,hpa.2⟩,?_⟩
       repeat' first|refine And.intro ?_ ?_|(intro h;try first|exact dzi|replace h:=cvi)
       all_goals try exact cz
       refine⟨_,akS fs cs (i+1) 3 ([]++[⟨k,lf,UB fs c.path,c.path,c.op,c.v⟩]),?_,⟨i+1,3,_,⟨by omega,rfl,hv,by rw[ht,List.map_append,←ho,←hak];rfl⟩,rfl⟩,by omega⟩
       unfold akS
       exact Q0 [167503724548] (by exact rfl) ⟨.refl _,.cap _ _ _ _ _,.refl _,.refl _,.refl _,.refl _,.refl _,Qa (by first|rfl|omega),trivial⟩ ⟨⟨by decide,_,rfl,Q1 (by exact rfl) (fA _)⟩,trivial⟩
   |cons o0 ot=>
    have hol:(o0::ot).length≤1000:=by rw[ho,List.length_map,List.length_take];omega
    repeat' first|refine And.intro ?_ ?_|(intro h;try first|exact dz|replace h:=cv)
    all_goals try exact cz
    refine⟨akT fs cs i e (o0::ot) (cs.getD i default),?_,?_⟩
    ·unfold akT
     exact(Yh (nx':=5) (by omega)).trans (Q0 [0,3,1] (by exact rfl) ⟨.refl _,.refl _,.refl _,.refl _,.refl _,.refl _,.refl _,.refl _,.refl _,trivial⟩ ⟨⟨by decide,_,rfl,Qo (fA _)⟩,⟨by decide,_,rfl,.refl _⟩,trivial⟩)
    unfold akT
    generalize cs.getD i default=c at *
    have hx2:∀rows,asR (.vs 4 rows)=rows:=fun _=>rfl
    by_cases hn:Wb fs c.path<0
    ·have hw:Xu fs c=2:=if_pos hn
     rw[if_neg (by rw[hw];decide)]at hv
     have hx1:(0:Int)=0:=rfl
     have hx3:(0:Int)=0:=rfl
     have hx4:(0:Int)=0:=rfl
     have hE2:XG fs cs=2:=by rw[hE,←hv,hw]
     have hF:Xq fs cs=[]:=if_neg (by rw[hE2];decide)
     rw[hE2,hF]
     repeat' first|refine And.intro ?_ ?_|(intro h;try first|exact dzi|replace h:=cvi)
     all_goals try exact cz
     refine⟨fs,c.path,rfl,hQ.ok,?_⟩
     repeat' first|refine And.intro ?_ ?_|(intro h;try first|exact dzi|replace h:=cvi)
     all_goals try exact cz
     exact⟨⟨[(4,.vs 10 []),(5,.int .i64 2)],[],0⟩,Q0 [] (by exact rfl) ⟨.zero _ _ rfl,.refl _,trivial⟩ trivial,_,rfl,rfl,rfl⟩
    ·obtain⟨k,hk,hkf,hp⟩:=Gi (Int.not_lt.1 hn)
     have hkind:=hQ.kind k hk
     have hpa:=hp▸hQ.path k hk
     have hrow:((Q2 fs).map QQ).getD k []=QQ ((Q2 fs).getD k default):=U4 QQ default hk
     have hlf:F7 fs c=(Q2 fs).getD k default:=by unfold F7;rw[hkf];rfl
     generalize(Q2 fs).getD k default=lf at *
     have hak:XH fs c=⟨k,lf,UB fs c.path,c.path,c.op,c.v⟩:=by unfold XH;rw[hkf,hlf]
     have hx1:=hrow
     have hx3:(0:Int)=0:=rfl
     have hx4:(0:Int)=0:=rfl
     have sA:((k:Nat):Int)<((asR ([rLs (Q2 fs)].getD 0 .any)).length:Int):=by
      show(k:Int)<(((Q2 fs).map QQ).length:Int)
      rw[List.length_map];omega
     have e5:(asR ([rLs (Q2 fs)].getD 0 .any)).getD ((k:Nat):Int).toNat []=QQ lf:=hrow
     have sB1:isC true (AVal.int .i64 0) (((asR ([rLs (Q2 fs)].getD 0 .any)).getD ((k:Nat):Int).toNat []).getD 1 .any)=true:=by rw[e5];rfl
     have sB3:isC true (AVal.int .i64 0) (((asR ([rLs (Q2 fs)].getD 0 .any)).getD ((k:Nat):Int).toNat []).getD 3 .any)=true:=by rw[e5];rfl
     have sB0:isC true (AVal.int .i64 0) (((asR ([rLs (Q2 fs)].getD 0 .any)).getD ((k:Nat):Int).toNat []).getD 0 .any)=true:=by rw[e5];rfl
     have sR:Mj true [AVal.int .i64 0,AVal.int .i64 0,AVal.int .i64 0,AVal.int .i64 0] ((asR ([rLs (Q2 fs)].getD 0 .any)).getD ((k:Nat):Int).toNat []) 0=true:=by rw[e5];rfl
     have sB2:isC true (AVal.int .i64 0) (((asR ([rLs (Q2 fs)].getD 0 .any)).getD ((k:Nat):Int).toNat []).getD 2 .any)=true:=by rw[e5];rfl
     by_cases hbad:0<lf.r∨c.op<0∨5<c.op∨(c.op≠5∧YG lf.kind c.v.n c.v.s=false)
     ·have hw:Xu fs c=3:=by unfold Xu;rw[if_neg hn,hlf,if_pos hbad]
      rw[if_neg (by rw[hw];decide)]at hv
      have hE2:XG fs cs=3:=by rw[hE,←hv,hw]
      have hF:Xq fs cs=[]:=if_neg (by rw[hE2];decide)
      rw[hE2,hF]
      by_cases b1:0<lf.r
      · repeat' first|refine And.intro ?_ ?_|(intro h;try first|exact dzi|replace h:=cvi)
        all_goals try exact cz
        refine⟨fs,c.path,rfl,hQ.ok,?_⟩
        rw[hkf]
        repeat' first|refine And.intro ?_ ?_|(intro h;try first|exact dzi|replace h:=cvi)
        all_goals try exact cz
        all_goals(conv=>whnf)
        all_goals(try first|exact sA|exact sB1|exact sB3)
        exact⟨⟨[(4,.vs 10 []),(5,.int .i64 3)],[],0⟩,Q0 [] (by exact rfl) ⟨.zero _ _ rfl,.refl _,trivial⟩ trivial,_,rfl,rfl,rfl⟩
      ·by_cases b2:c.op<0
       · repeat' first|refine And.intro ?_ ?_|(intro h;try first|exact dzi|replace h:=cvi)
         all_goals try exact cz
         refine⟨fs,c.path,rfl,hQ.ok,?_⟩
         rw[hkf]
         repeat' first|refine And.intro ?_ ?_|(intro h;try first|exact dzi|replace h:=cvi)
         all_goals try exact cz
         all_goals(conv=>whnf)
         all_goals(try first|exact sA|exact sB1|exact sB3)
         exact⟨⟨[(4,.vs 10 []),(5,.int .i64 3)],[],0⟩,Q0 [] (by exact rfl) ⟨.zero _ _ rfl,.refl _,trivial⟩ trivial,_,rfl,rfl,rfl⟩
       ·by_cases b3:5<c.op
        · repeat' first|refine And.intro ?_ ?_|(intro h;try first|exact dzi|replace h:=cvi)
          all_goals try exact cz
          refine⟨fs,c.path,rfl,hQ.ok,?_⟩
          rw[hkf]
          repeat' first|refine And.intro ?_ ?_|(intro h;try first|exact dzi|replace h:=cvi)
          all_goals try exact cz
          all_goals(conv=>whnf)
          all_goals(try first|exact sA|exact sB1|exact sB3)
          exact⟨⟨[(4,.vs 10 []),(5,.int .i64 3)],[],0⟩,Q0 [] (by exact rfl) ⟨.zero _ _ rfl,.refl _,trivial⟩ trivial,_,rfl,rfl,rfl⟩
        ·obtain⟨b4,b5⟩:=hbad.resolve_left b1 |>.resolve_left b2 |>.resolve_left b3
         repeat' first|refine And.intro ?_ ?_|(intro h;try first|exact dzi|replace h:=cvi)
         all_goals try exact cz
         refine⟨fs,c.path,rfl,hQ.ok,?_⟩
         rw[hkf]
         repeat' first|refine And.intro ?_ ?_|(intro h;try first|exact dzi|replace h:=cvi)
         all_goals try exact cz
         all_goals(conv=>whnf)
         all_goals(try first|exact sA|exact sB1|exact sB3)
         rw[e5]
         refine⟨lf.kind,c.v.n,c.v.s,rfl,⟨hkind,hs1⟩,?_⟩
         rw[b5]
         repeat' first|refine And.intro ?_ ?_|(intro h;try first|exact dzi|replace h:=cvi)
         all_goals try exact cz
         all_goals(conv=>whnf)
         exact⟨⟨[(4,.vs 10 []),(5,.int .i64 3)],[],0⟩,Q0 [] (by exact rfl) ⟨.zero _ _ rfl,.refl _,trivial⟩ trivial,_,rfl,rfl,rfl⟩
     ·have hw:Xu fs c=0:=by unfold Xu;rw[if_neg hn,hlf,if_neg hbad]
      rw[if_pos hw]at hv
      have b1:¬0<lf.r:=fun h=>hbad (.inl h)
      have b2:¬c.op<0:=fun h=>hbad (.inr (.inl h))
      have b3:¬5<c.op:=fun h=>hbad (.inr (.inr (.inl h)))
      by_cases b4:c.op=5
      · repeat' first|refine And.intro ?_ ?_|(intro h;try first|exact dzi|replace h:=cvi)
        all_goals try exact cz
        refine⟨fs,c.path,rfl,hQ.ok,?_⟩
        rw[hkf]
        repeat' first|refine And.intro ?_ ?_|(intro h;try first|exact dzi|replace h:=cvi)
        all_goals try exact cz
        all_goals(conv=>whnf)
        all_goals(try first|exact sA|exact sB1|exact sB3)
        all_goals(try first|exact sA|exact sR|exact sB0|exact sB1|exact sB2|exact sB3)
        rw[e5]
        refine⟨[vF fs,.str c.path],⟨D6 fs,.same _,trivial⟩,fs,c.path,rfl,⟨hQ.ok,hQ.pos,hpa.1,hpa.2⟩,?_⟩
        repeat' first|refine And.intro ?_ ?_|(intro h;try first|exact dzi|replace h:=cvi)
        all_goals try exact cz
        refine⟨_,akS fs cs (i+1) 3 ((o0::ot)++[⟨k,lf,UB fs c.path,c.path,c.op,c.v⟩]),?_,⟨i+1,3,_,⟨by omega,rfl,hv,by rw[ht,List.map_append,←ho,←hak];rfl⟩,rfl⟩,by omega⟩
        unfold akS
        exact Q0 [167503724548] (by exact rfl) ⟨.refl _,Q3 (by simp),.refl _,.refl _,.refl _,.refl _,.refl _,Qa (by first|rfl|omega),trivial⟩ ⟨⟨by decide,_,rfl,Q1 (by exact gA (o0::ot) ⟨k,lf,UB fs c.path,c.path,c.op,c.v⟩) (fA _)⟩,trivial⟩
      ·have b5:YG lf.kind c.v.n c.v.s=true:=by
        cases h:YG lf.kind c.v.n c.v.s with
        |true=>rfl
        |false=>exact absurd (.inr (.inr (.inr ⟨b4,h⟩))) hbad
       repeat' first|refine And.intro ?_ ?_|(intro h;try first|exact dzi|replace h:=cvi)
       all_goals try exact cz
       refine⟨fs,c.path,rfl,hQ.ok,?_⟩
       rw[hkf]
       repeat' first|refine And.intro ?_ ?_|(intro h;try first|exact dzi|replace h:=cvi)
       all_goals try exact cz
       all_goals(conv=>whnf)
       all_goals(try first|exact sA|exact sB1|exact sB3)
       rw[e5]
       refine⟨lf.kind,c.v.n,c.v.s,rfl,⟨hkind,hs1⟩,?_⟩
       rw[b5]
       repeat' first|refine And.intro ?_ ?_|(intro h;try first|exact dzi|replace h:=cvi)
       all_goals try exact cz
       all_goals(conv=>whnf)
       all_goals(try first|exact sA|exact sR|exact sB0|exact sB1|exact sB2|exact sB3)
       rw[e5]
       refine⟨[vF fs,.str c.path],⟨D6 fs,.same _,trivial⟩,fs,c.path,rfl,⟨hQ.ok,hQ.pos,hpa.1,hpa.2⟩,?_⟩
       repeat' first|refine And.intro ?_ ?_|(intro h;try first|exact dzi|replace h:=cvi)
       all_goals try exact cz
       refine⟨_,akS fs cs (i+1) 3 ((o0::ot)++[⟨k,lf,UB fs c.path,c.path,c.op,c.v⟩]),?_,⟨i+1,3,_,⟨by omega,rfl,hv,by rw[ht,List.map_append,←ho,←hak];rfl⟩,rfl⟩,by omega⟩
       unfold akS
       exact Q0 [167503724548] (by exact rfl) ⟨.refl _,Q3 (by simp),.refl _,.refl _,.refl _,.refl _,.refl _,Qa (by first|rfl|omega),trivial⟩ ⟨⟨by decide,_,rfl,Q1 (by exact gA (o0::ot) ⟨k,lf,UB fs c.path,c.path,c.op,c.v⟩) (fA _)⟩,trivial⟩
  ·obtain rfl:i=cs.length:=by omega
   rw[List.drop_length,WE]at hv
   have hE2:XG fs cs=0:=hE.trans hv.symm
   have hF:Xq fs cs=out:=by rw[Xq,if_pos hE2,ho,List.take_length]
   rw[hE2,hF]
   cases out with
   |nil=>
    repeat' first|refine And.intro ?_ ?_|(intro h;try first|exact dz|replace h:=cv)
    all_goals try exact cz
    exact⟨⟨[(4,.vs 10 []),(5,.int .i64 0)],[],0⟩,Q0 [] (by exact rfl) ⟨.zero _ _ rfl,.refl _,trivial⟩ trivial,_,rfl,rfl,rfl⟩
   |cons o0 ot=>
    repeat' first|refine And.intro ?_ ?_|(intro h;try first|exact dz|replace h:=cv)
    all_goals try exact cz
    refine⟨⟨[(4,.vs 10 ((o0::ot).map encA)),(5,.int .i64 0)],[],1⟩,?_,_,rfl,rfl,rfl⟩
    have hz:=FzV.sl (n:=0) (rows:=(o0::ot).map encA) 0 (o0::ot).length 10 none (by simp) (by simp)
    rw[List.drop_zero,List.take_of_length_le (by simp)]at hz
    refine Reb.trans (s':=⟨[(4,.slice 0 0 (o0::ot).length 10 none),(5,.int .i64 0)],[(0,some (.cells ((o0::ot).map encA) false))],1⟩) (Q0 [0] (by exact rfl) ⟨.refl _,.refl _,trivial⟩ ⟨⟨by decide,_,rfl,Qo (fA _)⟩,trivial⟩) ?_
    exact Z2 (n:=0) (rows:=(o0::ot).map encA) rfl (fA _) ⟨hz,.same _,trivial⟩ trivial
def S_asks:SpecI:=fun args K=>∃(fs:List Fd) (cs:List Cd),args=[vF fs,vC cs]∧(QOk fs∧cs.length≤1000∧ ∀i,(cs.getD i default).v.s.length≤9223372036854775807)∧K (.tup [.vs 10 ((Xq fs cs).map encA),.int .i64 (XG fs cs)])
theorem Lk[Syms]:Z8 Tryz.prog 21 S_asks:=by
 rintro args K ⟨fs,cs,rfl,⟨h1,h2,h3⟩,hk⟩
 exact⟨rfl,_,rfl,hk,fnI QC Qz HY NM QV (NQ fs cs h1 h2 h3)⟩
end
section
set_option maxRecDepth 100000
set_option maxHeartbeats 4000000
theorem wrI{x:Int}(h:-9223372036854775808≤x∧x≤9223372036854775807):wr .i64 x=x:=if_pos h
theorem OR(x:Int):wr .i64 (wr .i32 x)=wr .i32 x:=by
 apply wrI
 unfold wr
 split
 ·rename_i h
  have h1:(-2147483648:Int)≤x:=h.1
  have h2:x≤(2147483647:Int):=h.2
  omega
 ·show(-9223372036854775808:Int)≤(if(true&&decide (x%(2^32:Int)≥(2^31:Int)))=true then x%(2^32:Int)-(2^32:Int)else x%(2^32:Int))∧(if(true&&decide (x%(2^32:Int)≥(2^31:Int)))=true then x%(2^32:Int)-(2^32:Int)else x%(2^32:Int))≤(9223372036854775807:Int)
  split<;>omega
theorem LF{a b:List UInt8}(h:a=b):WkV (.str a) (.str b):=h▸ .refl _
theorem fV(v:Vl):∀x∈Yc v,x.flat=true:=fun x hx=>by simp[Yc]at hx;rcases hx with rfl|rfl<;>rfl
def Yq(kind:Int)(v:Vl):Vl:=if kind=1 then⟨wi v.n 2,[]⟩else if kind=2 then⟨wr .i32 v.n,[]⟩else if kind=3 then⟨v.n,[]⟩else⟨0,v.s.take 100⟩
def G_wi:List AVal→(AVal→Prop)→Prop:=fun args K=>∃a n,args=[.int .i64 a,.int .i64 n]∧(0<n∧n≤4611686018427387904)∧K (.int .i64 (wi a n))
theorem Ih[Syms]:MF Tryz.prog 43 G_wi:=by
 rintro args K ⟨a,n,rfl,⟨h1,h2⟩,hk⟩
 refine⟨Jl,_,hk,fun ι w vs hv=>?_⟩
 obtain⟨v0,vs0,rfl,hv0,hv⟩:=hv.uncons
 obtain⟨v1,vs1,rfl,hv1,hv⟩:=hv.uncons
 obtain rfl:=hv.unnil
 obtain rfl:=hv0.of_int
 obtain rfl:=hv1.of_int
 refine(U3 a n h1 h2 w).mono ?_
 rintro e w' ⟨rfl,rfl⟩
 exact⟨_,rfl,.int _ _,rfl⟩
theorem MK[Syms]:MF Tryz.prog 11 G_wi:=by
 rintro args K ⟨a,n,rfl,⟨h1,h2⟩,hk⟩
 refine⟨Jk,_,hk,fun ι w vs hv=>?_⟩
 obtain⟨v0,vs0,rfl,hv0,hv⟩:=hv.uncons
 obtain⟨v1,vs1,rfl,hv1,hv⟩:=hv.uncons
 obtain rfl:=hv.unnil
 obtain rfl:=hv0.of_int
 obtain rfl:=hv1.of_int
 refine(U2 a n h1 h2 w).mono ?_
 rintro e w' ⟨rfl,rfl⟩
 exact⟨_,rfl,.int _ _,rfl⟩
abbrev cGd:CallT:=Qu 43 (FW G_wi) Ql
theorem NE[Syms]:cGd.ok Tryz.prog:=XA Ih Qk
theorem Fh[Syms]{N nx:Nat}{e:Env}{H:Heap}{row:List AVal}{v:Vl}{rs:List ResultVar}(hk:e.get 4= .ptr 1 0 0)(H1:H.get 1=some (.cells [row] false))(hrow:Ke row (Yc v))(hn:V2 0 nx [0,1]=true)
 (hrs:ZH (QP tys) ⟨[(4,.ptr 1 0 0)],[(1,some (.cells [Yc v] false))],2⟩ rs=some (.agg (Yc v))):
 ∃s3,Reb 0 N ⟨e,H,nx⟩ s3∧ ∃u,ZH (QP tys) s3 rs=some u∧D1 (fun u H _=>u= .agg (Yc v)∧H=[]) u s3.heap s3.nx:=
 ⟨⟨[(4,.ptr 1 0 0)],[(1,some (.cells [Yc v] false))],2⟩,Q0 [0,1] hn ⟨by rw[hk];exact .refl _,trivial⟩ ⟨⟨Nat.lt_succ_self _,_,H1,C2 hrow (fV v)⟩,trivial⟩,_,hrs,[],fun n b h=>(by rw[Heap.get_nil]at h;cases h),rfl,rfl⟩
theorem Ik(s:List UInt8):((s.drop 0).take ((if(100:Int)<(s.length:Int)then 100 else(s.length:Int)).toNat-0))=s.take 100:=by
 rw[List.drop_zero]
 split
 ·rfl
 ·rw[List.take_of_length_le (by omega),List.take_of_length_le (by omega)]
theorem N5[Syms](k:Int)(v:Vl):fnT Ql cGd (QW fns) (QP tys) (Z1 plt) 100 20 [.int .i64 k,.agg (Yc v)] [] 0 (D1 (fun u H _=>u= .agg (Yc (Yq k v))∧H=[])):=by
 unfold Yq
 by_cases h1:k=1
 ·rw[if_pos h1]
  repeat' first|refine And.intro ?_ ?_|(intro h;try first|exact dz|replace h:=cv)
  all_goals try exact cz
  refine⟨v.n,2,rfl,by decide,?_⟩
  repeat' first|refine And.intro ?_ ?_|(intro h;try first|exact dz|replace h:=cv)
  all_goals try exact cz
  exact Fh (v:=⟨wi v.n 2,[]⟩) rfl rfl ⟨.refl _,.refl _,trivial⟩ (by exact rfl) (by exact rfl)
 rw[if_neg h1]
 by_cases h2:k=2
 ·rw[if_pos h2]
  have hw:=OR v.n
  repeat' first|refine And.intro ?_ ?_|(intro h;try first|exact dz|replace h:=cv)
  all_goals try exact cz
  exact Fh (v:=⟨wr .i32 v.n,[]⟩) rfl rfl ⟨Qa hw,.refl _,trivial⟩ (by exact rfl) (by exact rfl)
 rw[if_neg h2]
 by_cases h3:k=3
 ·rw[if_pos h3]
  repeat' first|refine And.intro ?_ ?_|(intro h;try first|exact dz|replace h:=cv)
  all_goals try exact cz
  exact Fh (v:=⟨v.n,[]⟩) rfl rfl ⟨.refl _,.refl _,trivial⟩ (by exact rfl) (by exact rfl)
 rw[if_neg h3]
 repeat' first|refine And.intro ?_ ?_|(intro h;try first|exact dz|replace h:=cv)
 all_goals try exact cz
 exact Fh (v:=⟨0,v.s.take 100⟩) rfl rfl ⟨.refl _,LF (Ik v.s),trivial⟩ (by exact rfl) (by exact rfl)
def S_good:SpecI:=fun args K=>∃k v,args=[.int .i64 k,.agg (Yc v)]∧K (.agg (Yc (Yq k v)))
theorem CA[Syms]:Z8 Tryz.prog 20 S_good:=by
 rintro args K ⟨k,v,rfl,hk⟩
 exact⟨rfl,_,rfl,hk,Xr.forget (Zr QC Qz Qe NE QV (N5 k v))⟩
end
section
set_option maxRecDepth 100000
set_option maxHeartbeats 4000000
def rE(fs:List Fd)(i:Nat)(p d o l:AVal):Env:=[(0,vF fs),(4,p),(5,d),(6,o),(7,l),(8,.int .i64 i)]
def sI(k n:Nat):AVal:=.slice k 0 n 1 none
def rA(fs:List Fd)(i:Nat):St:=⟨rE fs i .nils .nils .nils .nils,[],0⟩
def rB(fs:List Fd)(i:Nat)(out:List (Int×Int)):St:=⟨rE fs i (sI 0 i) (sI 1 i) .nils .nils,[(0,some (.cells (out.map (encI ·.1)) false)),(1,some (.cells (out.map (encI ·.2)) false))],2⟩
def rC(fs:List Fd)(i n:Nat)(out:List (Int×Int))(R S:List (List AVal)):St:=
 ⟨rE fs i (sI 0 i) (sI 1 i) (sI 2 n) (sI 3 n),[(0,some (.cells (out.map (encI ·.1)) false)),(1,some (.cells (out.map (encI ·.2)) false)),(2,some (.cells R false)),(3,some (.cells S false))],4⟩
def rD(fs:List Fd)(i n:Nat)(out:List (Int×Int))(R S:List (List AVal)):St:=
 ⟨rE fs i (sI 0 (i+1)) (sI 1 (i+1)) (sI 2 n) (sI 3 n),[(0,some (.cells (out.map (encI ·.1)) false)),(1,some (.cells (out.map (encI ·.2)) false)),(2,some (.cells R false)),(3,some (.cells S false))],4⟩
structure RInv(fs:List Fd)(i:Nat)(st:Stk)(out:List (Int×Int)):Prop where
 le:i≤fs.length
 len:out.length=i
 run:out++GJ (fs.drop i) i st=GJ fs 0 []
 pos:∀p∈st,0≤p.2∧p.2≤9223372036854775807
 sl:st.length≤i
def rSt(fs:List Fd)(i:Nat)(st:Stk)(out:List (Int×Int))(s:St):Prop:=
 (i=0∧st=[]∧out=[]∧s=rA fs i)∨(st=[]∧s=rB fs i out)∨(∃j1 j2 R S,(Qg j1∧Qg j2∧R=st.reverse.map (encI ·.1)++j1∧S=st.reverse.map (encI ·.2)++j2)∧s=rC fs i st.length out R S)
theorem Iu{fs:List Fd}{i:Nat}{st:Stk}(h:i<fs.length):GJ (fs.drop i) i st=(VS (ZB st),((ZB st).length:Int))::GJ (fs.drop (i+1)) (i+1) (Yn i (fs.getD i default) (WB (ZB st))):=by
 rw[CF h];rfl
theorem Dg:∀st:Stk,(ZB st).length≤st.length
 |[]=>Nat.le_refl _
 |(a,k)::t=>by rw[ZB];split<;>simp;have:=Dg t;omega
theorem Kj{fs:List Fd}{i:Nat}{st:Stk}{out:List (Int×Int)}(hk:∀i,(fs.getD i default).kids≤9223372036854775807)(h:RInv fs i st out)(hi:i<fs.length):
 RInv fs (i+1) (Yn i (fs.getD i default) (WB (ZB st))) (out++[(VS (ZB st),((ZB st).length:Int))]):=by
 have hn:Ux st:=fun p hp=>(h.pos p hp).1
 refine⟨hi,by simp[h.len],?_,fun p hp=>⟨G0 hn i _ p hp,?_⟩,?_⟩
 ·rw[←h.run,Iu hi];simp
 ·have hd:∀p∈WB (ZB st),p.2≤9223372036854775807:=by
   intro p hp
   cases hq:ZB st with
   |nil=>rw[hq]at hp;simp[WB]at hp
   |cons q t=>
    obtain⟨a,k⟩:=q
    have hm:∀r∈(a,k)::t,r.2≤9223372036854775807:=fun r hr=>(h.pos r (Df (by rw[hq];exact hr))).2
    rw[hq]at hp
    simp only[WB,List.mem_cons]at hp
    rcases hp with rfl|hp
    ·have:=hm (a,k) (List.mem_cons_self ..);simp only at this ⊢;omega
    ·exact hm p (List.mem_cons_of_mem _ hp)
  unfold Yn at hp
  split at hp
  ·rcases List.mem_cons.1 hp with rfl|hp
   ·exact hk i
   ·exact hd p hp
  ·exact hd p hp
 ·have h1:=Dg st
  have h2:(WB (ZB st)).length≤(ZB st).length:=by cases ZB st<;>simp[WB]
  have:=h.sl
  unfold Yn
  split<;>simp<;>omega
theorem fI1(l:List (Int×Int)):Qg (l.map (encI ·.1)):=X1 (fun a x hx=>by simp[encI]at hx;subst hx;rfl) l
theorem fI2(l:List (Int×Int)):Qg (l.map (encI ·.2)):=X1 (fun a x hx=>by simp[encI]at hx;subst hx;rfl) l
theorem QB{g:Int×Int→List AVal}{l:List (Int×Int)}{i:Nat}(hl:l.length=i)(x:Int×Int):List.take i (List.drop 0 (l.map g))++[g x]=(l++[x]).map g:=by
 rw[List.drop_zero,List.take_of_length_le (by rw[List.length_map];omega)];simp
theorem Bg[Syms]{na N:Nat}{e:Env}{H:Heap}{nx:Nat}(h2:(e.get 2).isZ 1=true)(h3:(e.get 3).isZ 1=true):Reb na N ⟨e,H,nx⟩ ⟨[(3,vI []),(2,vI [])],[],nx⟩:=by
 refine(YJ (k:=2) (y:=vI []) fun ι v hv=>.vt _ _ _ _ (hv.isZ h2)).trans ((YJ (e:=(2,vI [])::e) (k:=3) (y:=vI []) fun ι v hv=>.vt _ _ _ _ (RelV.isZ (ι:=ι) (sz:=1) h3 (show RelV ι (e.get 3) v from hv))).trans (MT (fun j=>?_) (fun m b h=>by rw[Heap.get_nil]at h;cases h)))
 rw[Env.get_cons,Env.get_cons,Env.get_cons,Env.get_cons,Env.get_nil]
 cases Nat.beq j 3<;>cases Nat.beq j 2<;>simp
theorem GV[Syms]{na N:Nat}{e:Env}{H:Heap}{nx i:Nat}{out:List (Int×Int)}(h2:e.get 2=sI 0 i)(h3:e.get 3=sI 1 i)(hb0:H.get 0=some (.cells (out.map (encI ·.1)) false))(hb1:H.get 1=some (.cells (out.map (encI ·.2)) false))(hol:out.length=i):
 Reb na N ⟨e,H,nx⟩ ⟨[(3,vI (out.map (·.2))),(2,vI (out.map (·.1)))],[],nx⟩:=by
 refine(WM (enc:=encI) (k:=2) 0 (l:=out.map (·.1)) [(3,sI 1 i)] [(1,some (.cells (out.map (encI ·.2)) false))] h2 hb0 (fI1 _) ?_ ?_ ?_ ?_).trans (WM (enc:=encI) (k:=3) 0 (l:=out.map (·.2)) [(2,vI (out.map (·.1)))] [] rfl rfl (fI2 _) ?_ ?_ ?_ ?_)
 ·rw[List.take_of_length_le (by simp;omega),List.map_map];rfl
 ·simp;omega
 ·intro p hp;simp only[List.mem_singleton]at hp;subst hp;exact⟨show(3:Nat)≠2 by decide,h3⟩
 ·intro m b h
  rw[Heap.get_cons,Heap.get_nil]at h
  by_cases hm:m=1
  ·subst hm;rw[Nat.beq_refl]at h;rw[Heap.get_set_ne _ _ (by decide),hb1];exact h
  ·rw[QA hm]at h;cases h
 ·rw[List.take_of_length_le (by simp;omega),List.map_map];rfl
 ·simp;omega
 ·intro p hp;simp only[List.mem_singleton]at hp;subst hp;exact⟨show(2:Nat)≠3 by decide,rfl⟩
 ·intro m b h;rw[Heap.get_nil]at h;cases h
theorem Y9{st:Stk}{q:List (List AVal)}{g:Int×Int→List AVal}{n:Nat}(hn:n=st.length):List.take n (List.drop 0 (st.reverse.map g++q))=st.reverse.map g:=by
 rw[List.drop_zero,hn,show st.length=(st.reverse.map g).length by simp];exact List.take_left
theorem It[Syms](fs:List Fd)(hl:fs.length<1000)(hk:∀i,(fs.getD i default).kids≤9223372036854775807):
 fnT Ql Ql (QW fns) (QP tys) (Z1 plt) 100 40 [vF fs] [] 0 (fun v H _=>v= .tup [vI (Q6 fs),vI (CG fs)]∧H=[]):=by
 refine⟨fun n s=>∃i st out,(RInv fs i st out∧n=fs.length-i)∧rSt fs i st out s,⟨_,rA fs 0,Q0 [] rfl ?_ ?_,0,[],[],⟨⟨by omega,rfl,rfl,by simp,by simp⟩,rfl⟩,.inl ⟨rfl,rfl,rfl,rfl⟩⟩,?_⟩
 ·exact⟨.refl _,.refl _,.refl _,.refl _,.refl _,.refl _,trivial⟩
 ·exact trivial
 rintro n s ⟨i,st,out,⟨hI,rfl⟩,(⟨h0,rfl,rfl,rfl⟩|⟨rfl,rfl⟩|⟨j1,j2,R,S,⟨hj1,hj2,hR,hS⟩,rfl⟩)⟩
 ·have hle:=hI.le
  have hol:=hI.len
  by_cases hin:i<fs.length
  ·have hnx:=Kj hk hI hin
   by_cases hc:(fs.getD i default).kind=0∧0<(fs.getD i default).kids
   ·rw[Yn,if_pos hc,show ZB []=[] from rfl]at hnx
    repeat' first|refine And.intro ?_ ?_|(intro h;try first|exact dz|replace h:=cv)
    all_goals try exact cz
    refine Xo ?_
    repeat' first|refine And.intro ?_ ?_|(intro h;try first|exact dz|replace h:=cv)
    all_goals try exact cz
    all_goals(try exact NoSel.mk (by kernel_rfl))
    refine⟨rD fs i 1 ([]++[(-1,0)]) [encI ((i:Nat):Int)] [encI (fs.getD i default).kids],?_,?_⟩
    · repeat' first|refine And.intro ?_ ?_|(intro h;try first|exact dz|replace h:=cv)
      all_goals try exact cz
      all_goals(try exact Apart.mk (by kernel_rfl))
      all_goals refine Exists.intro () ?_
      all_goals first
      |(refine Q0 [1,3,5,7] (by exact rfl) ?_ ?_
        ·exact⟨.refl _,Q3 (by first|rfl|omega),Q3 (by first|rfl|omega),.refl _,.refl _,.refl _,trivial⟩
        ·exact⟨⟨by decide,_,rfl,Q1 (by subst h0;rfl) (fI1 _)⟩,⟨by decide,_,rfl,Q1 (by subst h0;rfl) (fI2 _)⟩,⟨by decide,_,rfl,Q1 rfl (fI [_])⟩,⟨by decide,_,rfl,Q1 rfl (fI [_])⟩,trivial⟩)
      |(refine Q0 [1,3,6,7] (by exact rfl) ?_ ?_
        ·exact⟨.refl _,Q3 (by first|rfl|omega),Q3 (by first|rfl|omega),.refl _,.refl _,.refl _,trivial⟩
        ·exact⟨⟨by decide,_,rfl,Q1 (by subst h0;rfl) (fI1 _)⟩,⟨by decide,_,rfl,Q1 (by subst h0;rfl) (fI2 _)⟩,⟨by decide,_,rfl,Q1 rfl (fI [_])⟩,⟨by decide,_,rfl,Q1 rfl (fI [_])⟩,trivial⟩)
      |(refine Q0 [1,3,7,6] (by exact rfl) ?_ ?_
        ·exact⟨.refl _,Q3 (by first|rfl|omega),Q3 (by first|rfl|omega),.refl _,.refl _,.refl _,trivial⟩
        ·exact⟨⟨by decide,_,rfl,Q1 (by subst h0;rfl) (fI1 _)⟩,⟨by decide,_,rfl,Q1 (by subst h0;rfl) (fI2 _)⟩,⟨by decide,_,rfl,Q1 rfl (fI [_])⟩,⟨by decide,_,rfl,Q1 rfl (fI [_])⟩,trivial⟩)
      |(refine Q0 [1,3,7,5] (by exact rfl) ?_ ?_
        ·exact⟨.refl _,Q3 (by first|rfl|omega),Q3 (by first|rfl|omega),.refl _,.refl _,.refl _,trivial⟩
        ·exact⟨⟨by decide,_,rfl,Q1 (by subst h0;rfl) (fI1 _)⟩,⟨by decide,_,rfl,Q1 (by subst h0;rfl) (fI2 _)⟩,⟨by decide,_,rfl,Q1 rfl (fI [_])⟩,⟨by decide,_,rfl,Q1 rfl (fI [_])⟩,trivial⟩)
    repeat' first|refine And.intro ?_ ?_|(intro h;try first|exact dz|replace h:=cv)
    all_goals try exact cz
    exact⟨_,rC fs (i+1) 1 ([]++[(-1,0)]) [encI ((i:Nat):Int)] [encI (fs.getD i default).kids],.refl _ _ _,⟨_,_,_,⟨hnx,rfl⟩,.inr (.inr ⟨[],[],_,_,⟨QX,QX,rfl,rfl⟩,rfl⟩)⟩,by omega⟩
   ·rw[Yn,if_neg hc,show ZB []=[] from rfl]at hnx
    repeat' first|refine And.intro ?_ ?_|(intro h;try first|exact dz|replace h:=cv)
    all_goals try exact cz
    refine Xo ?_
    repeat' first|refine And.intro ?_ ?_|(intro h;try first|exact dz|replace h:=cv)
    all_goals try exact cz
    all_goals
     refine⟨_,rB fs (i+1) ([]++[(-1,0)]),Q0 [1,3] rfl ?_ ?_,⟨_,_,_,⟨hnx,rfl⟩,.inr (.inl ⟨rfl,rfl⟩)⟩,by omega⟩
     ·exact⟨.refl _,Q3 (by first|rfl|omega),Q3 (by first|rfl|omega),.refl _,.refl _,.refl _,trivial⟩
     ·exact⟨⟨by decide,_,rfl,Q1 (by subst h0;rfl) (fI1 _)⟩,⟨by decide,_,rfl,Q1 (by subst h0;rfl) (fI2 _)⟩,trivial⟩
  · repeat' first|refine And.intro ?_ ?_|(intro h;try first|exact dz|replace h:=cv)
    all_goals try exact cz
    have h0:fs=[]:=List.eq_nil_of_length_eq_zero (by omega)
    subst h0
    exact⟨_,Bg rfl rfl,_,rfl,rfl,rfl⟩
 ·have hle:=hI.le
  have hol:=hI.len
  by_cases hin:i<fs.length
  ·have hnx:=Kj hk hI hin
   by_cases hc:(fs.getD i default).kind=0∧0<(fs.getD i default).kids
   ·rw[Yn,if_pos hc,show ZB []=[] from rfl]at hnx
    repeat' first|refine And.intro ?_ ?_|(intro h;try first|exact dz|replace h:=cv)
    all_goals try exact cz
    refine Xo ?_
    repeat' first|refine And.intro ?_ ?_|(intro h;try first|exact dz|replace h:=cv)
    all_goals try exact cz
    all_goals(try exact NoSel.mk (by kernel_rfl))
    refine⟨rD fs i 1 (out++[(-1,0)]) [encI ((i:Nat):Int)] [encI (fs.getD i default).kids],?_,?_⟩
    · repeat' first|refine And.intro ?_ ?_|(intro h;try first|exact dz|replace h:=cv)
      all_goals try exact cz
      all_goals(try exact Apart.mk (by kernel_rfl))
      all_goals refine Exists.intro () ?_
      all_goals first
      |(refine Q0 [3,5,7,9] (by exact rfl) ?_ ?_
        ·exact⟨.refl _,Q3 (by first|rfl|omega),Q3 (by first|rfl|omega),.refl _,.refl _,.refl _,trivial⟩
        ·exact⟨⟨by decide,_,rfl,Q1 (QB (g:=(encI ·.1)) hol (-1,0)) (fI1 _)⟩,⟨by decide,_,rfl,Q1 (QB (g:=(encI ·.2)) hol (-1,0)) (fI2 _)⟩,⟨by decide,_,rfl,Q1 rfl (fI [_])⟩,⟨by decide,_,rfl,Q1 rfl (fI [_])⟩,trivial⟩)
      |(refine Q0 [3,5,8,9] (by exact rfl) ?_ ?_
        ·exact⟨.refl _,Q3 (by first|rfl|omega),Q3 (by first|rfl|omega),.refl _,.refl _,.refl _,trivial⟩
        ·exact⟨⟨by decide,_,rfl,Q1 (QB (g:=(encI ·.1)) hol (-1,0)) (fI1 _)⟩,⟨by decide,_,rfl,Q1 (QB (g:=(encI ·.2)) hol (-1,0)) (fI2 _)⟩,⟨by decide,_,rfl,Q1 rfl (fI [_])⟩,⟨by decide,_,rfl,Q1 rfl (fI [_])⟩,trivial⟩)
      |(refine Q0 [3,5,9,8] (by exact rfl) ?_ ?_
        ·exact⟨.refl _,Q3 (by first|rfl|omega),Q3 (by first|rfl|omega),.refl _,.refl _,.refl _,trivial⟩
        ·exact⟨⟨by decide,_,rfl,Q1 (QB (g:=(encI ·.1)) hol (-1,0)) (fI1 _)⟩,⟨by decide,_,rfl,Q1 (QB (g:=(encI ·.2)) hol (-1,0)) (fI2 _)⟩,⟨by decide,_,rfl,Q1 rfl (fI [_])⟩,⟨by decide,_,rfl,Q1 rfl (fI [_])⟩,trivial⟩)
      |(refine Q0 [3,5,9,7] (by exact rfl) ?_ ?_
        ·exact⟨.refl _,Q3 (by first|rfl|omega),Q3 (by first|rfl|omega),.refl _,.refl _,.refl _,trivial⟩
        ·exact⟨⟨by decide,_,rfl,Q1 (QB (g:=(encI ·.1)) hol (-1,0)) (fI1 _)⟩,⟨by decide,_,rfl,Q1 (QB (g:=(encI ·.2)) hol (-1,0)) (fI2 _)⟩,⟨by decide,_,rfl,Q1 rfl (fI [_])⟩,⟨by decide,_,rfl,Q1 rfl (fI [_])⟩,trivial⟩)
    repeat' first|refine And.intro ?_ ?_|(intro h;try first|exact dz|replace h:=cv)
    all_goals try exact cz
    exact⟨_,rC fs (i+1) 1 (out++[(-1,0)]) [encI ((i:Nat):Int)] [encI (fs.getD i default).kids],.refl _ _ _,⟨_,_,_,⟨hnx,rfl⟩,.inr (.inr ⟨[],[],_,_,⟨QX,QX,rfl,rfl⟩,rfl⟩)⟩,by omega⟩
   ·rw[Yn,if_neg hc,show ZB []=[] from rfl]at hnx
    repeat' first|refine And.intro ?_ ?_|(intro h;try first|exact dz|replace h:=cv)
    all_goals try exact cz
    refine Xo ?_
    repeat' first|refine And.intro ?_ ?_|(intro h;try first|exact dz|replace h:=cv)
    all_goals try exact cz
    all_goals
     refine⟨_,rB fs (i+1) (out++[(-1,0)]),Q0 [3,5] rfl ?_ ?_,⟨_,_,_,⟨hnx,rfl⟩,.inr (.inl ⟨rfl,rfl⟩)⟩,by omega⟩
     ·exact⟨.refl _,Q3 (by first|rfl|omega),Q3 (by first|rfl|omega),.refl _,.refl _,.refl _,trivial⟩
     ·exact⟨⟨by decide,_,rfl,Q1 (QB (g:=(encI ·.1)) hol (-1,0)) (fI1 _)⟩,⟨by decide,_,rfl,Q1 (QB (g:=(encI ·.2)) hol (-1,0)) (fI2 _)⟩,trivial⟩
  · repeat' first|refine And.intro ?_ ?_|(intro h;try first|exact dz|replace h:=cv)
    all_goals try exact cz
    have hrun:=hI.run
    rw[List.drop_of_length_le (by omega),Cf]at hrun
    simp only[GJ,List.append_nil]at hrun
    exact⟨_,GV (out:=out) rfl rfl rfl rfl hol,_,rfl,by rw[hrun];rfl,rfl⟩
 ·have hle:=hI.le
  have hol:=hI.len
  have hsl:=hI.sl
  have hfR:Qg R:=hR▸QI (fI1 _) hj1
  have hfS:Qg S:=hS▸QI (fI2 _) hj2
  by_cases hin:i<fs.length
  · repeat' first|refine And.intro ?_ ?_|(intro h;try first|exact dz|replace h:=cv)
    all_goals try exact cz
    refine⟨fun m s=>∃(st1:Stk) (q1 q2:List (List AVal)),(m=st1.length∧ZB st1=ZB st∧R=st1.reverse.map (encI ·.1)++q1∧S=st1.reverse.map (encI ·.2)++q2∧Qg q1∧Qg q2∧(∀p∈st1,0≤p.2∧p.2≤9223372036854775807)∧st1.length≤st.length)∧s=rC fs i st1.length out R S,⟨_,rC fs i st.length out R S,VB [0,4,5,6,7,8],st,j1,j2,⟨rfl,rfl,hR,hS,hj1,hj2,hI.pos,Nat.le_refl _⟩,rfl⟩,?_⟩
    rintro m s ⟨st1,q1,q2,⟨rfl,hp1,hR1,hS1,hq1,hq2,hb1,hl1⟩,rfl⟩
    have hnx:=Kj hk hI hin
    rw[←hp1]at hnx
    clear hI hj1 hj2 hR hS
    cases st1 with
    |nil=>
     have hx1:True=True:=rfl
     have hx2:True=True:=rfl
     have hx3:True=True:=rfl
     have hx4:True=True:=rfl
     by_cases hc:(fs.getD i default).kind=0∧0<(fs.getD i default).kids
     ·rw[Yn,if_pos hc]at hnx
      repeat' first|refine And.intro ?_ ?_|(intro h;try first|exact dzi|replace h:=cvi)
      all_goals try exact cz
      all_goals(try first|((with_reducible show(_:Int)≤(_:Int));simp only[hx2,hx3,hx4,Q5,Qc,QM,Nat.zero_add];omega)|((with_reducible show(_:Int)<(_:Int));simp only[hx2,hx3,hx4,Q5,Qc,QM,Nat.zero_add];omega)|((with_reducible show(_:Nat)≤(_:Nat));simp only[hx2,hx3,hx4,Zz,List.length_set,Nat.zero_add];omega)|((with_reducible show(_:Nat)<(_:Nat));simp only[hx2,hx3,hx4,Zz,List.length_set,Nat.zero_add];omega)|((with_reducible show isC _ _ _=true);simp only[hx2,hx3,hx4,Q5,Qc,QM,Nat.zero_add];exact rfl))
      refine⟨rD fs i 1 (out++[(-1,0)]) [encI (i:Int)] [encI (fs.getD i default).kids],?_,?_⟩
      · repeat' first|refine And.intro ?_ ?_|(intro h;try first|exact dzi|replace h:=cvi)
        all_goals try exact cz
        all_goals(try first|((with_reducible show(_:Int)≤(_:Int));simp only[hx2,hx3,hx4,Q5,Qc,QM,Nat.zero_add];omega)|((with_reducible show(_:Int)<(_:Int));simp only[hx2,hx3,hx4,Q5,Qc,QM,Nat.zero_add];omega)|((with_reducible show(_:Nat)≤(_:Nat));simp only[hx2,hx3,hx4,Zz,List.length_set,Nat.zero_add];omega)|((with_reducible show(_:Nat)<(_:Nat));simp only[hx2,hx3,hx4,Zz,List.length_set,Nat.zero_add];omega)|((with_reducible show isC _ _ _=true);simp only[hx2,hx3,hx4,Q5,Qc,QM,Nat.zero_add];exact rfl))
        all_goals refine Exists.intro () ?_
        all_goals first
        |(refine Q0 [5,7,9,11] (by exact rfl) ?_ ?_
          ·exact⟨.refl _,Q3 (by first|rfl|omega),Q3 (by first|rfl|omega),Q3 (by first|rfl|omega),Q3 (by first|rfl|omega),.refl _,trivial⟩
          ·refine⟨⟨by decide,_,rfl,Q1 ?_ (fI1 _)⟩,⟨by decide,_,rfl,Q1 ?_ (fI2 _)⟩,⟨by decide,_,rfl,Q1 ?_ (fI [_])⟩,⟨by decide,_,rfl,Q1 ?_ (fI [_])⟩,trivial⟩
           ·exact QB (g:=(encI ·.1)) hol (-1,0)
           ·exact QB (g:=(encI ·.2)) hol (-1,0)
           ·rfl
           ·rfl)
        |(refine Q0 [5,7,10,11] (by exact rfl) ?_ ?_
          ·exact⟨.refl _,Q3 (by first|rfl|omega),Q3 (by first|rfl|omega),Q3 (by first|rfl|omega),Q3 (by first|rfl|omega),.refl _,trivial⟩
          ·refine⟨⟨by decide,_,rfl,Q1 ?_ (fI1 _)⟩,⟨by decide,_,rfl,Q1 ?_ (fI2 _)⟩,⟨by decide,_,rfl,Q1 ?_ (fI [_])⟩,⟨by decide,_,rfl,Q1 ?_ (fI [_])⟩,trivial⟩
           ·exact QB (g:=(encI ·.1)) hol (-1,0)
           ·exact QB (g:=(encI ·.2)) hol (-1,0)
           ·rfl
           ·rfl)
        |(refine Q0 [5,7,11,10] (by exact rfl) ?_ ?_
          ·exact⟨.refl _,Q3 (by first|rfl|omega),Q3 (by first|rfl|omega),Q3 (by first|rfl|omega),Q3 (by first|rfl|omega),.refl _,trivial⟩
          ·refine⟨⟨by decide,_,rfl,Q1 ?_ (fI1 _)⟩,⟨by decide,_,rfl,Q1 ?_ (fI2 _)⟩,⟨by decide,_,rfl,Q1 ?_ (fI [_])⟩,⟨by decide,_,rfl,Q1 ?_ (fI [_])⟩,trivial⟩
           ·exact QB (g:=(encI ·.1)) hol (-1,0)
           ·exact QB (g:=(encI ·.2)) hol (-1,0)
           ·rfl
           ·rfl)
        |(refine Q0 [5,7,11,9] (by exact rfl) ?_ ?_
          ·exact⟨.refl _,Q3 (by first|rfl|omega),Q3 (by first|rfl|omega),Q3 (by first|rfl|omega),Q3 (by first|rfl|omega),.refl _,trivial⟩
          ·refine⟨⟨by decide,_,rfl,Q1 ?_ (fI1 _)⟩,⟨by decide,_,rfl,Q1 ?_ (fI2 _)⟩,⟨by decide,_,rfl,Q1 ?_ (fI [_])⟩,⟨by decide,_,rfl,Q1 ?_ (fI [_])⟩,trivial⟩
           ·exact QB (g:=(encI ·.1)) hol (-1,0)
           ·exact QB (g:=(encI ·.2)) hol (-1,0)
           ·rfl
           ·rfl)
      repeat' first|refine And.intro ?_ ?_|(intro h;try first|exact dzi|replace h:=cvi)
      all_goals try exact cz
      exact⟨_,rC fs (i+1) 1 (out++[(-1,0)]) [encI (i:Int)] [encI (fs.getD i default).kids],.refl _ _ _,⟨_,_,_,⟨hnx,rfl⟩,.inr (.inr ⟨[],[],_,_,⟨QX,QX,rfl,rfl⟩,rfl⟩)⟩,by omega⟩
     ·rw[Yn,if_neg hc]at hnx
      repeat' first|refine And.intro ?_ ?_|(intro h;try first|exact dzi|replace h:=cvi)
      all_goals try exact cz
      all_goals(try first|((with_reducible show(_:Int)≤(_:Int));simp only[hx2,hx3,hx4,Q5,Qc,QM,Nat.zero_add];omega)|((with_reducible show(_:Int)<(_:Int));simp only[hx2,hx3,hx4,Q5,Qc,QM,Nat.zero_add];omega)|((with_reducible show(_:Nat)≤(_:Nat));simp only[hx2,hx3,hx4,Zz,List.length_set,Nat.zero_add];omega)|((with_reducible show(_:Nat)<(_:Nat));simp only[hx2,hx3,hx4,Zz,List.length_set,Nat.zero_add];omega)|((with_reducible show isC _ _ _=true);simp only[hx2,hx3,hx4,Q5,Qc,QM,Nat.zero_add];exact rfl))
      all_goals
       refine⟨_,rC fs (i+1) 0 (out++[(-1,0)]) R S,Q0 [5,7,2,3] rfl ?_ ?_,⟨_,_,_,⟨hnx,rfl⟩,.inr (.inr ⟨R,S,_,_,⟨hfR,hfS,rfl,rfl⟩,rfl⟩)⟩,by omega⟩
       ·exact⟨.refl _,Q3 (by first|rfl|omega),Q3 (by first|rfl|omega),Q3 (by first|rfl|omega),Q3 (by first|rfl|omega),.refl _,trivial⟩
       ·refine⟨⟨by decide,_,rfl,Q1 ?_ (fI1 _)⟩,⟨by decide,_,rfl,Q1 ?_ (fI2 _)⟩,⟨by decide,_,rfl,Qo hfR⟩,⟨by decide,_,rfl,Q1 ?_ hfS⟩,trivial⟩
        ·exact QB (g:=(encI ·.1)) hol (-1,0)
        ·exact QB (g:=(encI ·.2)) hol (-1,0)
        ·rfl
    |cons q t=>
     obtain⟨a,k⟩:=q
     have hx4:((↑(t.length+1):Int)-1).toNat=t.length:=by omega
     have hx1:True=True:=rfl
     have hx2:R.getD t.length []=encI a:=by rw[hR1];simp[List.getElem?_append,List.getElem?_map]
     have hx3:S.getD t.length []=encI k:=by rw[hS1];simp[List.getElem?_append,List.getElem?_map]
     have hRl:t.length<R.length:=by rw[hR1];simp
     have hSl:t.length<S.length:=by rw[hS1];simp
     have hkb:=hb1 (a,k) (List.mem_cons_self ..)
     have htl:t.length+1≤st.length:=hl1
     simp only at hkb
     rw[List.length_cons]
     by_cases hk0:k=0
     ·skip
      have hpz:ZB ((a,k)::t)=ZB t:=by rw[ZB,if_pos hk0]
      repeat' first|refine And.intro ?_ ?_|(intro h;try first|exact dzi|replace h:=cvi)
      all_goals try exact cz
      all_goals(try first|((with_reducible show(_:Int)≤(_:Int));simp only[hx2,hx3,hx4,Q5,Qc,QM,Nat.zero_add];omega)|((with_reducible show(_:Nat)≤(_:Nat));simp only[hx2,hx3,hx4,Zz,List.length_set,Nat.zero_add];omega)|((with_reducible show isC _ _ _=true);simp only[hx2,hx3,hx4,Q5,Qc,QM,Nat.zero_add];exact rfl))
      refine⟨t.length,rC fs i t.length out R S,Q0 [0,1,2,3] rfl ?_ ?_,⟨t,encI a::q1,encI k::q2,⟨rfl,hpz▸hp1,by rw[hR1];simp,by rw[hS1];simp,Wz (fun x hx=>by simp[encI]at hx;subst hx;rfl) hq1,Wz (fun x hx=>by simp[encI]at hx;subst hx;rfl) hq2,fun p hp=>hb1 p (List.mem_cons_of_mem _ hp),by omega⟩,rfl⟩,by omega⟩
      ·exact⟨.refl _,.refl _,.refl _,Q3 (by first|rfl|omega),Q3 (by first|rfl|omega),.refl _,trivial⟩
      ·exact⟨⟨by decide,_,rfl,Qo (fI1 _)⟩,⟨by decide,_,rfl,Qo (fI2 _)⟩,⟨by decide,_,rfl,Qo hfR⟩,⟨by decide,_,rfl,Qo hfS⟩,trivial⟩
     ·skip
      have hpz:ZB ((a,k)::t)=(a,k)::t:=by rw[ZB,if_neg hk0]
      rw[hpz]at hnx
      have hset:S.set t.length (encI (k-1))=((a,k-1)::t).reverse.map (encI ·.2)++q2:=by rw[hS1];simp[List.set_append]
      have hRq:R=((a,k-1)::t).reverse.map (encI ·.1)++q1:=by rw[hR1];simp
      have hfS2:Qg (S.set t.length (encI (k-1))):=hset▸QI (fI2 _) hq2
      by_cases hc:(fs.getD i default).kind=0∧0<(fs.getD i default).kids
      ·rw[Yn,if_pos hc]at hnx
       repeat' first|refine And.intro ?_ ?_|(intro h;try first|exact dzi|replace h:=cvi)
       all_goals try exact cz
       all_goals(try first|((with_reducible show(_:Int)≤(_:Int));simp only[hx2,hx3,hx4,Q5,Qc,QM,Nat.zero_add];omega)|((with_reducible show(_:Int)<(_:Int));simp only[hx2,hx3,hx4,Q5,Qc,QM,Nat.zero_add];omega)|((with_reducible show(_:Nat)≤(_:Nat));simp only[hx2,hx3,hx4,Zz,List.length_set,Nat.zero_add];omega)|((with_reducible show(_:Nat)<(_:Nat));simp only[hx2,hx3,hx4,Zz,List.length_set,Nat.zero_add];omega)|((with_reducible show isC _ _ _=true);simp only[hx2,hx3,hx4,Q5,Qc,QM,Nat.zero_add];exact rfl))
       refine⟨rD fs i (t.length+1+1) (out++[(a,((t.length+1:Nat):Int))]) (((((i:Nat):Int),(fs.getD i default).kids)::(a,k-1)::t).reverse.map (encI ·.1)) (((((i:Nat):Int),(fs.getD i default).kids)::(a,k-1)::t).reverse.map (encI ·.2)),?_,?_⟩
       · repeat' first|refine And.intro ?_ ?_|(intro h;try first|exact dzi|replace h:=cvi)
         all_goals try exact cz
         all_goals(try first|((with_reducible show(_:Int)≤(_:Int));simp only[hx2,hx3,hx4,Q5,Qc,QM,Nat.zero_add];omega)|((with_reducible show(_:Int)<(_:Int));simp only[hx2,hx3,hx4,Q5,Qc,QM,Nat.zero_add];omega)|((with_reducible show(_:Nat)≤(_:Nat));simp only[hx2,hx3,hx4,Zz,List.length_set,Nat.zero_add];omega)|((with_reducible show(_:Nat)<(_:Nat));simp only[hx2,hx3,hx4,Zz,List.length_set,Nat.zero_add];omega)|((with_reducible show isC _ _ _=true);simp only[hx2,hx3,hx4,Q5,Qc,QM,Nat.zero_add];exact rfl))
         all_goals refine Exists.intro () ?_
         all_goals first
         |(refine Q0 [6,8,10,12] (by exact rfl) ?_ ?_
           ·exact⟨.refl _,Q3 (by first|rfl|omega),Q3 (by first|rfl|omega),Q3 (by first|rfl|omega),Q3 (by first|rfl|omega),.refl _,trivial⟩
           ·refine⟨⟨by decide,_,rfl,Q1 ?_ (fI1 _)⟩,⟨by decide,_,rfl,Q1 ?_ (fI2 _)⟩,⟨by decide,_,rfl,Q1 ?_ (fI1 _)⟩,⟨by decide,_,rfl,Q1 ?_ (fI2 _)⟩,trivial⟩
            ·show List.take i (List.drop 0 (out.map (encI ·.1)))++[[.int .i64 (asI ((R.getD (0+((↑(t.length+1):Int)-1).toNat) []).getD 0 .any))]]=_;rw[Nat.zero_add,hx4,hx2];exact QB (g:=(encI ·.1)) hol (a,((t.length+1:Nat):Int))
            ·exact QB (g:=(encI ·.2)) hol (a,((t.length+1:Nat):Int))
            ·show List.take (t.length+1) (List.drop 0 R)++[encI i]=_;rw[hRq,Y9 (by simp)];simp
            ·show List.take (t.length+1) (List.drop 0 (S.set (0+((↑(t.length+1):Int)-1).toNat) (Qr (S.getD (0+((↑(t.length+1):Int)-1).toNat) []) 0 [.int .i64 (asI ((S.getD (0+((↑(t.length+1):Int)-1).toNat) []).getD 0 .any)-1)])))++[encI (fs.getD i default).kids]=_;rw[Nat.zero_add,hx4,hx3,show Qr (encI k) 0 [.int .i64 (asI ((encI k).getD 0 .any)-1)]=encI (k-1) from rfl,hset,Y9 (by simp)];simp)
         |(refine Q0 [6,8,11,12] (by exact rfl) ?_ ?_
           ·exact⟨.refl _,Q3 (by first|rfl|omega),Q3 (by first|rfl|omega),Q3 (by first|rfl|omega),Q3 (by first|rfl|omega),.refl _,trivial⟩
           ·refine⟨⟨by decide,_,rfl,Q1 ?_ (fI1 _)⟩,⟨by decide,_,rfl,Q1 ?_ (fI2 _)⟩,⟨by decide,_,rfl,Q1 ?_ (fI1 _)⟩,⟨by decide,_,rfl,Q1 ?_ (fI2 _)⟩,trivial⟩
            ·show List.take i (List.drop 0 (out.map (encI ·.1)))++[[.int .i64 (asI ((R.getD (0+((↑(t.length+1):Int)-1).toNat) []).getD 0 .any))]]=_;rw[Nat.zero_add,hx4,hx2];exact QB (g:=(encI ·.1)) hol (a,((t.length+1:Nat):Int))
            ·exact QB (g:=(encI ·.2)) hol (a,((t.length+1:Nat):Int))
            ·show List.take (t.length+1) (List.drop 0 R)++[encI i]=_;rw[hRq,Y9 (by simp)];simp
            ·show List.take (t.length+1) (List.drop 0 (S.set (0+((↑(t.length+1):Int)-1).toNat) (Qr (S.getD (0+((↑(t.length+1):Int)-1).toNat) []) 0 [.int .i64 (asI ((S.getD (0+((↑(t.length+1):Int)-1).toNat) []).getD 0 .any)-1)])))++[encI (fs.getD i default).kids]=_;rw[Nat.zero_add,hx4,hx3,show Qr (encI k) 0 [.int .i64 (asI ((encI k).getD 0 .any)-1)]=encI (k-1) from rfl,hset,Y9 (by simp)];simp)
         |(refine Q0 [6,8,12,11] (by exact rfl) ?_ ?_
           ·exact⟨.refl _,Q3 (by first|rfl|omega),Q3 (by first|rfl|omega),Q3 (by first|rfl|omega),Q3 (by first|rfl|omega),.refl _,trivial⟩
           ·refine⟨⟨by decide,_,rfl,Q1 ?_ (fI1 _)⟩,⟨by decide,_,rfl,Q1 ?_ (fI2 _)⟩,⟨by decide,_,rfl,Q1 ?_ (fI1 _)⟩,⟨by decide,_,rfl,Q1 ?_ (fI2 _)⟩,trivial⟩
            ·show List.take i (List.drop 0 (out.map (encI ·.1)))++[[.int .i64 (asI ((R.getD (0+((↑(t.length+1):Int)-1).toNat) []).getD 0 .any))]]=_;rw[Nat.zero_add,hx4,hx2];exact QB (g:=(encI ·.1)) hol (a,((t.length+1:Nat):Int))
            ·exact QB (g:=(encI ·.2)) hol (a,((t.length+1:Nat):Int))
            ·show List.take (t.length+1) (List.drop 0 R)++[encI i]=_;rw[hRq,Y9 (by simp)];simp
            ·show List.take (t.length+1) (List.drop 0 (S.set (0+((↑(t.length+1):Int)-1).toNat) (Qr (S.getD (0+((↑(t.length+1):Int)-1).toNat) []) 0 [.int .i64 (asI ((S.getD (0+((↑(t.length+1):Int)-1).toNat) []).getD 0 .any)-1)])))++[encI (fs.getD i default).kids]=_;rw[Nat.zero_add,hx4,hx3,show Qr (encI k) 0 [.int .i64 (asI ((encI k).getD 0 .any)-1)]=encI (k-1) from rfl,hset,Y9 (by simp)];simp)
         |(refine Q0 [6,8,12,10] (by exact rfl) ?_ ?_
           ·exact⟨.refl _,Q3 (by first|rfl|omega),Q3 (by first|rfl|omega),Q3 (by first|rfl|omega),Q3 (by first|rfl|omega),.refl _,trivial⟩
           ·refine⟨⟨by decide,_,rfl,Q1 ?_ (fI1 _)⟩,⟨by decide,_,rfl,Q1 ?_ (fI2 _)⟩,⟨by decide,_,rfl,Q1 ?_ (fI1 _)⟩,⟨by decide,_,rfl,Q1 ?_ (fI2 _)⟩,trivial⟩
            ·show List.take i (List.drop 0 (out.map (encI ·.1)))++[[.int .i64 (asI ((R.getD (0+((↑(t.length+1):Int)-1).toNat) []).getD 0 .any))]]=_;rw[Nat.zero_add,hx4,hx2];exact QB (g:=(encI ·.1)) hol (a,((t.length+1:Nat):Int))
            ·exact QB (g:=(encI ·.2)) hol (a,((t.length+1:Nat):Int))
            ·show List.take (t.length+1) (List.drop 0 R)++[encI i]=_;rw[hRq,Y9 (by simp)];simp
            ·show List.take (t.length+1) (List.drop 0 (S.set (0+((↑(t.length+1):Int)-1).toNat) (Qr (S.getD (0+((↑(t.length+1):Int)-1).toNat) []) 0 [.int .i64 (asI ((S.getD (0+((↑(t.length+1):Int)-1).toNat) []).getD 0 .any)-1)])))++[encI (fs.getD i default).kids]=_;rw[Nat.zero_add,hx4,hx3,show Qr (encI k) 0 [.int .i64 (asI ((encI k).getD 0 .any)-1)]=encI (k-1) from rfl,hset,Y9 (by simp)];simp)
       repeat' first|refine And.intro ?_ ?_|(intro h;try first|exact dzi|replace h:=cvi)
       all_goals try exact cz
       exact⟨_,rC fs (i+1) (t.length+1+1) (out++[(a,((t.length+1:Nat):Int))]) (((((i:Nat):Int),(fs.getD i default).kids)::(a,k-1)::t).reverse.map (encI ·.1)) (((((i:Nat):Int),(fs.getD i default).kids)::(a,k-1)::t).reverse.map (encI ·.2)),.refl _ _ _,⟨_,_,_,⟨hnx,rfl⟩,.inr (.inr ⟨[],[],_,_,⟨QX,QX,(List.append_nil _).symm,(List.append_nil _).symm⟩,rfl⟩)⟩,by omega⟩
      ·rw[Yn,if_neg hc]at hnx
       repeat' first|refine And.intro ?_ ?_|(intro h;try first|exact dzi|replace h:=cvi)
       all_goals try exact cz
       all_goals(try first|((with_reducible show(_:Int)≤(_:Int));simp only[hx2,hx3,hx4,Q5,Qc,QM,Nat.zero_add];omega)|((with_reducible show(_:Int)<(_:Int));simp only[hx2,hx3,hx4,Q5,Qc,QM,Nat.zero_add];omega)|((with_reducible show(_:Nat)≤(_:Nat));simp only[hx2,hx3,hx4,Zz,List.length_set,Nat.zero_add];omega)|((with_reducible show(_:Nat)<(_:Nat));simp only[hx2,hx3,hx4,Zz,List.length_set,Nat.zero_add];omega)|((with_reducible show isC _ _ _=true);simp only[hx2,hx3,hx4,Q5,Qc,QM,Nat.zero_add];exact rfl))
       all_goals
        refine⟨_,rC fs (i+1) (t.length+1) (out++[(a,((t.length+1:Nat):Int))]) R (S.set t.length (encI (k-1))),Q0 [6,8,2,3] rfl ?_ ?_,⟨_,_,_,⟨hnx,rfl⟩,.inr (.inr ⟨q1,q2,_,_,⟨hq1,hq2,hRq,hset⟩,rfl⟩)⟩,by omega⟩
        ·exact⟨.refl _,Q3 (by first|rfl|omega),Q3 (by first|rfl|omega),Q3 (by first|rfl|omega),Q3 (by first|rfl|omega),.refl _,trivial⟩
        ·refine⟨⟨by decide,_,rfl,Q1 ?_ (fI1 _)⟩,⟨by decide,_,rfl,Q1 ?_ (fI2 _)⟩,⟨by decide,_,rfl,Qo hfR⟩,⟨by decide,_,rfl,Q1 ?_ hfS2⟩,trivial⟩
         ·show List.take i (List.drop 0 (out.map (encI ·.1)))++[[.int .i64 (asI ((R.getD (0+((↑(t.length+1):Int)-1).toNat) []).getD 0 .any))]]=_;rw[Nat.zero_add,hx4,hx2];exact QB (g:=(encI ·.1)) hol (a,((t.length+1:Nat):Int))
         ·exact QB (g:=(encI ·.2)) hol (a,((t.length+1:Nat):Int))
         ·show S.set (0+((↑(t.length+1):Int)-1).toNat) (Qr (S.getD (0+((↑(t.length+1):Int)-1).toNat) []) 0 [.int .i64 (asI ((S.getD (0+((↑(t.length+1):Int)-1).toNat) []).getD 0 .any)-1)])=S.set t.length (encI (k-1));rw[Nat.zero_add,hx4,hx3];rfl
  · repeat' first|refine And.intro ?_ ?_|(intro h;try first|exact dz|replace h:=cv)
    all_goals try exact cz
    have hrun:=hI.run
    rw[List.drop_of_length_le (by omega),Cf]at hrun
    simp only[GJ,List.append_nil]at hrun
    exact⟨_,GV (out:=out) rfl rfl rfl rfl hol,_,rfl,by rw[hrun];rfl,rfl⟩
end
section
set_option maxRecDepth 100000
set_option maxHeartbeats 4000000
def S_rwalk:SpecI:=fun args K=>∃fs,args=[vF fs]∧FsOk fs∧K (.tup [vI (Q6 fs),vI (CG fs)])
theorem EV[Syms]:Z8 Tryz.prog 40 S_rwalk:=by
 rintro args K ⟨fs,rfl,h,hk⟩
 exact⟨rfl,_,rfl,hk,fnI QC Qz Qe Qk QV (It fs h.len h.kids)⟩
end
section
set_option maxRecDepth 100000
set_option maxHeartbeats 4000000
theorem LM[Syms](fs:List Fd)(hF:FsOk fs):
 fnT Ql (Qu 40 (ZJ S_rwalk) Ql) (QW fns) (QP tys) (Z1 plt) 100 16 [vF fs] [] 0 (fun v H _=>v=vI (Q6 fs)∧H=[]):=by
 refine⟨fs,rfl,hF,?_⟩
 repeat' first|refine And.intro ?_ ?_|(intro h;try first|exact dz|replace h:=cv)
 all_goals try exact cz
 exact⟨_,Q9 [2] rfl,_,rfl,rfl,rfl⟩
theorem Cg[Syms]:Z8 Tryz.prog 16 S_par:=by
 rintro args K ⟨fs,rfl,h,hk⟩
 exact⟨rfl,_,rfl,hk,fnI QC Qz Qe (Q8 EV Qk) QV (LM fs h)⟩
abbrev HU:CallT:=Qu 16 (ZJ S_par) Ql
theorem DP[Syms]:HU.ok Tryz.prog:=Q8 Cg Qk
end
section
set_option maxRecDepth 100000
set_option maxHeartbeats 4000000
theorem Iv[Syms](fs:List Fd)(field:Int)(hF:FsOk fs):
 fnT Ql HU (QW fns) (QP tys) (Z1 plt) 100 19 [vF fs,.int .i64 field] [] 0 (fun v H _=>v= .str (Zc fs (Q6 fs) field)∧H=[]):=by
 have hl:=hF.len
 have hpl:=XB fs
 repeat' first|refine And.intro ?_ ?_|(intro h;try simp only[decide_eq_true_eq,decide_eq_false_iff_not,Int.not_lt,Int.not_le,Int.toNat_natCast,↓reduceIte,Nat.reduceAdd,reduceCtorEq,Int.reduceLT,Int.lt_irrefl,gt_iff_lt,not_true_eq_false,not_false_eq_true,Bool.not_true,Bool.not_false,decide_false,decide_true,Int.reduceLE,Int.reduceSub,Bool.false_eq_true,Bool.true_eq_false,Nat.reduceEqDiff,Nat.one_ne_zero,Nat.reduceLT,and_self,and_true,true_and,Int.natCast_zero,Int.cast_ofNat_Int,List.length_nil,ne_eq,Decidable.not_not]at h)
 all_goals(try first|exact PlanIs.mk (by kernel_rfl)|omega|(show(_:Int)*((32:Nat):Int)≤_;omega)|(show(_:Int)*((8:Nat):Int)≤_;omega)|(show(_:Int)*((24:Nat):Int)≤_;omega)|exact rfl|exact Nat.le_of_ble_eq_true rfl|(show(_:Nat)≤(_:Nat);simp;done)|(show(_:Nat)≤(_:Nat);simp;omega))
 ·refine⟨_,.refl _ _ _,_,rfl,?_,rfl⟩
  exact congrArg AVal.str (a₂:=Zc fs (Q6 fs) field) (by rw[Zc,if_pos (.inl (by omega))])
 ·refine⟨_,.refl _ _ _,_,rfl,?_,rfl⟩
  exact congrArg AVal.str (a₂:=Zc fs (Q6 fs) field) (by rw[Zc,if_pos (.inr (by omega))])
 ·rename_i h1 h2
  refine⟨fs,rfl,hF,?_⟩
  have hlt:=Uc fs
  have h3:=hlt field.toNat (by omega)
  have hn:=hF.name
  generalize Q6 fs=ps at *
  repeat' first|refine And.intro ?_ ?_|(intro h;try simp only[decide_eq_true_eq,decide_eq_false_iff_not,Int.not_lt,Int.not_le,Int.toNat_natCast,↓reduceIte,Nat.reduceAdd,reduceCtorEq,Int.reduceLT,Int.lt_irrefl,gt_iff_lt,not_true_eq_false,not_false_eq_true,Bool.not_true,Bool.not_false,decide_false,decide_true,Int.reduceLE,Int.reduceSub,Bool.false_eq_true,Bool.true_eq_false,Nat.reduceEqDiff,Nat.one_ne_zero,Nat.reduceLT,and_self,and_true,true_and,Int.natCast_zero,Int.cast_ofNat_Int,List.length_nil,ne_eq,Decidable.not_not]at h)
  all_goals(try first|exact PlanIs.mk (by kernel_rfl)|omega|(show(_:Int)*((32:Nat):Int)≤_;omega)|(show(_:Int)*((8:Nat):Int)≤_;omega)|(show(_:Int)*((24:Nat):Int)≤_;omega)|exact rfl|exact Nat.le_of_ble_eq_true rfl|(show(_:Nat)≤(_:Nat);simp;done)|(show(_:Nat)≤(_:Nat);simp;omega))
  refine⟨fun n s=>∃(k:Int) (m:Nat) (out:List UInt8),(n=(k+1).toNat∧ -1≤k∧k<fs.length∧k≤m∧upK fs ps m k out=Zc fs ps field∧out.length≤2000*(1001-k).toNat)∧s=⟨[(0,vF fs),(1,.int .i64 field),(5,vI ps),(6,.str out),(7,.int .i64 k)],[],0⟩,
   ⟨_,⟨[(0,vF fs),(1,.int .i64 field),(5,vI ps),(6,.str (fs.getD field.toNat default).name),(7,.int .i64 (ps.getD field.toNat 0))],[],0⟩,VB [0,1,5,6,7],_,fs.length,_,⟨rfl,by omega,by omega,by omega,?_,?_⟩,rfl⟩,?_⟩
  ·rw[Zc,if_neg (by omega)]
  ·have:=hn field.toNat;omega
  rintro n s ⟨k,m,out,⟨rfl,hk1,hk2,hkm,hup,hol⟩,rfl⟩
  repeat' first|refine And.intro ?_ ?_|(intro h;try simp only[decide_eq_true_eq,decide_eq_false_iff_not,Int.not_lt,Int.not_le,Int.toNat_natCast,↓reduceIte,Nat.reduceAdd,reduceCtorEq,Int.reduceLT,Int.lt_irrefl,gt_iff_lt,not_true_eq_false,not_false_eq_true,Bool.not_true,Bool.not_false,decide_false,decide_true,Int.reduceLE,Int.reduceSub,Bool.false_eq_true,Bool.true_eq_false,Nat.reduceEqDiff,Nat.one_ne_zero,Nat.reduceLT,and_self,and_true,true_and,Int.natCast_zero,Int.cast_ofNat_Int,List.length_nil,ne_eq,Decidable.not_not]at h)
  all_goals(try first|exact PlanIs.mk (by kernel_rfl)|omega|(show(_:Int)*((32:Nat):Int)≤_;omega)|(show(_:Int)*((8:Nat):Int)≤_;omega)|(show(_:Int)*((24:Nat):Int)≤_;omega)|exact rfl|exact Nat.le_of_ble_eq_true rfl|(show(_:Nat)≤(_:Nat);simp;done)|(show(_:Nat)≤(_:Nat);simp;omega))
  ·show(fs.getD k.toNat default).name.length+1≤_
   have:=hn k.toNat
   omega
  ·show((fs.getD k.toNat default).name++[46]).length+out.length≤_
   have:=hn k.toNat
   simp only[List.length_append,List.length_cons,List.length_nil]
   omega
  ·obtain⟨m,rfl⟩:∃m',m=m'+1:=⟨m-1,by omega⟩
   have hk0:0<k:=‹_›
   have h4:=hlt k.toNat (by omega)
   have h5:=hn k.toNat
   rw[upK,if_pos hk0]at hup
   refine⟨_,⟨[(0,vF fs),(1,.int .i64 field),(5,vI ps),(6,.str ((fs.getD k.toNat default).name++[46]++out)),(7,.int .i64 (ps.getD k.toNat 0))],[],0⟩,VB [0,1,5,6,7],⟨_,m,_,⟨rfl,by omega,by omega,by omega,hup,?_⟩,rfl⟩,by omega⟩
   simp only[List.length_append,List.length_cons,List.length_nil]
   omega
  ·refine⟨_,.refl _ _ _,_,rfl,?_,rfl⟩
   exact congrArg AVal.str (by rw[←hup,C5 ‹_›])
theorem D7[Syms]:Z8 Tryz.prog 19 S_path:=by
 rintro args K ⟨fs,field,rfl,h,hk⟩
 exact⟨rfl,_,rfl,hk,fnI QC Qz Qe DP QV (Iv fs field h)⟩
end
end Go.Proofs.YtekipcaifckffaaGreat
