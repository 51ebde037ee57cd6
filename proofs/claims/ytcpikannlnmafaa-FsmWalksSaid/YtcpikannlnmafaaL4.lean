/-
  Small facts of rows,for the symbolic runs. Plain. 'way':the fields on the way to one. 'known' of chapter 5:no fields are too many. What is asked of 'Make',and what it answers. 'Path':a field's names,from the way's beginning.
-/
import Derived.Test.YtcpikannlnmafaaL3
import Derived.Test.YtcpikannlnmafaaL2
import Derived.Test.YtcpikannlnmafaaL1
set_option linter.unusedVariables false
set_option linter.unusedSimpArgs false
namespace Go.Proofs.Ytcpikannlnmafaa
open Go Go.Av
theorem YA(s:List UInt8):asS (.str s)=s:=rfl
theorem XA(b:Bool):asB (.bool b)=b:=rfl
theorem QI(a:Int):(encI a).getD (0+0) .any= .int .i64 a:=rfl
theorem V3(f:Fd):(encF f).getD 0 .any= .str f.name:=rfl
theorem V2(f:Fd):(encF f).getD 1 .any= .int .i64 f.rep:=rfl
theorem V1(f:Fd):(encF f).getD 2 .any= .int .i64 f.kind:=rfl
theorem Yy(f:Fd):(encF f).getD (0+0) .any= .str f.name:=rfl
theorem Yx(f:Fd):(encF f).getD (0+1) .any= .int .i64 f.rep:=rfl
theorem Yw(f:Fd):(encF f).getD (0+2) .any= .int .i64 f.kind:=rfl
theorem V0(l:Lf):(QW l).getD 0 .any= .int .i64 l.field:=rfl
theorem WZ(l:Lf):(QW l).getD 1 .any= .int .i64 l.r:=rfl
theorem WY(l:Lf):(QW l).getD 2 .any= .int .i64 l.d:=rfl
theorem WX(l:Lf):(QW l).getD 3 .any= .int .i64 l.kind:=rfl
theorem Yv(l:Lf):(QW l).getD (0+0) .any= .int .i64 l.field:=rfl
theorem Yu(l:Lf):(QW l).getD (0+1) .any= .int .i64 l.r:=rfl
theorem Yt(l:Lf):(QW l).getD (0+2) .any= .int .i64 l.d:=rfl
theorem Ys(l:Lf):(QW l).getD (0+3) .any= .int .i64 l.kind:=rfl
theorem ZG(a:Int):(encI a).length=1:=rfl
theorem sg:(∀(k:IntKind) (n:Int),asI (.int k n)=n)∧(∀s,asS (.str s)=s)∧(∀b,asB (.bool b)=b)∧(∀a,(encI a).getD 0 .any= .int .i64 a)∧(∀a,(encI a).getD (0+0) .any= .int .i64 a)∧
 (∀f,(encF f).getD 0 .any= .str f.name)∧(∀f,(encF f).getD 1 .any= .int .i64 f.rep)∧(∀f,(encF f).getD 2 .any= .int .i64 f.kind)∧(∀f,(encF f).getD 3 .any= .int .i64 f.kids)∧
 (∀f,(encF f).getD (0+0) .any= .str f.name)∧(∀f,(encF f).getD (0+1) .any= .int .i64 f.rep)∧(∀f,(encF f).getD (0+2) .any= .int .i64 f.kind)∧(∀f,(encF f).getD (0+3) .any= .int .i64 f.kids)∧
 (∀l,(QW l).getD 0 .any= .int .i64 l.field)∧(∀l,(QW l).getD 1 .any= .int .i64 l.r)∧(∀l,(QW l).getD 2 .any= .int .i64 l.d)∧(∀l,(QW l).getD 3 .any= .int .i64 l.kind)∧
 (∀l,(QW l).getD (0+0) .any= .int .i64 l.field)∧(∀l,(QW l).getD (0+1) .any= .int .i64 l.r)∧(∀l,(QW l).getD (0+2) .any= .int .i64 l.d)∧(∀l,(QW l).getD (0+3) .any= .int .i64 l.kind)∧
 (∀n:Nat,0+n=n)∧(∀n:Nat,n+0=n)∧(∀n:Nat,((n:Nat):Int).toNat=n)∧((0:Int).toNat=0)∧
 (∀(x d:AVal) (l:List AVal),(x::l).getD 0 d=x)∧(∀(x d:AVal) (l:List AVal) (n:Nat),(x::l).getD (n+1) d=l.getD n d)∧(∀(x d:List AVal) (l:List (List AVal)),(x::l).getD 0 d=x)∧(∀(x d:List AVal) (l:List (List AVal)) (n:Nat),(x::l).getD (n+1) d=l.getD n d):=
 ⟨fun _ _=>rfl,fun _=>rfl,fun _=>rfl,fun _=>rfl,fun _=>rfl,fun _=>rfl,fun _=>rfl,fun _=>rfl,fun _=>rfl,fun _=>rfl,fun _=>rfl,fun _=>rfl,fun _=>rfl,fun _=>rfl,fun _=>rfl,fun _=>rfl,fun _=>rfl,fun _=>rfl,fun _=>rfl,fun _=>rfl,fun _=>rfl,
  Nat.zero_add,Nat.add_zero,Int.toNat_natCast,Int.toNat_zero,fun _ _ _=>rfl,fun _ _ _ _=>rfl,fun _ _ _=>rfl,fun _ _ _ _=>rfl⟩
theorem sx:(∀(p:Prop) [Decidable p],(decide p=true)=p)∧(∀(p:Prop) [Decidable p],(decide p=false)= ¬p)∧(∀a b:Int,(¬a<b)=(b≤a))∧(∀a b:Int,(¬a≤b)=(b<a))∧(∀n:Nat,((n:Nat):Int).toNat=n)∧(∀a:Int,(a<a)=False)∧
 (∀a b:Int,(a>b)=(b<a))∧(∀a b:Nat,(a>b)=(b<a))∧((¬True)=False)∧((¬False)=True)∧((!true)=false)∧((!false)=true)∧(decide False=false)∧(decide True=true)∧((false=true)=False)∧((true=false)=False)∧((1:Nat)=0)=False∧
 (∀p:Prop,(p∧p)=p)∧(∀p:Prop,(p∧True)=p)∧(∀p:Prop,(True∧p)=p)∧(((0:Nat):Int)=0)∧(∀α:Type,([]:List α).length=0)∧(∀(α:Type) (a b:α),(a≠b)= ¬(a=b))∧(∀(p:Prop) [Decidable p],(¬¬p)=p)∧
 (∀b:Bool,((!b)=true)=(b=false))∧(∀b:Bool,((!b)=false)=(b=true))∧(∀(α β:Type) (f:α→β) (l:List α),(l.map f).length=l.length):=by
 refine⟨fun p _=>decide_eq_true_eq,fun p _=>propext decide_eq_false_iff_not,fun a b=>propext Int.not_lt,fun a b=>propext Int.not_le,Int.toNat_natCast,fun a=>eq_false (Int.lt_irrefl a),fun a b=>rfl,fun a b=>rfl,not_true_eq_false,not_false_eq_true,rfl,rfl,rfl,rfl,by simp,by simp,by simp,and_self,and_true,true_and,rfl,fun _=>rfl,fun _ _ _=>rfl,fun p _=>propext Decidable.not_not,fun b=>by cases b<;>simp,fun b=>by cases b<;>simp,fun _ _ f l=>List.length_map ..⟩
theorem cz{P:Prop}(h:P:=by first|((with_reducible refine PlanIs.mk ?_);kernel_rfl)|((with_reducible refine NoSel.mk ?_);kernel_rfl)|((with_reducible refine Apart.mk ?_);kernel_rfl)|((with_reducible first|show(_:Nat)≤_|show(_:Nat)<_);first|omega|(simp only[sg,List.length_map];omega)|exact Nat.le_of_ble_eq_true rfl)|((with_reducible first|show(_:Int)≤_|show(_:Int)<_);first|omega|(simp only[sg,List.length_map];omega))|((with_reducible show _=_);exact rfl)):P:=h
theorem nz{p q:Prop}(h:p)(k:¬p:=by omega):q:=absurd h k
theorem dz{q:Prop}(e:q:=by(try first|replace h:=of_decide_eq_true h|replace h:=of_decide_eq_false h);(try simp only[sg]at h);(try simp only[sx,↓reduceIte,Nat.reduceAdd,reduceCtorEq,Int.reduceLT,Int.reduceLE,Int.reduceSub,Nat.reduceEqDiff,Nat.reduceLT]at h);first|done|exact nz h):q:=e
theorem cv{q:Prop}(e:q:=by(try first|replace h:=of_decide_eq_true h|replace h:=of_decide_eq_false h);(try simp only[sg]at h);(try simp only[sx,↓reduceIte,Nat.reduceAdd,reduceCtorEq,Int.reduceLT,Int.reduceLE,Int.reduceSub,Nat.reduceEqDiff,Nat.reduceLT]at h);exact h):q:=e
theorem dzh{q:Prop}(e:q:=by(try first|replace h:=of_decide_eq_true h|replace h:=of_decide_eq_false h);(try simp only[sg,hx1]at h);(try simp only[sx,↓reduceIte,Nat.reduceAdd,reduceCtorEq,Int.reduceLT,Int.reduceLE,Int.reduceSub,Nat.reduceEqDiff,Nat.reduceLT]at h);first|done|exact nz h):q:=e
theorem cvh{q:Prop}(e:q:=by(try first|replace h:=of_decide_eq_true h|replace h:=of_decide_eq_false h);(try simp only[sg,hx1]at h);(try simp only[sx,↓reduceIte,Nat.reduceAdd,reduceCtorEq,Int.reduceLT,Int.reduceLE,Int.reduceSub,Nat.reduceEqDiff,Nat.reduceLT]at h);exact h):q:=e
theorem dzi{q:Prop}(e:q:=by(try first|replace h:=of_decide_eq_true h|replace h:=of_decide_eq_false h);(try simp only[sg,hx1,hx2,hx3,hx4]at h);(try simp only[sx,↓reduceIte,Nat.reduceAdd,reduceCtorEq,Int.reduceLT,Int.reduceLE,Int.reduceSub,Nat.reduceEqDiff,Nat.reduceLT]at h);first|done|exact nz h):q:=e
theorem cvi{q:Prop}(e:q:=by(try first|replace h:=of_decide_eq_true h|replace h:=of_decide_eq_false h);(try simp only[sg,hx1,hx2,hx3,hx4]at h);(try simp only[sx,↓reduceIte,Nat.reduceAdd,reduceCtorEq,Int.reduceLT,Int.reduceLE,Int.reduceSub,Nat.reduceEqDiff,Nat.reduceLT]at h);exact h):q:=e
section
set_option maxRecDepth 100000
set_option maxHeartbeats 4000000
def wyS(ps:List Int)(k:Int)(out:List Int):St:=⟨[(0,vI ps),(1,.int .i64 k),(5,.slice 0 0 out.length 1 none)],[(0,some (.cells (out.map encI) false))],1⟩
def rvS(m:Nat)(l:List Int)(i:Nat):St:=⟨[(0,.slice m 0 l.length 1 none),(2,.int .i64 i),(3,.int .i64 ((l.length:Int)-1-i))],[(m,some (.cells ((swI l i).map encI) false))],m+1⟩
theorem Ji{l:List Int}{i k:Nat}(h:k<l.length)(h1:¬(k<i∨l.length<k+i+1)):((swI l i).map encI).getD k []=encI (l.getD k 0):=by
 rw[WR encI 0 (by rw[ZC];exact h),GX h,if_neg h1]
theorem NF{l:List Int}{i j:Nat}(h:i+i+1<l.length)(hj:j=l.length-1-i):
 (((swI l i).map encI).set i (encI (l.getD j 0))).set j (Qm ((((swI l i).map encI).set i (encI (l.getD j 0))).getD j []) 0 [.int .i64 (l.getD i 0)])=(swI l (i+1)).map encI:=by
 have hne:i≠j:=by omega
 have h1:(((swI l i).map encI).set i (encI (l.getD j 0))).getD j []=encI (l.getD j 0):=by
  rw[List.getD_eq_getElem?_getD,List.getElem?_set,if_neg hne,←List.getD_eq_getElem?_getD]
  exact Ji (by omega) (by omega)
 rw[h1,show Qm (encI (l.getD j 0)) 0 [.int .i64 (l.getD i 0)]=encI (l.getD i 0) from rfl,←List.map_set,←List.map_set,hj,L7 h]
theorem OT{l:List Int}{i j:Nat}(h:i+i+1<l.length)(hj:j=l.length-1-i)(x:Int):(((swI l i).map encI).set i (encI x)).getD j []=encI (l.getD j 0):=by
 rw[List.getD_eq_getElem?_getD,List.getElem?_set,if_neg (by omega),←List.getD_eq_getElem?_getD]
 exact Ji (by omega) (by omega)
theorem PQ[Syms](ps:List Int)(n field:Nat)(hn:ps.length=n)(hl:n<1000)(ha:X5 ps n)(hf:field<n):
 fnT Qz (Qv 51 (Dn Qz Qz (Zc fns) (Z5 tys) (ZS plt) 100) Qz) (Zc fns) (Z5 tys) (ZS plt) 100 38 [vI ps,.int .i64 field] [] 0 (fun v H _=>v=vI (Vr ps field)∧H=[]):=by
 have hq:=ha field hf
 refine .inr ⟨fun l m s=>l=0∧ ∃(k:Nat) (out:List Int) (f:Nat),(k<n∧k<f∧m=k∧out++upL ps f k=upL ps (ps.length+1) field∧out.length+k≤field)∧s=wyS ps k out,?_,?_⟩
 ·by_cases h0:0≤ps.getD field 0
  · repeat' first|refine And.intro ?_ ?_|(intro h;try first|exact dz|replace h:=cv)
    all_goals try exact cz
    refine⟨_,wyS ps ((ps.getD field 0).toNat:Nat) [(field:Int)],Q1 [1] rfl ?_ ?_,rfl,_,_,ps.length,⟨by omega,by omega,rfl,?_,?_⟩,rfl⟩
    ·exact⟨.refl _,Q3 (show ps.getD field 0=_ by omega),.refl _,trivial⟩
    ·exact⟨⟨by decide,_,rfl,Q2 rfl (fI [_])⟩,trivial⟩
    ·rw[upL,if_pos (by omega),Int.toNat_natCast,show(((ps.getD field 0).toNat:Nat):Int)=ps.getD field 0 by omega];rfl
    ·show 1+_≤_;omega
  · repeat' first|refine And.intro ?_ ?_|(intro h;try first|exact dz|replace h:=cv)
    all_goals try exact cz
    have hw:upL ps (ps.length+1) field=[(field:Int)]:=by rw[upL,if_pos (by omega),Int.toNat_natCast];cases hps:ps.length with|zero=>omega|succ q=>rw[upL,if_neg h0]
    have hln:[(field:Int)].length=1:=rfl
    refine⟨fun mm s=>∃i:Nat,(2*i≤[(field:Int)].length+1∧mm=[(field:Int)].length-i)∧s=rvS 1 [(field:Int)] i,⟨_,rvS 1 [(field:Int)] 0,Q1 [0,1] rfl ?_ ?_,0,⟨by omega,rfl⟩,rfl⟩,?_⟩
    ·exact⟨Q4 rfl,.refl _,Q3 (by rfl),trivial⟩
    ·exact⟨⟨by decide,_,rfl,Q2 (by rw[BE];rfl) (fI _)⟩,trivial⟩
    rintro mm s ⟨i,⟨hi2,rfl⟩,rfl⟩
    have hx4:(([(field:Int)].length:Int)-1-(i:Int)).toNat=[(field:Int)].length-1-i:=by omega
    have hsl:=ZC [(field:Int)] i
    by_cases hlt:i+i+1<[(field:Int)].length
    ·have hx1:True=True:=rfl
     have hx2:=Ji (l:=[(field:Int)]) (i:=i) (k:=i) (by omega) (by omega)
     have hx3:=Ji (l:=[(field:Int)]) (i:=i) (k:=[(field:Int)].length-1-i) (by omega) (by omega)
     exact absurd hlt (by rw[hln];omega)
    ·have hx1:True=True:=rfl
     have hx2:=hx1
     have hx3:=hx1
     have hend:=Hb hlt hi2
     repeat' first|refine And.intro ?_ ?_|(intro h;try first|exact dzi|replace h:=cvi)
     all_goals try exact cz
     refine⟨_,.refl _ _ _,_,rfl,?_⟩
     repeat' first|refine And.intro ?_ ?_|(intro h;try first|exact dzi|replace h:=cvi)
     all_goals try exact cz
     exact⟨_,XD (enc:=encI) (k:=4) 0 (l:=swI [(field:Int)] i) rfl rfl (fI _) (List.take_of_length_le (by rw[List.length_map,hsl];exact Nat.le_refl _)) (by rw[List.length_map,hsl];exact Nat.le_refl _),_,rfl,by rw[hend,Vr,hw];rfl,rfl⟩
 ·rintro l rest m s hfl ⟨rfl,k,out,f,⟨hk,hkf,hm,hout,hol⟩,rfl⟩
  cases hfl
  have hq2:=ha k hk
  obtain⟨f,rfl⟩:∃f',f=f'+1:=⟨f-1,by omega⟩
  rw[upL,if_pos (by omega),Int.toNat_natCast]at hout
  by_cases h0:0≤ps.getD k 0
  · repeat' first|refine And.intro ?_ ?_|(intro h;try first|exact dz|replace h:=cv)
    all_goals try exact cz
    refine⟨_,wyS ps ((ps.getD k 0).toNat:Nat) (out++[(k:Int)]),Q1 [2] rfl ?_ ?_,⟨rfl,_,_,f,⟨by omega,by omega,rfl,?_,?_⟩,rfl⟩,by omega⟩
    ·exact⟨.refl _,Q3 (show ps.getD k 0=_ by omega),Q4 (by simp),trivial⟩
    ·refine⟨⟨by decide,_,rfl,Q2 ?_ (fI _)⟩,trivial⟩
     show List.take out.length (List.drop 0 (out.map encI))++[encI k]=_
     rw[List.drop_zero,List.take_of_length_le (by simp)];simp
    ·rw[←hout,show(((ps.getD k 0).toNat:Nat):Int)=ps.getD k 0 by omega];simp
    ·rw[List.length_append];show out.length+1+_≤_;omega
  · repeat' first|refine And.intro ?_ ?_|(intro h;try first|exact dz|replace h:=cv)
    all_goals try exact cz
    have hw:upL ps (ps.length+1) field=out++[(k:Int)]:=by rw[←hout];cases f with|zero=>rfl|succ q=>rw[upL,if_neg h0]
    have hln:(out++[(k:Int)]).length=out.length+1:=by simp
    refine⟨fun mm s=>∃i:Nat,(2*i≤(out++[(k:Int)]).length+1∧mm=(out++[(k:Int)]).length-i)∧s=rvS 2 (out++[(k:Int)]) i,⟨_,rvS 2 (out++[(k:Int)]) 0,Q1 [0,1,2] rfl ?_ ?_,0,⟨by omega,rfl⟩,rfl⟩,?_⟩
    ·exact⟨Q4 (by rw[hln]),.refl _,Q3 (by show((out.length+1:Nat):Int)-1=_;omega),trivial⟩
    ·exact⟨⟨by decide,_,rfl,Q2 (by rw[BE];show List.take out.length (List.drop 0 (out.map encI))++[encI k]=_;rw[List.drop_zero,List.take_of_length_le (by simp)];simp) (fI _)⟩,trivial⟩
    rintro mm s ⟨i,⟨hi2,rfl⟩,rfl⟩
    have hx4:(((out++[(k:Int)]).length:Int)-1-(i:Int)).toNat=(out++[(k:Int)]).length-1-i:=by omega
    have hsl:=ZC (out++[(k:Int)]) i
    by_cases hlt:i+i+1<(out++[(k:Int)]).length
    ·have hx1:True=True:=rfl
     have hx2:=Ji (l:=(out++[(k:Int)])) (i:=i) (k:=i) (by omega) (by omega)
     have hx3:=Ji (l:=(out++[(k:Int)])) (i:=i) (k:=(out++[(k:Int)]).length-1-i) (by omega) (by omega)
     repeat' first|refine And.intro ?_ ?_|(intro h;try first|exact dzi|replace h:=cvi)
     all_goals try exact cz
     all_goals(try first|((with_reducible show(_:Nat)<(_:Nat));simp only[hx2,hx3,hx4,ZG,List.length_set,List.length_map,hsl,Nat.zero_add,Int.toNat_natCast];omega)|((with_reducible show(_:Nat)≤(_:Nat));simp only[hx2,hx3,hx4,ZG,List.length_set,List.length_map,hsl,Nat.zero_add,Int.toNat_natCast];omega)|((with_reducible show isC _ _ _=true);simp only[hx2,hx3,hx4,Q6,Qb,QI,Nat.zero_add,Int.toNat_natCast];exact rfl))
     ·show 0+1≤List.length ((((swI (out++[(k:Int)]) i).map encI).set (0+i) (Qm (((swI (out++[(k:Int)]) i).map encI).getD (0+i) []) 0 [.int .i64 (asI ((((swI (out++[(k:Int)]) i).map encI).getD (0+(((out++[(k:Int)]).length:Int)-1-(i:Int)).toNat) []).getD 0 .any))])).getD (0+(((out++[(k:Int)]).length:Int)-1-(i:Int)).toNat) [])
      rw[Nat.zero_add i,hx4,Nat.zero_add ((out++[(k:Int)]).length-1-i),hx2,hx3];show 1≤List.length ((((swI (out++[(k:Int)]) i).map encI).set i (encI ((out++[(k:Int)]).getD ((out++[(k:Int)]).length-1-i) 0))).getD ((out++[(k:Int)]).length-1-i) []);rw[OT hlt rfl];exact Nat.le_refl 1
     ·refine⟨_,rvS 2 (out++[(k:Int)]) (i+1),Q1 [0,1,2] rfl ?_ ?_,⟨i+1,⟨by omega,rfl⟩,rfl⟩,by omega⟩
      ·exact⟨.refl _,Q3 (by omega),Q3 (by omega),trivial⟩
      ·refine⟨⟨by decide,_,rfl,Q2 ?_ (fI _)⟩,trivial⟩
       show((((swI (out++[(k:Int)]) i).map encI).set (0+i) (Qm (((swI (out++[(k:Int)]) i).map encI).getD (0+i) []) 0 [.int .i64 (asI ((((swI (out++[(k:Int)]) i).map encI).getD (0+(((out++[(k:Int)]).length:Int)-1-(i:Int)).toNat) []).getD 0 .any))])).set (0+(((out++[(k:Int)]).length:Int)-1-(i:Int)).toNat) (Qm ((((swI (out++[(k:Int)]) i).map encI).set (0+i) (Qm (((swI (out++[(k:Int)]) i).map encI).getD (0+i) []) 0 [.int .i64 (asI ((((swI (out++[(k:Int)]) i).map encI).getD (0+(((out++[(k:Int)]).length:Int)-1-(i:Int)).toNat) []).getD 0 .any))])).getD (0+(((out++[(k:Int)]).length:Int)-1-(i:Int)).toNat) []) 0 [.int .i64 (asI ((((swI (out++[(k:Int)]) i).map encI).getD (0+i) []).getD 0 .any))]))=_
       rw[Nat.zero_add i,hx4,Nat.zero_add ((out++[(k:Int)]).length-1-i),hx2,hx3];exact NF hlt rfl
    ·have hx1:True=True:=rfl
     have hx2:=hx1
     have hx3:=hx1
     have hend:=Hb hlt hi2
     repeat' first|refine And.intro ?_ ?_|(intro h;try first|exact dzi|replace h:=cvi)
     all_goals try exact cz
     refine⟨_,.refl _ _ _,_,rfl,?_⟩
     repeat' first|refine And.intro ?_ ?_|(intro h;try first|exact dzi|replace h:=cvi)
     all_goals try exact cz
     exact⟨_,XD (enc:=encI) (k:=4) 0 (l:=swI (out++[(k:Int)]) i) rfl rfl (fI _) (List.take_of_length_le (by rw[List.length_map,hsl];omega)) (by rw[List.length_map,hsl];omega),_,rfl,by rw[hend,Vr,hw];rfl,rfl⟩
end
section
set_option maxRecDepth 100000
set_option maxHeartbeats 4000000
end
def S_make:SpecI:=fun args K=>∃ns,args=[vI ns]∧(ns.length≤9223372036854775807∧K (vF (Q7 ns)))
theorem LI[Syms]:X0 Try.prog 13 S_make:=by
 rintro args K ⟨ns,rfl,h,hk⟩
 exact⟨rfl,_,rfl,hk,fnI QN QO Ot Pz Za (Pa ns h)⟩
section
set_option maxRecDepth 100000
set_option maxHeartbeats 4000000
end
end Go.Proofs.Ytcpikannlnmafaa
