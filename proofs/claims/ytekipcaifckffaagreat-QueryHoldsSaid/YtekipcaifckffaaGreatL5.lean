/-
  Small facts of rows,for the symbolic runs. Plain. The maker of records:its next raw number;'within' of chapter 8. 'Path':a field's names,from the way's beginning.
-/
import Derived.Test.YtekipcaifckffaaGreatL4
import Derived.Test.YtekipcaifckffaaGreatL3
import Derived.Test.YtekipcaifckffaaGreatL2
set_option linter.unusedVariables false
set_option linter.unusedSimpArgs false
namespace Go.Proofs.YtekipcaifckffaaGreat
open Go Go.Av
theorem Yw(s:List UInt8):asS (.str s)=s:=rfl
theorem XH(b:Bool):asB (.bool b)=b:=rfl
theorem QU(a:Int):(encI a).getD (0+0) .any= .int .i64 a:=rfl
theorem WJ(f:Fd):(encF f).getD 0 .any= .str f.name:=rfl
theorem WI(f:Fd):(encF f).getD 1 .any= .int .i64 f.rep:=rfl
theorem WH(f:Fd):(encF f).getD 2 .any= .int .i64 f.kind:=rfl
theorem Ys(f:Fd):(encF f).getD (0+0) .any= .str f.name:=rfl
theorem Yr(f:Fd):(encF f).getD (0+1) .any= .int .i64 f.rep:=rfl
theorem Yq(f:Fd):(encF f).getD (0+2) .any= .int .i64 f.kind:=rfl
theorem WG(l:Lf):(QT l).getD 0 .any= .int .i64 l.field:=rfl
theorem WF(l:Lf):(QT l).getD 1 .any= .int .i64 l.r:=rfl
theorem WE(l:Lf):(QT l).getD 2 .any= .int .i64 l.d:=rfl
theorem WD(l:Lf):(QT l).getD 3 .any= .int .i64 l.kind:=rfl
theorem Yp(l:Lf):(QT l).getD (0+0) .any= .int .i64 l.field:=rfl
theorem Yo(l:Lf):(QT l).getD (0+1) .any= .int .i64 l.r:=rfl
theorem Yn(l:Lf):(QT l).getD (0+2) .any= .int .i64 l.d:=rfl
theorem Ym(l:Lf):(QT l).getD (0+3) .any= .int .i64 l.kind:=rfl
theorem ZY(a:Int):(encI a).length=1:=rfl
theorem sg:(∀(k:IntKind) (n:Int),asI (.int k n)=n)∧(∀s,asS (.str s)=s)∧(∀b,asB (.bool b)=b)∧(∀a,(encI a).getD 0 .any= .int .i64 a)∧(∀a,(encI a).getD (0+0) .any= .int .i64 a)∧
 (∀f,(encF f).getD 0 .any= .str f.name)∧(∀f,(encF f).getD 1 .any= .int .i64 f.rep)∧(∀f,(encF f).getD 2 .any= .int .i64 f.kind)∧(∀f,(encF f).getD 3 .any= .int .i64 f.kids)∧
 (∀f,(encF f).getD (0+0) .any= .str f.name)∧(∀f,(encF f).getD (0+1) .any= .int .i64 f.rep)∧(∀f,(encF f).getD (0+2) .any= .int .i64 f.kind)∧(∀f,(encF f).getD (0+3) .any= .int .i64 f.kids)∧
 (∀l,(QT l).getD 0 .any= .int .i64 l.field)∧(∀l,(QT l).getD 1 .any= .int .i64 l.r)∧(∀l,(QT l).getD 2 .any= .int .i64 l.d)∧(∀l,(QT l).getD 3 .any= .int .i64 l.kind)∧
 (∀l,(QT l).getD (0+0) .any= .int .i64 l.field)∧(∀l,(QT l).getD (0+1) .any= .int .i64 l.r)∧(∀l,(QT l).getD (0+2) .any= .int .i64 l.d)∧(∀l,(QT l).getD (0+3) .any= .int .i64 l.kind)∧
 (∀n:Nat,0+n=n)∧(∀n:Nat,n+0=n)∧(∀n:Nat,((n:Nat):Int).toNat=n)∧((0:Int).toNat=0)∧
 (∀(x d:AVal) (l:List AVal),(x::l).getD 0 d=x)∧(∀(x d:AVal) (l:List AVal) (n:Nat),(x::l).getD (n+1) d=l.getD n d)∧(∀(x d:List AVal) (l:List (List AVal)),(x::l).getD 0 d=x)∧(∀(x d:List AVal) (l:List (List AVal)) (n:Nat),(x::l).getD (n+1) d=l.getD n d):=
 ⟨fun _ _=>rfl,fun _=>rfl,fun _=>rfl,fun _=>rfl,fun _=>rfl,fun _=>rfl,fun _=>rfl,fun _=>rfl,fun _=>rfl,fun _=>rfl,fun _=>rfl,fun _=>rfl,fun _=>rfl,fun _=>rfl,fun _=>rfl,fun _=>rfl,fun _=>rfl,fun _=>rfl,fun _=>rfl,fun _=>rfl,fun _=>rfl,
  Nat.zero_add,Nat.add_zero,Int.toNat_natCast,Int.toNat_zero,fun _ _ _=>rfl,fun _ _ _ _=>rfl,fun _ _ _=>rfl,fun _ _ _ _=>rfl⟩
theorem sx:(∀(p:Prop) [Decidable p],(decide p=true)=p)∧(∀(p:Prop) [Decidable p],(decide p=false)= ¬p)∧(∀a b:Int,(¬a<b)=(b≤a))∧(∀a b:Int,(¬a≤b)=(b<a))∧(∀n:Nat,((n:Nat):Int).toNat=n)∧(∀a:Int,(a<a)=False)∧
 (∀a b:Int,(a>b)=(b<a))∧(∀a b:Nat,(a>b)=(b<a))∧((¬True)=False)∧((¬False)=True)∧((!true)=false)∧((!false)=true)∧(decide False=false)∧(decide True=true)∧((false=true)=False)∧((true=false)=False)∧((1:Nat)=0)=False∧
 (∀p:Prop,(p∧p)=p)∧(∀p:Prop,(p∧True)=p)∧(∀p:Prop,(True∧p)=p)∧(((0:Nat):Int)=0)∧(∀α:Type,([]:List α).length=0)∧(∀(α:Type) (a b:α),(a≠b)= ¬(a=b))∧(∀(p:Prop) [Decidable p],(¬¬p)=p)∧
 (∀b:Bool,((!b)=true)=(b=false))∧(∀b:Bool,((!b)=false)=(b=true))∧(∀(α β:Type) (f:α→β) (l:List α),(l.map f).length=l.length):=by
 refine⟨fun p _=>decide_eq_true_eq,fun p _=>propext decide_eq_false_iff_not,fun a b=>propext Int.not_lt,fun a b=>propext Int.not_le,Int.toNat_natCast,fun a=>eq_false (Int.lt_irrefl a),fun a b=>rfl,fun a b=>rfl,not_true_eq_false,not_false_eq_true,rfl,rfl,rfl,rfl,by simp,by simp,by simp,and_self,and_true,true_and,rfl,fun _=>rfl,fun _ _ _=>rfl,fun p _=>propext Decidable.not_not,fun b=>by cases b<;>simp,fun b=>by cases b<;>simp,fun _ _ f l=>List.length_map ..⟩
theorem cz{P:Prop}(h:P:=by first|((with_reducible refine PlanIs.mk ?_);kernel_rfl)|((with_reducible refine NoSel.mk ?_);kernel_rfl)|((with_reducible refine Apart.mk ?_);kernel_rfl)|((with_reducible first|show(_:Nat)≤_|show(_:Nat)<_);first|omega|(simp only[sg,List.length_map];omega)|exact Nat.le_of_ble_eq_true rfl)|((with_reducible first|show(_:Int)≤_|show(_:Int)<_);first|omega|(simp only[sg,List.length_map];omega))|((with_reducible show _=_);exact rfl)):P:=h
theorem nz{p q:Prop}(h:p)(k:¬p:=by omega):q:=absurd h k
theorem dz{q:Prop}(e:q:=by(try first|replace h:=of_decide_eq_true h|replace h:=of_decide_eq_false h);(try simp only[sg]at h);(try simp only[sx,↓reduceIte,Nat.reduceAdd,reduceCtorEq,Int.reduceLT,Int.reduceLE,Int.reduceSub,Nat.reduceEqDiff,Nat.reduceLT]at h);first|done|exact nz h):q:=e
theorem cv{q:Prop}(e:q:=by(try first|replace h:=of_decide_eq_true h|replace h:=of_decide_eq_false h);(try simp only[sg]at h);(try simp only[sx,↓reduceIte,Nat.reduceAdd,reduceCtorEq,Int.reduceLT,Int.reduceLE,Int.reduceSub,Nat.reduceEqDiff,Nat.reduceLT]at h);exact h):q:=e
theorem dzh{q:Prop}(e:q:=by(try first|replace h:=of_decide_eq_true h|replace h:=of_decide_eq_false h);(try simp only[sg,hx1]at h);(try simp only[sx,↓reduceIte,Nat.reduceAdd,reduceCtorEq,Int.reduceLT,Int.reduceLE,Int.reduceSub,Nat.reduceEqDiff,Nat.reduceLT]at h);first|done|exact nz h):q:=e
theorem cvh{q:Prop}(e:q:=by(try first|replace h:=of_decide_eq_true h|replace h:=of_decide_eq_false h);(try simp only[sg,hx1]at h);(try simp only[sx,↓reduceIte,Nat.reduceAdd,reduceCtorEq,Int.reduceLT,Int.reduceLE,Int.reduceSub,Nat.reduceEqDiff,Nat.reduceLT]at h);exact h):q:=e
theorem dzi{q:Prop}(e:q:=by(try first|replace h:=of_decide_eq_true h|replace h:=of_decide_eq_false h);(try simp only[sg,hx1,hx2,hx3,hx4]at h);(try simp only[sx,↓reduceIte,Nat.reduceAdd,reduceCtorEq,Int.reduceLT,Int.reduceLE,Int.reduceSub,Nat.reduceEqDiff,Nat.reduceLT]at h);first|done|exact nz h):q:=e
theorem cvi{q:Prop}(e:q:=by(try first|replace h:=of_decide_eq_true h|replace h:=of_decide_eq_false h);(try simp only[sg,hx1,hx2,hx3,hx4]at h);(try simp only[sx,↓reduceIte,Nat.reduceAdd,reduceCtorEq,Int.reduceLT,Int.reduceLE,Int.reduceSub,Nat.reduceEqDiff,Nat.reduceLT]at h);exact h):q:=e
section
set_option maxRecDepth 100000
set_option maxHeartbeats 4000000
abbrev S1(fs:List Fd)(ps ns:List Int)(a:Nat):List AVal:=[vF fs,vI ps,vI ns,.int .i64 (a:Nat)]
abbrev ZA(fs:List Fd)(ps ns:List Int)(a:Nat):Option Blk:=some (.cells [S1 fs ps ns a] false)
def FI(Post:AVal→Heap→Nat→Prop):AVal→Heap→Nat→Prop:=fun v H nx=>∃K:Heap,K.sub H∧Post v K nx
theorem Xw.forget[Syms]{P:Program}{f:FuncId}{args:List AVal}{H:Heap}{nx:Nat}{Post:AVal→Heap→Nat→Prop}(h:Xw P f args H nx (FI Post)):Xw P f args H nx Post:=by
 refine⟨h.1,fun ι w vs hv hH hb=>(h.2 ι w vs hv hH hb).mono ?_⟩
 rintro e w' ⟨v,H',nx',r,κ,⟨K,hs,hp⟩,h2,h3,h4,h5,h6,h7⟩
 exact⟨v,K,nx',r,κ,hp,h2,h3,h4.sub hs,⟨h5.keep,h5.fzle,h5.os,h5.tape,h5.output,h5.size,h5.same,fun g hg=>h5.own g (hg.sub hs),h5.fzs,h5.fresh⟩,h6,h7⟩
theorem Ed{ρ:Nat→Nat}{row row':List AVal}(h:KP row' row)(hf:∀x∈row,x.flat=true):WkB (.cells [row'] false) ((Blk.cells [row] false).ren ρ):=by
 rw[KF ρ (Yg hf QY)]
 refine .each _ _ _ rfl fun k r r' h1 h2=>?_
 cases k with
 |zero=>
  cases h1;cases h2
  exact⟨h.at.1.symm,h.at.2⟩
 |succ k=>simp at h1
theorem Ek{b:Option Blk}{l:Heap}:Heap.sub [(0,b)] ((0,b)::l):=fun n c h=>by
 rw[Heap.get_cons]at h ⊢
 by_cases hz:n=0
 ·subst hz;exact h
 ·rw[QE hz]at h;rw[show(bif false then b else Heap.get [] n)=none from Heap.get_nil n]at h;cases h
theorem ZU{ρ:Nat→Nat}{row row':List AVal}(h:KP row' (AVal.renL ρ row)):WkB (.cells [row'] false) ((Blk.cells [row] false).ren ρ):=by
 simp only[Blk.ren,List.map_cons,List.map_nil]
 refine .each _ _ _ rfl fun k r r' h1 h2=>?_
 cases k with
 |zero=>
  cases h1;cases h2
  exact⟨h.at.1.symm,h.at.2⟩
 |succ k=>simp at h1
theorem RE{x:Int}(h:-9223372036854775808≤x∧x≤9223372036854775807):wr .i64 x=x:=if_pos h
noncomputable def SJ:Nat→Nat→Pl:=Xx [(41,3)] (QW plt)
theorem NI[Syms]{Post:AVal→Heap→Nat→Prop}(fs:List Fd)(ps ns:List Int)(a:Nat)(hn:ns.length≤9223372036854775807)(ha:a≤ns.length)(hP:Post (.int .i64 (Zn ns a).1) [(0,ZA fs ps ns (Zn ns a).2)] 1):
 fnT Qi Qi (QK fns) (QH tys) SJ 100 41 [.ptr 0 0 0] [(0,ZA fs ps ns a)] 1 Post:=by
 unfold Zn at hP
 by_cases h:a<ns.length
 ·rw[if_pos h]at hP
  repeat' first|refine And.intro ?_ ?_|(intro h;try first|exact dz|replace h:=cv)
  all_goals try exact cz
  refine⟨⟨[(0,.ptr 0 0 0)],[(0,ZA fs ps ns (a+1))],1⟩,Q1 [0] (by exact rfl) ⟨.refl _,trivial⟩ ⟨⟨by decide,_,rfl,ZU (row:=S1 fs ps ns (a+1)) ⟨.refl _,.refl _,.refl _,Q8 (k:=.i64) (show wr .i64 ((a:Int)+1)=((a+1:Nat):Int) from(RE (by omega)).trans (Int.natCast_succ a).symm),trivial⟩⟩,trivial⟩,?_⟩
  repeat' first|refine And.intro ?_ ?_|(intro h;try first|exact dz|replace h:=cv)
  all_goals try exact cz
  exact⟨⟨[(2,.int .i64 (ns.getD a 0))],[(0,ZA fs ps ns (a+1))],1⟩,Q1 [0] (by exact rfl) ⟨Q8 (by show ns.getD (((a+1:Nat):Int)-1).toNat 0=ns.getD a 0;rw[show(((a+1:Nat):Int)-1).toNat=a by omega]),trivial⟩ ⟨⟨by decide,_,rfl,.refl _⟩,trivial⟩,_,rfl,hP⟩
 ·rw[if_neg h]at hP
  repeat' first|refine And.intro ?_ ?_|(intro h;try first|exact dz|replace h:=cv)
  all_goals try exact cz
  exact⟨⟨[(2,.int .i64 0)],[(0,ZA fs ps ns a)],1⟩,Q1 [0] (by exact rfl) ⟨.refl _,trivial⟩ ⟨⟨by decide,_,rfl,.refl _⟩,trivial⟩,_,rfl,hP⟩
def Hf:SpecT:=fun args H nx Post=>∃fs ps ns a,args=[.ptr 0 0 0]∧H=[(0,ZA fs ps ns a)]∧nx=1∧ns.length≤9223372036854775807∧a≤ns.length∧Post (.int .i64 (Zn ns a).1) [(0,ZA fs ps ns (Zn ns a).2)] 1
theorem IY[Syms]:Hf.ok Tryz.prog 41:=by
 rintro args H nx Post ⟨fs,ps,ns,a,rfl,rfl,rfl,hn,ha,h⟩
 exact Zw Qu Qs Qd Qh QJ (NI fs ps ns a hn ha h)
def G_within8:List AVal→(AVal→Prop)→Prop:=fun args K=>∃a n,args=[.int .i64 a,.int .i64 n]∧(0<n∧n≤4611686018427387904)∧K (.int .i64 (wi a n))
theorem C7[Syms]:FA Tryz.prog 42 G_within8:=by
 rintro args K ⟨a,n,rfl,⟨h1,h2⟩,hk⟩
 refine⟨Gh,_,hk,fun ι w vs hv=>?_⟩
 obtain⟨v0,vs0,rfl,hv0,hv⟩:=hv.uncons
 obtain⟨v1,vs1,rfl,hv1,hv⟩:=hv.uncons
 obtain rfl:=hv.unnil
 obtain rfl:=hv0.of_int
 obtain rfl:=hv1.of_int
 refine(K7 a n h1 h2 w).mono ?_
 rintro e w' ⟨rfl,rfl⟩
 exact⟨_,rfl,.int _ _,rfl⟩
theorem VI(ns:List Int){a:Nat}(h:a≤ns.length):(Zn ns a).2≤ns.length:=by
 unfold Zn
 split
 ·exact ‹_›
 ·exact h
end
section
set_option maxRecDepth 100000
set_option maxHeartbeats 4000000
theorem Pb[Syms](fs:List Fd)(field:Int)(hF:FsOk fs):
 fnT Qi Si (QK fns) (QH tys) (QW plt) 100 48 [vF fs,.int .i64 field] [] 0 (fun v H _=>v= .str (QS fs (Q0 fs) field)∧H=[]):=by
 have hl:=hF.len
 have hpl:=Y0 fs
 repeat' first|refine And.intro ?_ ?_|(intro h;try simp only[decide_eq_true_eq,decide_eq_false_iff_not,Int.not_lt,Int.not_le,Int.toNat_natCast,↓reduceIte,Nat.reduceAdd,reduceCtorEq,Int.reduceLT,Int.lt_irrefl,gt_iff_lt,not_true_eq_false,not_false_eq_true,Bool.not_true,Bool.not_false,decide_false,decide_true,Int.reduceLE,Int.reduceSub,Bool.false_eq_true,Bool.true_eq_false,Nat.reduceEqDiff,Nat.one_ne_zero,Nat.reduceLT,and_self,and_true,true_and,Int.natCast_zero,Int.cast_ofNat_Int,List.length_nil,ne_eq,Decidable.not_not]at h)
 all_goals(try first|exact PlanIs.mk (by kernel_rfl)|omega|(show(_:Int)*((32:Nat):Int)≤_;omega)|(show(_:Int)*((8:Nat):Int)≤_;omega)|(show(_:Int)*((24:Nat):Int)≤_;omega)|exact rfl|exact Nat.le_of_ble_eq_true rfl|(show(_:Nat)≤(_:Nat);simp;done)|(show(_:Nat)≤(_:Nat);simp;omega))
 ·refine⟨_,.refl _ _ _,_,rfl,?_,rfl⟩
  exact congrArg AVal.str (a₂:=QS fs (Q0 fs) field) (by rw[QS,if_pos (.inl (by omega))])
 ·refine⟨_,.refl _ _ _,_,rfl,?_,rfl⟩
  exact congrArg AVal.str (a₂:=QS fs (Q0 fs) field) (by rw[QS,if_pos (.inr (by omega))])
 ·rename_i h1 h2
  refine⟨fs,rfl,hF,?_⟩
  have hlt:=V8 fs
  have h3:=hlt field.toNat (by omega)
  have hn:=hF.name
  generalize Q0 fs=ps at *
  repeat' first|refine And.intro ?_ ?_|(intro h;try simp only[decide_eq_true_eq,decide_eq_false_iff_not,Int.not_lt,Int.not_le,Int.toNat_natCast,↓reduceIte,Nat.reduceAdd,reduceCtorEq,Int.reduceLT,Int.lt_irrefl,gt_iff_lt,not_true_eq_false,not_false_eq_true,Bool.not_true,Bool.not_false,decide_false,decide_true,Int.reduceLE,Int.reduceSub,Bool.false_eq_true,Bool.true_eq_false,Nat.reduceEqDiff,Nat.one_ne_zero,Nat.reduceLT,and_self,and_true,true_and,Int.natCast_zero,Int.cast_ofNat_Int,List.length_nil,ne_eq,Decidable.not_not]at h)
  all_goals(try first|exact PlanIs.mk (by kernel_rfl)|omega|(show(_:Int)*((32:Nat):Int)≤_;omega)|(show(_:Int)*((8:Nat):Int)≤_;omega)|(show(_:Int)*((24:Nat):Int)≤_;omega)|exact rfl|exact Nat.le_of_ble_eq_true rfl|(show(_:Nat)≤(_:Nat);simp;done)|(show(_:Nat)≤(_:Nat);simp;omega))
  refine⟨fun n s=>∃(k:Int) (m:Nat) (out:List UInt8),(n=(k+1).toNat∧ -1≤k∧k<fs.length∧k≤m∧upK fs ps m k out=QS fs ps field∧out.length≤2000*(1001-k).toNat)∧s=⟨[(0,vF fs),(1,.int .i64 field),(5,vI ps),(6,.str out),(7,.int .i64 k)],[],0⟩,
   ⟨_,⟨[(0,vF fs),(1,.int .i64 field),(5,vI ps),(6,.str (fs.getD field.toNat default).name),(7,.int .i64 (ps.getD field.toNat 0))],[],0⟩,U3 [0,1,5,6,7],_,fs.length,_,⟨rfl,by omega,by omega,by omega,?_,?_⟩,rfl⟩,?_⟩
  ·rw[QS,if_neg (by omega)]
  ·have:=hn field.toNat;omega
  rintro n s ⟨k,m,out,⟨rfl,hk1,hk2,hkm,hup,hol⟩,rfl⟩
  repeat' first|refine And.intro ?_ ?_|(intro h;try simp only[decide_eq_true_eq,decide_eq_false_iff_not,Int.not_lt,Int.not_le,Int.toNat_natCast,↓reduceIte,Nat.reduceAdd,reduceCtorEq,Int.reduceLT,Int.lt_irrefl,gt_iff_lt,not_true_eq_false,not_false_eq_true,Bool.not_true,Bool.not_false,decide_false,decide_true,Int.reduceLE,Int.reduceSub,Bool.false_eq_true,Bool.true_eq_false,Nat.reduceEqDiff,Nat.one_ne_zero,Nat.reduceLT,and_self,and_true,true_and,Int.natCast_zero,Int.cast_ofNat_Int,List.length_nil,ne_eq,Decidable.not_not]at h)
  all_goals(try first|exact PlanIs.mk (by kernel_rfl)|omega|(show(_:Int)*((32:Nat):Int)≤_;omega)|(show(_:Int)*((8:Nat):Int)≤_;omega)|(show(_:Int)*((24:Nat):Int)≤_;omega)|exact rfl|exact Nat.le_of_ble_eq_true rfl|(show(_:Nat)≤(_:Nat);simp;done)|(show(_:Nat)≤(_:Nat);simp;omega))
  ·show(fs.getD k.toNat default).name.length+1≤_
   have:=hn k.toNat
   omega
  ·show((fs.getD k.toNat default).name++[46]).length+out.length≤_
   have:=hn k.toNat
   simp only[List.length_append,List.length_cons,List.length_nil]
   omega
  ·obtain⟨m,rfl⟩:∃m',m=m'+1:=⟨m-1,by omega⟩
   have hk0:0<k:=‹_›
   have h4:=hlt k.toNat (by omega)
   have h5:=hn k.toNat
   rw[upK,if_pos hk0]at hup
   refine⟨_,⟨[(0,vF fs),(1,.int .i64 field),(5,vI ps),(6,.str ((fs.getD k.toNat default).name++[46]++out)),(7,.int .i64 (ps.getD k.toNat 0))],[],0⟩,U3 [0,1,5,6,7],⟨_,m,_,⟨rfl,by omega,by omega,by omega,hup,?_⟩,rfl⟩,by omega⟩
   simp only[List.length_append,List.length_cons,List.length_nil]
   omega
  ·refine⟨_,.refl _ _ _,_,rfl,?_,rfl⟩
   exact congrArg AVal.str (by rw[←hup,FF ‹_›])
def S_path:SpecI:=fun args K=>∃fs field,args=[vF fs,.int .i64 field]∧FsOk fs∧K (.str (QS fs (Q0 fs) field))
theorem ED[Syms]:Z5 Tryz.prog 48 S_path:=by
 rintro args K ⟨fs,field,rfl,h,hk⟩
 exact⟨rfl,_,rfl,hk,fnI Qu Qs Qd Oi QJ (Pb fs field h)⟩
end
end Go.Proofs.YtekipcaifckffaaGreat
