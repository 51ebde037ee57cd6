/-
  Shapes of records as plain data,and how they are laid out;what it is to walk over one. Plain. Numbers as bytes:varints,and little-endian ones. Plain. 'twin':has a field ahead in the same group that name? 'Parents':the places of fields' groups. 'Path':a field's names,from the way's beginning;the parents' places lie ahead. 'Make':a shape,of raw numbers.
-/
import Derived.Test.YtajieadpaeggcaaSxOne
import Derived.Test.YtajieadpaeggcaaTab
import Derived.Test.YtajieadpaeggcaaWithin
set_option linter.unusedVariables false
set_option linter.unusedSimpArgs false
namespace Go.Proofs.Ytajieadpaeggcaa
open Go Go.Av
structure Fd where
 name:List UInt8
 rep:Int
 kind:Int
 kids:Int
 deriving Inhabited
structure Lf where
 field:Int
 r:Int
 d:Int
 kind:Int
 deriving Inhabited
def encF(f:Fd):List AVal:=[.str f.name,.int .i64 f.rep,.int .i64 f.kind,.int .i64 f.kids]
def Qk(p:Int):List AVal:=[.int .i64 p]
def Zt(l:Lf):List AVal:=[.int .i64 l.field,.int .i64 l.r,.int .i64 l.d,.int .i64 l.kind]
def encG(p:Int×Int):List AVal:=[.int .i64 p.1,.int .i64 p.2]
abbrev vF(fs:List Fd):AVal:=vT 4 encF default fs
abbrev vI(l:List Int):AVal:=vT 1 Qk 0 l
abbrev vL(l:List Lf):AVal:=vT 4 Zt default l
theorem fF(l:List Fd):Qj (l.map encF):=XR (fun a x hx=>by simp[encF]at hx;rcases hx with rfl|rfl|rfl|rfl<;>rfl) l
theorem fI(l:List Int):Qj (l.map Qk):=XR (fun a x hx=>by simp[Qk]at hx;subst hx;rfl) l
theorem fL(l:List Lf):Qj (l.map Zt):=XR (fun a x hx=>by simp[Zt]at hx;rcases hx with rfl|rfl|rfl|rfl<;>rfl) l
theorem fG(l:List (Int×Int)):Qj (l.map encG):=XR (fun a x hx=>by simp[encG]at hx;rcases hx with rfl|rfl<;>rfl) l
theorem V8{α:Type}{enc:α→List AVal}{z:Nat}(h:∀a,(enc a).length=z)(l:List α)(a b:Nat):V9 z (((l.map enc).drop a).take b)=true:=by
 rw[V9,List.all_eq_true]
 intro r hr
 obtain⟨x,_,rfl⟩:=List.mem_map.1 (List.mem_of_mem_drop (List.mem_of_mem_take hr))
 rw[h];exact Nat.beq_refl z
theorem aI(l:List Int)(a b:Nat):V9 1 (((l.map Qk).drop a).take b)=true:=V8 (enc:=Qk) (z:=1) (fun _=>rfl) l a b
abbrev Stk:=List (Int×Int)
def Zr:Stk→Stk
 |[]=>[]
 |(a,k)::t=>if k≤0 then Zr t else(a,k)::t
def U1:Stk→Int
 |[]=>-1
 |(a,_)::_=>a
def Yf:Stk→Stk
 |[]=>[]
 |(a,k)::t=>(a,k-1)::t
def Zo(i:Nat)(f:Fd)(st:Stk):Stk:=if f.kind=0 then((i:Int),f.kids)::st else st
def Xo:List Fd→Nat→Stk→List (Int×Int)
 |[],_,_=>[]
 |f::fs,i,st=>(U1 (Zr st),((Zr st).length:Int))::Xo fs (i+1) (Zo i f (Yf (Zr st)))
def Qu(fs:List Fd):List Int:=(Xo fs 0 []).map (·.1)
theorem Wi:∀(fs:List Fd) (i:Nat) (st:Stk),(Xo fs i st).length=fs.length
 |[],_,_=>rfl
 |f::fs,i,st=>by simp[Xo,Wi fs]
def Hi:Nat→Nat→List UInt8
 |0,n=>[UInt8.ofNat n]
 |k+1,n=>if n<128 then[UInt8.ofNat n]else UInt8.ofNat (n%128+128)::Hi k (n/128)
def Q04(n:Nat):List UInt8:=Hi 9 n
def YU:List UInt8→Nat→Nat→Nat×Nat×Int
 |[],_,_=>(0,0,8)
 |x::r,k,v=>if k=9∧1<x.toNat then(0,0,14)else
  if x.toNat<128 then(if x.toNat=0∧0<k then(0,0,10)else(v+x.toNat%128*2^(7*k),k+1,0))else YU r (k+1) (v+x.toNat%128*2^(7*k))
theorem ofNat_lt{n:Nat}(h:n<256):(UInt8.ofNat n).toNat=n:=by rw[UInt8.toNat_ofNat'];omega
theorem FU:∀(f n:Nat),(Hi f n).length≤f+1
 |0,n=>by simp[Hi]
 |f+1,n=>by
  rw[Hi]
  split
  ·simp
  ·have:=FU f (n/128)
   simp;omega
def leB:Nat→Nat→List UInt8
 |0,_=>[]
 |n+1,v=>UInt8.ofNat (v%256)::leB n (v/256)
def leV:List UInt8→Nat
 |[]=>0
 |x::r=>x.toNat+256*leV r
theorem Cg:∀n v,(leB n v).length=n
 |0,_=>rfl
 |n+1,v=>by rw[leB,List.length_cons,Cg n]
section
def WY(fs:List Fd)(ps:List Int)(i k:Nat):Bool:=decide (ps.getD k 0=ps.getD i 0)&&eqb (fs.getD k default).name (fs.getD i default).name
def JJ(fs:List Fd)(ps:List Int)(i:Nat):Bool:=(List.range i).any (WY fs ps i)
set_option maxRecDepth 100000
set_option maxHeartbeats 2000000
theorem Ny[Syms](fs:List Fd)(ps:List Int)(i:Nat)(hi:i<fs.length)(hp:ps.length=fs.length)(hl:fs.length<1000):
 fnT Q9 Q9 (QN fns) (Qz tys) (QV plt) 100 114 [vF fs,vI ps,.int .i64 i] [] 0 (fun v H _=>v= .bool (JJ fs ps i)∧H=[]):=by
 refine⟨fun n s=>∃k:Nat,(k≤i∧n=i-k∧ ∀j,j<k→WY fs ps i j=false)∧s=⟨[(0,vF fs),(1,vI ps),(2,.int .i64 i),(6,.bool false),(8,.int .i64 i),(9,.int .i64 k)],[],0⟩,
  ⟨_,_,.refl _ _ _,0,⟨by omega,rfl,fun j h=>by omega⟩,rfl⟩,?_⟩
 rintro n s ⟨k,⟨hk,rfl,hj⟩,rfl⟩
 have next:∀{j:Nat},WY fs ps i k=false→j<k+1→WY fs ps i j=false:=fun{j} h hlt=>by
  rcases Nat.lt_or_ge j k with h'|h'
  ·exact hj j h'
  ·obtain rfl:j=k:=by omega
   exact h
 repeat' first|refine And.intro ?_ ?_|(intro h;try simp only[decide_eq_true_eq,decide_eq_false_iff_not,Int.not_lt,Int.toNat_natCast,↓reduceIte,Nat.reduceAdd,reduceCtorEq]at h)
 any_goals first|exact PlanIs.mk (by kernel_rfl)|omega|exact rfl
 ·refine⟨_,.refl _ _ _,_,rfl,?_,rfl⟩
  have h1:WY fs ps i k=true:=by rw[WY,Bool.and_eq_true];exact⟨decide_eq_true ‹_›,‹_›⟩
  exact congrArg AVal.bool (List.any_eq_true.2 ⟨k,List.mem_range.2 (by omega),h1⟩).symm
 ·exact⟨_,_,Q4 [0,1,2,6,8,9] rfl,⟨k+1,⟨by omega,rfl,fun j=>next (by rw[WY,Bool.and_eq_false_iff];exact .inr ‹_›)⟩,rfl⟩,by omega⟩
 ·exact⟨_,_,Q4 [0,1,2,6,8,9] rfl,⟨k+1,⟨by omega,rfl,fun j=>next (by rw[WY,Bool.and_eq_false_iff];exact .inl (decide_eq_false ‹_›))⟩,rfl⟩,by omega⟩
 ·refine⟨_,.refl _ _ _,_,rfl,?_,rfl⟩
  refine congrArg AVal.bool (a₂:=JJ fs ps i) (Bool.eq_false_iff.2 fun h=>?_).symm
  obtain⟨j,h1,h2⟩:=List.any_eq_true.1 h
  rw[hj j (by have:=List.mem_range.1 h1;omega)]at h2
  cases h2
end
section
set_option maxRecDepth 100000
set_option maxHeartbeats 4000000
abbrev tB[Syms](c ci:CallT):CallT:=GE c ci (QN fns) (Qz tys) (QV plt) 100
def wE(fs:List Fd)(i:Nat)(l:AVal):Env:=[(0,vF fs),(1,.func 95 [.ptr 0 0 0]),(4,.bool false),(5,l),(12,vF fs),(13,.int .i64 fs.length),(14,.int .i64 i)]
def wO(n:Nat):AVal:=.slice 1 0 n 1 none
def wL(st:Stk):AVal:=.slice 2 0 st.length 2 none
def wA(fs:List Fd):St:=⟨wE fs 0 .nils,[(0,some (.cells [[.nils]] false))],1⟩
def wB(fs:List Fd)(i:Nat)(out:List Int):St:=⟨wE fs i .nils,[(0,some (.cells [[wO i]] false)),(1,some (.cells (out.map Qk) false))],2⟩
def wC(fs:List Fd)(i:Nat)(st:Stk)(out:List Int)(junk:List (List AVal)):St:=⟨wE fs i (wL st),[(0,some (.cells [[wO i]] false)),(1,some (.cells (out.map Qk) false)),(2,some (.cells (st.reverse.map encG++junk) false))],3⟩
def wSt(fs:List Fd)(i:Nat)(st:Stk)(out:List Int)(s:St):Prop:=
 (i=0∧st=[]∧out=[]∧s=wA fs)∨(st=[]∧s=wB fs i out)∨(∃junk,Qj junk∧s=wC fs i st out junk)
def P7(fs:List Fd)(n:Nat)(s:St):Prop:=∃(i:Nat) (st:Stk) (out:List Int),(i≤fs.length∧n=fs.length-i∧out.length=i∧out++(Xo (fs.drop i) i st).map (·.1)=Qu fs∧(∀p∈st,p.2≤9223372036854775807)∧st.length≤i)∧wSt fs i st out s
def wCi(fs:List Fd)(i n:Nat)(out:List Int)(R:List (List AVal)):St:=⟨[(0,vF fs),(1,.func 95 [.ptr 0 0 0]),(4,.bool false),(5,.slice 2 0 n 2 none),(6,.int .i64 i),(7,.ptr 3 0 0),(12,vF fs),(13,.int .i64 fs.length),(14,.int .i64 i),(15,.bool (decide ((i:Int)<fs.length)))],[(0,some (.cells [[wO i]] false)),(1,some (.cells (out.map Qk) false)),(2,some (.cells R false)),(3,some (.cells [encF (fs.getD i default)] false))],5⟩
theorem Fl{α:Type}[Inhabited α]{l:List α}{i:Nat}(h:i<l.length):l.drop i=l.getD i default::l.drop (i+1):=by
 rw[List.drop_eq_getElem_cons h];simp[h]
theorem BE{fs:List Fd}{i:Nat}{st:Stk}(h:i<fs.length):Xo (fs.drop i) i st=(U1 (Zr st),((Zr st).length:Int))::Xo (fs.drop (i+1)) (i+1) (Zo i (fs.getD i default) (Yf (Zr st))):=by
 rw[Fl h];rfl
theorem YA{fs:List Fd}{i:Nat}{st st':Stk}{out:List Int}(h:i<fs.length)(hw:out++(Xo (fs.drop i) i st).map (·.1)=Qu fs)(hs:st'=Zo i (fs.getD i default) (Yf (Zr st))):
 (out++[U1 (Zr st)])++(Xo (fs.drop (i+1)) (i+1) st').map (·.1)=Qu fs:=by
 rw[←hw,BE h,hs];simp
theorem CW[Syms](fs:List Fd)(hl:fs.length<1000)(hk:∀i,(fs.getD i default).kids≤9223372036854775807):
 fnT Q9 (Qe 94 (tB Q9 (Qe 95 (tB Q9 Q9) Q9)) (Qe 96 (tB Q9 Q9) Q9)) (QN fns) (Qz tys) (QV plt) 100 73 [vF fs] [] 0 (fun v H _=>v=vI (Qu fs)∧H=[]):=by
 refine⟨P7 fs,⟨_,wA fs,?_,0,[],[],⟨by omega,rfl,rfl,rfl,by simp,by simp⟩,.inl ⟨rfl,rfl,rfl,rfl⟩⟩,?_⟩
 ·exact .refl _ _ _
 rintro n s ⟨i,st,out,⟨hi,rfl,ho,hw,hb,hsl⟩,(⟨rfl,rfl,rfl,rfl⟩|⟨rfl,rfl⟩|⟨junk,hj,rfl⟩)⟩
 · repeat' first|refine And.intro ?_ ?_|(intro h;try simp only[decide_eq_true_eq,decide_eq_false_iff_not,Int.not_lt,Int.not_le,Int.toNat_natCast,↓reduceIte,Nat.reduceAdd,reduceCtorEq,Int.reduceLT,Int.lt_irrefl,gt_iff_lt,not_true_eq_false,not_false_eq_true,Bool.not_true,Bool.not_false,decide_false,decide_true,Int.reduceLE,Int.reduceSub,Bool.false_eq_true,Bool.true_eq_false,Nat.reduceEqDiff,Nat.one_ne_zero,Nat.reduceLT,and_self,and_true,true_and,Int.natCast_zero,Int.cast_ofNat_Int,List.length_nil,ne_eq,Decidable.not_not]at h)
   all_goals(try first|exact PlanIs.mk (by kernel_rfl)|omega|(show(_:Int)*((32:Nat):Int)≤_;omega)|(show(_:Int)*((8:Nat):Int)≤_;omega)|(show(_:Int)*((24:Nat):Int)≤_;omega)|exact rfl|exact Nat.le_of_ble_eq_true rfl|(show(_:Nat)≤(_:Nat);simp;done)|(show(_:Nat)≤(_:Nat);simp;omega))
   ·refine X1 ?_
    repeat' first|refine And.intro ?_ ?_|(intro h;try simp only[decide_eq_true_eq,decide_eq_false_iff_not,Int.not_lt,Int.not_le,Int.toNat_natCast,↓reduceIte,Nat.reduceAdd,reduceCtorEq,Int.reduceLT,Int.lt_irrefl,gt_iff_lt,not_true_eq_false,not_false_eq_true,Bool.not_true,Bool.not_false,decide_false,decide_true,Int.reduceLE,Int.reduceSub,Bool.false_eq_true,Bool.true_eq_false,Nat.reduceEqDiff,Nat.one_ne_zero,Nat.reduceLT,and_self,and_true,true_and,Int.natCast_zero,Int.cast_ofNat_Int,List.length_nil,ne_eq,Decidable.not_not]at h)
    all_goals(try first|exact PlanIs.mk (by kernel_rfl)|omega|(show(_:Int)*((32:Nat):Int)≤_;omega)|(show(_:Int)*((8:Nat):Int)≤_;omega)|(show(_:Int)*((24:Nat):Int)≤_;omega)|exact rfl|exact Nat.le_of_ble_eq_true rfl|(show(_:Nat)≤(_:Nat);simp;done)|(show(_:Nat)≤(_:Nat);simp;omega))
    refine⟨_,.refl _ _ _,_,rfl,?_⟩
    repeat' first|refine And.intro ?_ ?_|(intro h;try simp only[decide_eq_true_eq,decide_eq_false_iff_not,Int.not_lt,Int.not_le,Int.toNat_natCast,↓reduceIte,Nat.reduceAdd,reduceCtorEq,Int.reduceLT,Int.lt_irrefl,gt_iff_lt,not_true_eq_false,not_false_eq_true,Bool.not_true,Bool.not_false,decide_false,decide_true,Int.reduceLE,Int.reduceSub,Bool.false_eq_true,Bool.true_eq_false,Nat.reduceEqDiff,Nat.one_ne_zero,Nat.reduceLT,and_self,and_true,true_and,Int.natCast_zero,Int.cast_ofNat_Int,List.length_nil,ne_eq,Decidable.not_not]at h)
    all_goals(try first|exact PlanIs.mk (by kernel_rfl)|omega|(show(_:Int)*((32:Nat):Int)≤_;omega)|(show(_:Int)*((8:Nat):Int)≤_;omega)|(show(_:Int)*((24:Nat):Int)≤_;omega)|exact rfl|exact Nat.le_of_ble_eq_true rfl|(show(_:Nat)≤(_:Nat);simp;done)|(show(_:Nat)≤(_:Nat);simp;omega))
    ·refine⟨_,wC fs 1 [(0,(fs.getD 0 default).kids)] [-1] [],Q0 [0,4,7] rfl ?_ ?_,⟨1,_,[-1],⟨by omega,rfl,rfl,YA (st:=[]) (by omega) hw (by rw[Zo,if_pos (show(fs.getD 0 default).kind=0 from ‹_›)];rfl),?_,by simp⟩,.inr (.inr ⟨[],by simp[Qj],rfl⟩)⟩,by omega⟩
     ·exact⟨.refl _,.refl _,.refl _,.refl _,.refl _,.refl _,.refl _,trivial⟩
     ·exact⟨⟨by decide,_,rfl,.refl _⟩,⟨by decide,_,rfl,.refl _⟩,⟨by decide,_,rfl,Q1 rfl (Qr (fG _) QS)⟩,trivial⟩
     ·intro p hp;simp at hp;subst hp;exact hk 0
    ·refine⟨_,wB fs 1 [-1],Q0 [0,4] rfl ?_ ?_,⟨1,_,[-1],⟨by omega,rfl,rfl,YA (st:=[]) (by omega) hw (by rw[Zo,if_neg (show ¬(fs.getD 0 default).kind=0 from ‹_›)];rfl),?_,by simp⟩,.inr (.inl ⟨rfl,rfl⟩)⟩,by omega⟩
     ·exact⟨.refl _,.refl _,.refl _,.refl _,.refl _,.refl _,.refl _,trivial⟩
     ·exact⟨⟨by decide,_,rfl,.refl _⟩,⟨by decide,_,rfl,.refl _⟩,trivial⟩
     ·intro p hp;simp at hp
   ·refine X1 ?_
    repeat' first|refine And.intro ?_ ?_|(intro h;try simp only[decide_eq_true_eq,decide_eq_false_iff_not,Int.not_lt,Int.not_le,Int.toNat_natCast,↓reduceIte,Nat.reduceAdd,reduceCtorEq,Int.reduceLT,Int.lt_irrefl,gt_iff_lt,not_true_eq_false,not_false_eq_true,Bool.not_true,Bool.not_false,decide_false,decide_true,Int.reduceLE,Int.reduceSub,Bool.false_eq_true,Bool.true_eq_false,Nat.reduceEqDiff,Nat.one_ne_zero,Nat.reduceLT,and_self,and_true,true_and,Int.natCast_zero,Int.cast_ofNat_Int,List.length_nil,ne_eq,Decidable.not_not]at h)
    all_goals(try first|exact PlanIs.mk (by kernel_rfl)|omega|(show(_:Int)*((32:Nat):Int)≤_;omega)|(show(_:Int)*((8:Nat):Int)≤_;omega)|(show(_:Int)*((24:Nat):Int)≤_;omega)|exact rfl|exact Nat.le_of_ble_eq_true rfl|(show(_:Nat)≤(_:Nat);simp;done)|(show(_:Nat)≤(_:Nat);simp;omega))
    refine⟨_,.refl _ _ _,_,rfl,?_⟩
    repeat' first|refine And.intro ?_ ?_|(intro h;try simp only[decide_eq_true_eq,decide_eq_false_iff_not,Int.not_lt,Int.not_le,Int.toNat_natCast,↓reduceIte,Nat.reduceAdd,reduceCtorEq,Int.reduceLT,Int.lt_irrefl,gt_iff_lt,not_true_eq_false,not_false_eq_true,Bool.not_true,Bool.not_false,decide_false,decide_true,Int.reduceLE,Int.reduceSub,Bool.false_eq_true,Bool.true_eq_false,Nat.reduceEqDiff,Nat.one_ne_zero,Nat.reduceLT,and_self,and_true,true_and,Int.natCast_zero,Int.cast_ofNat_Int,List.length_nil,ne_eq,Decidable.not_not]at h)
    all_goals(try first|exact PlanIs.mk (by kernel_rfl)|omega|(show(_:Int)*((32:Nat):Int)≤_;omega)|(show(_:Int)*((8:Nat):Int)≤_;omega)|(show(_:Int)*((24:Nat):Int)≤_;omega)|exact rfl|exact Nat.le_of_ble_eq_true rfl|(show(_:Nat)≤(_:Nat);simp;done)|(show(_:Nat)≤(_:Nat);simp;omega))
    refine⟨_,.refl _ _ _,_,rfl,?_⟩
    refine⟨_,V1 (k:=2) 1 Qk 0 rfl,_,rfl,?_,rfl⟩
    have h0:fs=[]:=List.eq_nil_of_length_eq_zero (by omega)
    subst h0
    rfl
 · repeat' first|refine And.intro ?_ ?_|(intro h;try simp only[decide_eq_true_eq,decide_eq_false_iff_not,Int.not_lt,Int.not_le,Int.toNat_natCast,↓reduceIte,Nat.reduceAdd,reduceCtorEq,Int.reduceLT,Int.lt_irrefl,gt_iff_lt,not_true_eq_false,not_false_eq_true,Bool.not_true,Bool.not_false,decide_false,decide_true,Int.reduceLE,Int.reduceSub,Bool.false_eq_true,Bool.true_eq_false,Nat.reduceEqDiff,Nat.one_ne_zero,Nat.reduceLT,and_self,and_true,true_and,Int.natCast_zero,Int.cast_ofNat_Int,List.length_nil,ne_eq,Decidable.not_not]at h)
   all_goals(try first|exact PlanIs.mk (by kernel_rfl)|omega|(show(_:Int)*((32:Nat):Int)≤_;omega)|(show(_:Int)*((8:Nat):Int)≤_;omega)|(show(_:Int)*((24:Nat):Int)≤_;omega)|exact rfl|exact Nat.le_of_ble_eq_true rfl|(show(_:Nat)≤(_:Nat);simp;done)|(show(_:Nat)≤(_:Nat);simp;omega))
   ·refine X1 ?_
    repeat' first|refine And.intro ?_ ?_|(intro h;try simp only[decide_eq_true_eq,decide_eq_false_iff_not,Int.not_lt,Int.not_le,Int.toNat_natCast,↓reduceIte,Nat.reduceAdd,reduceCtorEq,Int.reduceLT,Int.lt_irrefl,gt_iff_lt,not_true_eq_false,not_false_eq_true,Bool.not_true,Bool.not_false,decide_false,decide_true,Int.reduceLE,Int.reduceSub,Bool.false_eq_true,Bool.true_eq_false,Nat.reduceEqDiff,Nat.one_ne_zero,Nat.reduceLT,and_self,and_true,true_and,Int.natCast_zero,Int.cast_ofNat_Int,List.length_nil,ne_eq,Decidable.not_not]at h)
    all_goals(try first|exact PlanIs.mk (by kernel_rfl)|omega|(show(_:Int)*((32:Nat):Int)≤_;omega)|(show(_:Int)*((8:Nat):Int)≤_;omega)|(show(_:Int)*((24:Nat):Int)≤_;omega)|exact rfl|exact Nat.le_of_ble_eq_true rfl|(show(_:Nat)≤(_:Nat);simp;done)|(show(_:Nat)≤(_:Nat);simp;omega))
    refine⟨_,.refl _ _ _,_,rfl,?_⟩
    repeat' first|refine And.intro ?_ ?_|(intro h;try simp only[decide_eq_true_eq,decide_eq_false_iff_not,Int.not_lt,Int.not_le,Int.toNat_natCast,↓reduceIte,Nat.reduceAdd,reduceCtorEq,Int.reduceLT,Int.lt_irrefl,gt_iff_lt,not_true_eq_false,not_false_eq_true,Bool.not_true,Bool.not_false,decide_false,decide_true,Int.reduceLE,Int.reduceSub,Bool.false_eq_true,Bool.true_eq_false,Nat.reduceEqDiff,Nat.one_ne_zero,Nat.reduceLT,and_self,and_true,true_and,Int.natCast_zero,Int.cast_ofNat_Int,List.length_nil,ne_eq,Decidable.not_not]at h)
    all_goals(try first|exact PlanIs.mk (by kernel_rfl)|omega|(show(_:Int)*((32:Nat):Int)≤_;omega)|(show(_:Int)*((8:Nat):Int)≤_;omega)|(show(_:Int)*((24:Nat):Int)≤_;omega)|exact rfl|exact Nat.le_of_ble_eq_true rfl|(show(_:Nat)≤(_:Nat);simp;done)|(show(_:Nat)≤(_:Nat);simp;omega))
    ·refine⟨_,wC fs (i+1) [(i,(fs.getD i default).kids)] (out++[-1]) [],Q0 [0,5,8] rfl ?_ ?_,⟨i+1,_,_,⟨by omega,rfl,by simp[ho],YA (st:=[]) (by omega) hw (by rw[Zo,if_pos (show(fs.getD i default).kind=0 from ‹_›)];rfl),?_,by simp⟩,.inr (.inr ⟨[],by simp[Qj],rfl⟩)⟩,by omega⟩
     ·exact⟨.refl _,.refl _,.refl _,.refl _,.refl _,.refl _,.refl _,trivial⟩
     ·exact⟨⟨by decide,_,rfl,.refl _⟩,⟨by decide,_,rfl,Q1 (by show List.take i (List.drop 0 (out.map Qk))++[[.int .i64 (-1)]]=_;rw[←ho];simp[Qk];exact List.take_of_length_le (by simp)) (fI _)⟩,⟨by decide,_,rfl,Q1 rfl (Qr (fG _) QS)⟩,trivial⟩
     ·intro p hp;simp at hp;subst hp;exact hk i
    ·refine⟨_,wB fs (i+1) (out++[-1]),Q0 [0,5] rfl ?_ ?_,⟨i+1,_,_,⟨by omega,rfl,by simp[ho],YA (st:=[]) (by omega) hw (by rw[Zo,if_neg (show ¬(fs.getD i default).kind=0 from ‹_›)];rfl),?_,by simp⟩,.inr (.inl ⟨rfl,rfl⟩)⟩,by omega⟩
     ·exact⟨.refl _,.refl _,.refl _,.refl _,.refl _,.refl _,.refl _,trivial⟩
     ·exact⟨⟨by decide,_,rfl,.refl _⟩,⟨by decide,_,rfl,Q1 (by show List.take i (List.drop 0 (out.map Qk))++[[.int .i64 (-1)]]=_;rw[←ho];simp[Qk];exact List.take_of_length_le (by simp)) (fI _)⟩,trivial⟩
     ·intro p hp;simp at hp
   ·refine X1 ?_
    repeat' first|refine And.intro ?_ ?_|(intro h;try simp only[decide_eq_true_eq,decide_eq_false_iff_not,Int.not_lt,Int.not_le,Int.toNat_natCast,↓reduceIte,Nat.reduceAdd,reduceCtorEq,Int.reduceLT,Int.lt_irrefl,gt_iff_lt,not_true_eq_false,not_false_eq_true,Bool.not_true,Bool.not_false,decide_false,decide_true,Int.reduceLE,Int.reduceSub,Bool.false_eq_true,Bool.true_eq_false,Nat.reduceEqDiff,Nat.one_ne_zero,Nat.reduceLT,and_self,and_true,true_and,Int.natCast_zero,Int.cast_ofNat_Int,List.length_nil,ne_eq,Decidable.not_not]at h)
    all_goals(try first|exact PlanIs.mk (by kernel_rfl)|omega|(show(_:Int)*((32:Nat):Int)≤_;omega)|(show(_:Int)*((8:Nat):Int)≤_;omega)|(show(_:Int)*((24:Nat):Int)≤_;omega)|exact rfl|exact Nat.le_of_ble_eq_true rfl|(show(_:Nat)≤(_:Nat);simp;done)|(show(_:Nat)≤(_:Nat);simp;omega))
    refine⟨_,.refl _ _ _,_,rfl,?_⟩
    repeat' first|refine And.intro ?_ ?_|(intro h;try simp only[decide_eq_true_eq,decide_eq_false_iff_not,Int.not_lt,Int.not_le,Int.toNat_natCast,↓reduceIte,Nat.reduceAdd,reduceCtorEq,Int.reduceLT,Int.lt_irrefl,gt_iff_lt,not_true_eq_false,not_false_eq_true,Bool.not_true,Bool.not_false,decide_false,decide_true,Int.reduceLE,Int.reduceSub,Bool.false_eq_true,Bool.true_eq_false,Nat.reduceEqDiff,Nat.one_ne_zero,Nat.reduceLT,and_self,and_true,true_and,Int.natCast_zero,Int.cast_ofNat_Int,List.length_nil,ne_eq,Decidable.not_not]at h)
    all_goals(try first|exact PlanIs.mk (by kernel_rfl)|omega|(show(_:Int)*((32:Nat):Int)≤_;omega)|(show(_:Int)*((8:Nat):Int)≤_;omega)|(show(_:Int)*((24:Nat):Int)≤_;omega)|exact rfl|exact Nat.le_of_ble_eq_true rfl|(show(_:Nat)≤(_:Nat);simp;done)|(show(_:Nat)≤(_:Nat);simp;omega))
    ·exact aI _ _ _
    ·refine⟨_,.refl _ _ _,_,rfl,?_⟩
     refine⟨_,V1 (k:=2) 1 Qk 0 rfl,_,rfl,?_,rfl⟩
     have h0:fs=[]:=List.eq_nil_of_length_eq_zero (by omega)
     subst h0
     rfl
    ·refine⟨_,.refl _ _ _,_,rfl,?_⟩
     refine⟨_,YQ (enc:=Qk) (k:=2) 0 (l:=out) rfl rfl (Qr QS (KF (fI _))) ?_ ?_,_,rfl,?_,rfl⟩
     ·show List.take (0+i) ([]++List.take i (List.drop 0 (out.map Qk)))=_
      rw[←ho,List.nil_append,List.drop_zero,Nat.zero_add,List.take_take,Nat.min_self]
      exact List.take_of_length_le (Nat.le_of_eq (List.length_map ..))
     ·show 0+i≤([]++List.take i (List.drop 0 (out.map Qk))).length
      simp
      omega
     ·rw[List.drop_of_length_le (by omega)]at hw
      simp[Xo]at hw
      exact congrArg vI hw
 · repeat' first|refine And.intro ?_ ?_|(intro h;try simp only[decide_eq_true_eq,decide_eq_false_iff_not,Int.not_lt,Int.not_le,Int.toNat_natCast,↓reduceIte,Nat.reduceAdd,reduceCtorEq,Int.reduceLT,Int.lt_irrefl,gt_iff_lt,not_true_eq_false,not_false_eq_true,Bool.not_true,Bool.not_false,decide_false,decide_true,Int.reduceLE,Int.reduceSub,Bool.false_eq_true,Bool.true_eq_false,Nat.reduceEqDiff,Nat.one_ne_zero,Nat.reduceLT,and_self,and_true,true_and,Int.natCast_zero,Int.cast_ofNat_Int,List.length_nil,ne_eq,Decidable.not_not]at h)
   all_goals(try first|exact PlanIs.mk (by kernel_rfl)|omega|(show(_:Int)*((32:Nat):Int)≤_;omega)|(show(_:Int)*((8:Nat):Int)≤_;omega)|(show(_:Int)*((24:Nat):Int)≤_;omega)|exact rfl|exact Nat.le_of_ble_eq_true rfl|(show(_:Nat)≤(_:Nat);simp;done)|(show(_:Nat)≤(_:Nat);simp;omega))
   ·refine⟨fun n s=>∃(st1:Stk) (junk1:List (List AVal)) (m:Nat),(n=m∧m=st1.length∧Zr st1=Zr st∧st1.reverse.map encG++junk1=st.reverse.map encG++junk∧Qj junk1∧(∀p∈st1,p.2≤9223372036854775807)∧st1.length≤st.length)∧s=wCi fs i m out (st.reverse.map encG++junk),⟨_,wCi fs i st.length out (st.reverse.map encG++junk),.refl _ _ _,st,junk,st.length,⟨rfl,rfl,rfl,rfl,hj,hb,Nat.le_refl _⟩,rfl⟩,?_⟩
    rintro n s ⟨st1,junk1,m,⟨rfl,hm,hp1,hR,hj1,hb1,hl1⟩,rfl⟩
    generalize st.reverse.map encG++junk=R at hR ⊢
    cases st1 with
    |nil=>
     obtain rfl:n=0:=hm
     have hst:Zr st=[]:=hp1.symm
     have hRf:Qj R:=hR▸Qr (fG []) hj1
     repeat' first|refine And.intro ?_ ?_|(intro h;try simp only[decide_eq_true_eq,decide_eq_false_iff_not,Int.not_lt,Int.not_le,Int.toNat_natCast,↓reduceIte,Nat.reduceAdd,reduceCtorEq,Int.reduceLT,Int.lt_irrefl,gt_iff_lt,not_true_eq_false,not_false_eq_true,Bool.not_true,Bool.not_false,decide_false,decide_true,Int.reduceLE,Int.reduceSub,Bool.false_eq_true,Bool.true_eq_false,Nat.reduceEqDiff,Nat.one_ne_zero,Nat.reduceLT,and_self,and_true,true_and,Int.natCast_zero,Int.cast_ofNat_Int,List.length_nil,ne_eq,Decidable.not_not]at h)
     all_goals(try first|exact PlanIs.mk (by kernel_rfl)|omega|(show(_:Int)*((32:Nat):Int)≤_;omega)|(show(_:Int)*((8:Nat):Int)≤_;omega)|(show(_:Int)*((24:Nat):Int)≤_;omega)|exact rfl|exact Nat.le_of_ble_eq_true rfl|(show(_:Nat)≤(_:Nat);simp;done)|(show(_:Nat)≤(_:Nat);simp;omega))
     refine⟨_,.refl _ _ _,_,rfl,?_⟩
     repeat' first|refine And.intro ?_ ?_|(intro h;try simp only[decide_eq_true_eq,decide_eq_false_iff_not,Int.not_lt,Int.not_le,Int.toNat_natCast,↓reduceIte,Nat.reduceAdd,reduceCtorEq,Int.reduceLT,Int.lt_irrefl,gt_iff_lt,not_true_eq_false,not_false_eq_true,Bool.not_true,Bool.not_false,decide_false,decide_true,Int.reduceLE,Int.reduceSub,Bool.false_eq_true,Bool.true_eq_false,Nat.reduceEqDiff,Nat.one_ne_zero,Nat.reduceLT,and_self,and_true,true_and,Int.natCast_zero,Int.cast_ofNat_Int,List.length_nil,ne_eq,Decidable.not_not]at h)
     all_goals(try first|exact PlanIs.mk (by kernel_rfl)|omega|(show(_:Int)*((32:Nat):Int)≤_;omega)|(show(_:Int)*((8:Nat):Int)≤_;omega)|(show(_:Int)*((24:Nat):Int)≤_;omega)|exact rfl|exact Nat.le_of_ble_eq_true rfl|(show(_:Nat)≤(_:Nat);simp;done)|(show(_:Nat)≤(_:Nat);simp;omega))
     ·refine⟨_,wC fs (i+1) [(i,(fs.getD i default).kids)] (out++[-1]) [],Q0 [0,6,9] rfl ?_ ?_,⟨i+1,_,_,⟨by omega,rfl,by simp[ho],by have:=YA (st:=st) (st':=[(i,(fs.getD i default).kids)]) (by omega) hw (by rw[hst,Zo,if_pos (show(fs.getD i default).kind=0 from ‹_›)];rfl);rw[hst]at this;exact this,?_,by simp⟩,.inr (.inr ⟨[],QS,rfl⟩)⟩,by omega⟩
      ·exact⟨.refl _,.refl _,.refl _,.refl _,.refl _,.refl _,.refl _,trivial⟩
      ·exact⟨⟨by decide,_,rfl,.refl _⟩,⟨by decide,_,rfl,Q1 (by show List.take i (List.drop 0 (out.map Qk))++[[.int .i64 (-1)]]=_;rw[←ho];simp[Qk];exact List.take_of_length_le (by simp)) (fI _)⟩,⟨by decide,_,rfl,Q1 rfl (Qr (fG _) QS)⟩,trivial⟩
      ·intro p hp;simp at hp;subst hp;exact hk i
     ·refine⟨_,wC fs (i+1) [] (out++[-1]) R,Q0 [0,6,2] rfl ?_ ?_,⟨i+1,_,_,⟨by omega,rfl,by simp[ho],by have:=YA (st:=st) (st':=[]) (by omega) hw (by rw[hst,Zo,if_neg (show ¬(fs.getD i default).kind=0 from ‹_›)];rfl);rw[hst]at this;exact this,?_,by simp⟩,.inr (.inr ⟨R,hRf,rfl⟩)⟩,by omega⟩
      ·exact⟨.refl _,.refl _,.refl _,.refl _,.refl _,.refl _,.refl _,trivial⟩
      ·exact⟨⟨by decide,_,rfl,.refl _⟩,⟨by decide,_,rfl,Q1 (by show List.take i (List.drop 0 (out.map Qk))++[[.int .i64 (-1)]]=_;rw[←ho];simp[Qk];exact List.take_of_length_le (by simp)) (fI _)⟩,⟨by decide,_,rfl,Q1 rfl (Qr (fG _) hRf)⟩,trivial⟩
      ·intro p hp;simp at hp
    |cons q t=>
     obtain⟨a,k⟩:=q
     obtain rfl:n=t.length+1:=hm
     have hx1:0+((↑(t.length+1):Int)-1).toNat=t.length:=by omega
     have hx2:R.getD t.length []=encG (a,k):=by rw[←hR];simp[List.getElem?_append,List.getElem?_map]
     have hRl:t.length<R.length:=by rw[←hR];simp
     have hRf:Qj R:=hR▸Qr (fG _) hj1
     have hkb:k≤9223372036854775807:=hb1 (a,k) (List.mem_cons_self ..)
     have htl:t.length+1≤st.length:=hl1
     have hset:∀x,R.set t.length (encG x)=(x::t).reverse.map encG++junk1:=fun x=>by rw[←hR];simp[List.set_append]
     repeat' first|refine And.intro ?_ ?_|(intro h;try simp only[decide_eq_true_eq,decide_eq_false_iff_not,Int.not_lt,Int.not_le,Int.toNat_natCast,↓reduceIte,Nat.reduceAdd,reduceCtorEq,Int.reduceLT,Int.lt_irrefl,gt_iff_lt,not_true_eq_false,not_false_eq_true,Bool.not_true,Bool.not_false,decide_false,decide_true,Int.reduceLE,Int.reduceSub,Bool.false_eq_true,Bool.true_eq_false,Nat.reduceEqDiff,Nat.one_ne_zero,Nat.reduceLT,and_self,and_true,true_and,Int.natCast_zero,Int.cast_ofNat_Int,List.length_nil,ne_eq,Decidable.not_not,hx1,hx2]at h)
     all_goals(try first|exact PlanIs.mk (by kernel_rfl)|omega|exact rfl|exact Nat.le_of_ble_eq_true rfl|(show(_:Nat)≤(_:Nat);simp;done)|(show(_:Nat)≤(_:Nat);simp;omega)|(rw[hx1,hx2];exact rfl)|(rw[hx1,hx2];show(-9223372036854775808:Int)≤k-1;have hk0:(0:Int)<k:=‹_›;omega)|(rw[hx1,hx2];show k-1≤(9223372036854775807:Int);omega)|(show(_:Nat)≤(_:Nat);rw[hx1,hx2];exact Nat.le_of_ble_eq_true rfl))
     ·refine⟨t.length,wCi fs i t.length out R,Q0 [0,1,2,3,4] rfl ?_ ?_,⟨t,encG (a,k)::junk1,t.length,⟨rfl,rfl,?_,?_,?_,fun p hp=>hb1 p (List.mem_cons_of_mem _ hp),by omega⟩,rfl⟩,by omega⟩
      ·refine⟨.refl _,.refl _,.refl _,?_,.refl _,.refl _,.refl _,.refl _,.refl _,.refl _,trivial⟩
       show WkV (.slice 2 (0+0) (((↑(t.length+1):Int)-1).toNat-0) 2 none) _
       rw[show((↑(t.length+1):Int)-1).toNat-0=t.length by omega]
       exact .refl _
      ·exact⟨⟨by decide,_,rfl,.refl _⟩,⟨by decide,_,rfl,Qd (fI _)⟩,⟨by decide,_,rfl,Qd hRf⟩,⟨by decide,_,rfl,.refl _⟩,trivial⟩
      ·rw[←hp1,Zr,if_pos (show k≤0 from ‹_›)]
      ·rw[←hR];simp
      ·exact Y7 (fun x hx=>by simp[encG]at hx;rcases hx with rfl|rfl<;>rfl) hj1
     ·have hk0:(0:Int)<k:=‹_›
      have hpz:Zr st=(a,k)::t:=by rw[←hp1,Zr,if_neg (by omega)]
      refine⟨_,.refl _ _ _,_,rfl,?_⟩
      repeat' first|refine And.intro ?_ ?_|(intro h;try simp only[decide_eq_true_eq,decide_eq_false_iff_not,Int.not_lt,Int.not_le,Int.toNat_natCast,↓reduceIte,Nat.reduceAdd,reduceCtorEq,Int.reduceLT,Int.lt_irrefl,gt_iff_lt,not_true_eq_false,not_false_eq_true,Bool.not_true,Bool.not_false,decide_false,decide_true,Int.reduceLE,Int.reduceSub,Bool.false_eq_true,Bool.true_eq_false,Nat.reduceEqDiff,Nat.one_ne_zero,Nat.reduceLT,and_self,and_true,true_and,Int.natCast_zero,Int.cast_ofNat_Int,List.length_nil,ne_eq,Decidable.not_not,hx1,hx2]at h)
      all_goals(try first|exact PlanIs.mk (by kernel_rfl)|omega|exact rfl|exact Nat.le_of_ble_eq_true rfl|(show(_:Nat)≤(_:Nat);simp;done)|(show(_:Nat)≤(_:Nat);simp;omega)|(rw[hx1,hx2];exact rfl)|(rw[hx1,hx2];show(-9223372036854775808:Int)≤k-1;have hk0:(0:Int)<k:=‹_›;omega)|(rw[hx1,hx2];show k-1≤(9223372036854775807:Int);omega)|(show(_:Nat)≤(_:Nat);rw[hx1,hx2];exact Nat.le_of_ble_eq_true rfl))
      ·refine⟨_,wC fs (i+1) ((i,(fs.getD i default).kids)::(a,k-1)::t) (out++[a]) [],Q0 [0,7,10] rfl ?_ ?_,⟨i+1,_,_,⟨by omega,rfl,by simp[ho],by have:=YA (st:=st) (st':=(i,(fs.getD i default).kids)::(a,k-1)::t) (by omega) hw (by rw[hpz,Zo,if_pos (show(fs.getD i default).kind=0 from ‹_›)];rfl);rw[hpz]at this;exact this,?_,by simp;omega⟩,.inr (.inr ⟨[],QS,rfl⟩)⟩,by omega⟩
       ·exact⟨.refl _,.refl _,.refl _,.refl _,.refl _,.refl _,.refl _,trivial⟩
       ·refine⟨⟨by decide,_,rfl,.refl _⟩,⟨by decide,_,rfl,Q1 ?_ (fI _)⟩,⟨by decide,_,rfl,Q1 ?_ (Qr (fG _) QS)⟩,trivial⟩
        ·show List.take i (List.drop 0 (out.map Qk))++[[.int .i64 (asI ((R.getD (0+((↑(t.length+1):Int)-1).toNat) []).getD (0+0) .any))]]=_
         rw[hx1,hx2,←ho];simp[Qk,encG,asI];exact List.take_of_length_le (by simp)
        ·show List.take (t.length+1) (List.drop 0 (R.set (0+((↑(t.length+1):Int)-1).toNat) (Qy (R.getD (0+((↑(t.length+1):Int)-1).toNat) []) (0+1) [.int .i64 (asI ((R.getD (0+((↑(t.length+1):Int)-1).toNat) []).getD (0+1) .any)-1)])))++[encG (i,(fs.getD i default).kids)]=_
         rw[hx1,hx2,show Qy (encG (a,k)) (0+1) [.int .i64 (asI ((encG (a,k)).getD (0+1) .any)-1)]=encG (a,k-1) from rfl,hset]
         have htk:List.take (t.length+1) (((a,k-1)::t).reverse.map encG++junk1)=((a,k-1)::t).reverse.map encG:=by
          rw[show t.length+1=(((a,k-1)::t).reverse.map encG).length by simp];exact List.take_left
         rw[List.drop_zero,htk]
         simp
       ·intro p hp
        simp at hp
        rcases hp with rfl|rfl|hp
        ·exact hk i
        ·show k-1≤_;omega
        ·exact hb1 p (List.mem_cons_of_mem _ hp)
      ·refine⟨_,wC fs (i+1) ((a,k-1)::t) (out++[a]) junk1,Q0 [0,7,2] rfl ?_ ?_,⟨i+1,_,_,⟨by omega,rfl,by simp[ho],by have:=YA (st:=st) (st':=(a,k-1)::t) (by omega) hw (by rw[hpz,Zo,if_neg (show ¬(fs.getD i default).kind=0 from ‹_›)];rfl);rw[hpz]at this;exact this,?_,by simp;omega⟩,.inr (.inr ⟨junk1,hj1,rfl⟩)⟩,by omega⟩
       ·exact⟨.refl _,.refl _,.refl _,.refl _,.refl _,.refl _,.refl _,trivial⟩
       ·refine⟨⟨by decide,_,rfl,.refl _⟩,⟨by decide,_,rfl,Q1 ?_ (fI _)⟩,⟨by decide,_,rfl,Q1 ?_ (Qr (fG _) hj1)⟩,trivial⟩
        ·show List.take i (List.drop 0 (out.map Qk))++[[.int .i64 (asI ((R.getD (0+((↑(t.length+1):Int)-1).toNat) []).getD (0+0) .any))]]=_
         rw[hx1,hx2,←ho];simp[Qk,encG,asI];exact List.take_of_length_le (by simp)
        ·show R.set (0+((↑(t.length+1):Int)-1).toNat) (Qy (R.getD (0+((↑(t.length+1):Int)-1).toNat) []) (0+1) [.int .i64 (asI ((R.getD (0+((↑(t.length+1):Int)-1).toNat) []).getD (0+1) .any)-1)])=_
         rw[hx1,hx2,show Qy (encG (a,k)) (0+1) [.int .i64 (asI ((encG (a,k)).getD (0+1) .any)-1)]=encG (a,k-1) from rfl,hset]
       ·intro p hp
        simp at hp
        rcases hp with rfl|hp
        ·show k-1≤_;omega
        ·exact hb1 p (List.mem_cons_of_mem _ hp)
   ·refine⟨fun n s=>∃(j:Nat) (b:Bool),(j≤st.length∧n=st.length-j)∧s=⟨[(4,.bool b),(74,wL st),(75,.int .i64 st.length),(76,.int .i64 j)],[(0,some (.cells [[wO i]] false)),(1,some (.cells (out.map Qk) false)),(2,some (.cells (st.reverse.map encG++junk) false))],3⟩,⟨_,_,BZ [4,74,75,76],0,false,⟨by omega,rfl⟩,rfl⟩,?_⟩
    rintro n s ⟨j,b,⟨hj0,rfl⟩,rfl⟩
    generalize hR:st.reverse.map encG++junk=R
    have hRl:st.length≤R.length:=by rw[←hR];simp
    have hRf:Qj R:=hR▸Qr (fG _) hj
    have hx2:(j:Int)<st.length→ ∃q,R.getD j []=encG q:=fun h=>by
     have h':j<(st.reverse.map encG).length:=by simp;omega
     refine⟨st.reverse.getD j default,?_⟩
     rw[←hR,List.getD_eq_getElem?_getD,List.getElem?_append_left h',←List.getD_eq_getElem?_getD]
     exact Vi encG default (by simp;omega)
    repeat' first|refine And.intro ?_ ?_|(intro h;try simp only[decide_eq_true_eq,decide_eq_false_iff_not,Int.not_lt,Int.not_le,Int.toNat_natCast,↓reduceIte,Nat.reduceAdd,reduceCtorEq,Int.reduceLT,Int.lt_irrefl,gt_iff_lt,not_true_eq_false,not_false_eq_true,Bool.not_true,Bool.not_false,decide_false,decide_true,Int.reduceLE,Int.reduceSub,Bool.false_eq_true,Bool.true_eq_false,Nat.reduceEqDiff,Nat.one_ne_zero,Nat.reduceLT,and_self,and_true,true_and,Int.natCast_zero,Int.cast_ofNat_Int,List.length_nil,ne_eq,Decidable.not_not]at h)
    all_goals(try first|exact PlanIs.mk (by kernel_rfl)|omega|(show(_:Int)*((32:Nat):Int)≤_;omega)|(show(_:Int)*((8:Nat):Int)≤_;omega)|(show(_:Int)*((24:Nat):Int)≤_;omega)|exact rfl|exact Nat.le_of_ble_eq_true rfl|(show(_:Nat)≤(_:Nat);simp;done)|(show(_:Nat)≤(_:Nat);simp;omega))
    ·rename_i h
     obtain⟨q,hq⟩:=hx2 h
     rw[show 0+(j:Int).toNat=j by simp,hq]
     rfl
    ·refine⟨_,⟨[(4,.bool true),(74,wL st),(75,.int .i64 st.length),(76,.int .i64 ((j+1:Nat):Int))],[(0,some (.cells [[wO i]] false)),(1,some (.cells (out.map Qk) false)),(2,some (.cells R false))],3⟩,Q0 [0,1,2] rfl ⟨.refl _,.refl _,.refl _,.refl _,trivial⟩ ⟨⟨by decide,_,rfl,.refl _⟩,⟨by decide,_,rfl,Qd (fI _)⟩,⟨by decide,_,rfl,Qd hRf⟩,trivial⟩,⟨j+1,_,⟨by omega,rfl⟩,rfl⟩,by omega⟩
    ·refine⟨_,⟨[(4,.bool _),(74,wL st),(75,.int .i64 st.length),(76,.int .i64 ((j+1:Nat):Int))],[(0,some (.cells [[wO i]] false)),(1,some (.cells (out.map Qk) false)),(2,some (.cells R false))],3⟩,Q0 [0,1,2] rfl ⟨.refl _,.refl _,.refl _,.refl _,trivial⟩ ⟨⟨by decide,_,rfl,.refl _⟩,⟨by decide,_,rfl,Qd (fI _)⟩,⟨by decide,_,rfl,Qd hRf⟩,trivial⟩,⟨j+1,_,⟨by omega,rfl⟩,rfl⟩,by omega⟩
    ·refine⟨_,.refl _ _ _,_,rfl,?_⟩
     repeat' first|refine And.intro ?_ ?_|(intro h;try simp only[decide_eq_true_eq,decide_eq_false_iff_not,Int.not_lt,Int.not_le,Int.toNat_natCast,↓reduceIte,Nat.reduceAdd,reduceCtorEq,Int.reduceLT,Int.lt_irrefl,gt_iff_lt,not_true_eq_false,not_false_eq_true,Bool.not_true,Bool.not_false,decide_false,decide_true,Int.reduceLE,Int.reduceSub,Bool.false_eq_true,Bool.true_eq_false,Nat.reduceEqDiff,Nat.one_ne_zero,Nat.reduceLT,and_self,and_true,true_and,Int.natCast_zero,Int.cast_ofNat_Int,List.length_nil,ne_eq,Decidable.not_not]at h)
     all_goals(try first|exact PlanIs.mk (by kernel_rfl)|omega|(show(_:Int)*((32:Nat):Int)≤_;omega)|(show(_:Int)*((8:Nat):Int)≤_;omega)|(show(_:Int)*((24:Nat):Int)≤_;omega)|exact rfl|exact Nat.le_of_ble_eq_true rfl|(show(_:Nat)≤(_:Nat);simp;done)|(show(_:Nat)≤(_:Nat);simp;omega))
     ·exact aI _ _ _
     ·refine⟨_,.refl _ _ _,_,rfl,?_⟩
      refine⟨_,V1 (k:=2) 1 Qk 0 rfl,_,rfl,?_,rfl⟩
      have h0:fs=[]:=List.eq_nil_of_length_eq_zero (by omega)
      subst h0
      rfl
     ·refine⟨_,.refl _ _ _,_,rfl,?_⟩
      refine⟨_,YQ (enc:=Qk) (k:=2) 0 (l:=out) rfl rfl (Qr QS (KF (fI _))) ?_ ?_,_,rfl,?_,rfl⟩
      ·show List.take (0+i) ([]++List.take i (List.drop 0 (out.map Qk)))=_
       rw[←ho,List.nil_append,List.drop_zero,Nat.zero_add,List.take_take,Nat.min_self]
       exact List.take_of_length_le (Nat.le_of_eq (List.length_map ..))
      ·show 0+i≤([]++List.take i (List.drop 0 (out.map Qk))).length
       simp
       omega
      ·rw[List.drop_of_length_le (by omega)]at hw
       simp[Xo]at hw
       exact congrArg vI hw
end
section
set_option maxRecDepth 100000
set_option maxHeartbeats 4000000
theorem FY{st:Stk}{p:Int×Int}(h:p∈Zr st):p∈st:=by
 induction st with
 |nil=>simp[Zr]at h
 |cons q t ih=>
  obtain⟨a,k⟩:=q
  rw[Zr]at h
  split at h
  ·exact List.mem_cons_of_mem _ (ih h)
  ·exact h
theorem BD:∀(fs:List Fd) (i:Nat) (st:Stk),(∀p∈st,0≤p.1∧p.1<i)→ ∀j,j<fs.length→ -1≤((Xo fs i st).map (·.1)).getD j 0∧((Xo fs i st).map (·.1)).getD j 0<i+j
 |[],_,_,_,j,h=>by simp at h
 |f::fs,i,st,hst,j,h=>by
  cases j with
  |zero=>
   show -1≤U1 (Zr st)∧U1 (Zr st)<_
   cases hp:Zr st with
   |nil=>simp only[U1];omega
   |cons q t=>
    have:=hst q (FY (by rw[hp];exact List.mem_cons_self ..))
    simp only[U1];omega
  |succ j=>
   have:=BD fs (i+1) (Zo i f (Yf (Zr st))) (fun p hp=>?_) j (by simpa using h)
   ·simp only[Xo,List.map_cons,List.getD_cons_succ]
    omega
   ·have hd:p∈Yf (Zr st)→0≤p.1∧p.1<((i+1:Nat):Int):=by
     intro hp
     cases hq:Zr st with
     |nil=>rw[hq]at hp;simp[Yf]at hp
     |cons q t=>
      rw[hq]at hp
      have hall:∀r∈q::t,0≤r.1∧r.1<(i:Int):=fun r hr=>hst r (FY (by rw[hq];exact hr))
      simp only[Yf,List.mem_cons]at hp
      rcases hp with rfl|hp
      ·have:=hall q (List.mem_cons_self ..);exact⟨this.1,by have:=this.2;show q.1<_;omega⟩
      ·have:=hall p (List.mem_cons_of_mem _ hp);exact⟨this.1,by omega⟩
    unfold Zo at hp
    split at hp
    ·rcases List.mem_cons.1 hp with rfl|hp
     ·exact⟨by show(0:Int)≤(i:Int);omega,by show(i:Int)<_;omega⟩
     ·exact hd hp
    ·exact hd hp
theorem W5(fs:List Fd):(Qu fs).length=fs.length:=by simp[Qu,Wi]
theorem B5(fs:List Fd)(j:Nat)(h:j<fs.length):-1≤(Qu fs).getD j 0∧(Qu fs).getD j 0<j:=by
 have:=BD fs 0 [] (by simp) j h
 simp only[Qu]
 omega
structure FsOk(fs:List Fd):Prop where
 len:fs.length<1000
 kids:∀i,(fs.getD i default).kids≤9223372036854775807
 name:∀i,(fs.getD i default).name.length≤1000
def S_par:SpecI:=fun args K=>∃fs,args=[vF fs]∧FsOk fs∧K (vI (Qu fs))
theorem Hm[Syms]:Zi Try.prog 73 S_par:=by
 rintro args K ⟨fs,rfl,h,hk⟩
 exact⟨rfl,_,rfl,hk,fnI Qp Qq Q5 (Xi (Xz Qp Qq Q5 (Xi (Xz Qp Qq Q5 Qb QJ) Qb) QJ) (Xi (Xz Qp Qq Q5 Qb QJ) Qb)) QJ (CW fs h.len h.kids)⟩
end
section
set_option maxRecDepth 100000
set_option maxHeartbeats 4000000
def Vk(fs:List Fd):Nat→List Int→List Int
 |k+1,a::b::t=>if 0<(fs.getD a.toNat default).kids then Vk fs k (b::t)else a::b::t
 |_,op=>op
def Xq(fs:List Fd)(a:Nat):List Fd:=fs.set a {fs.getD a default with kids:=(fs.getD a default).kids+1}
def XP(op:List Int)(x:Int):Int:=if 4<op.length∧(wi x 8).tmod 5=0 then 2 else(wi x 8).tmod 5
def nmM(i:Nat):List UInt8:=[UInt8.ofNat (97+i)]
def Bh(op:List Int)(i:Nat)(x:Int):Fd:=⟨nmM i,wi (wr .i64 (x.tdiv 8)) 3,XP op x,0⟩
def ZW(op:List Int):Int:=op.headD 0
def XM(fs:List Fd)(op:List Int)(i:Nat)(x:Int):List Fd×List Int:=
 let o:=Vk fs (wi (wr .i64 (x.tdiv 64)) 3).toNat op
 let f:=Bh o i x
 (Xq fs (ZW o).toNat++[f],if f.kind=0 then(fs.length:Int)::o else o)
def XN(ns:List Int):Nat→Nat→List Fd→List Int→List Fd×List Int
 |0,_,fs,op=>(fs,op)
 |n+1,i,fs,op=>if i<ns.length∧i<12 then let r:=XM fs op i (ns.getD i 0);XN ns n (i+1) r.1 r.2 else(fs,op)
def Ym(fs:List Fd)(op:List Int):List Fd:=
 if(fs.getD (ZW op).toNat default).kids=0 then Xq fs (ZW op).toNat++[⟨[122],0,4,0⟩]else fs
def QD(ns:List Int):List Fd:=let r:=XN ns 12 0 [⟨[109],0,0,0⟩] [0];Ym r.1 r.2
abbrev fs0:List Fd:=[⟨[109],0,0,0⟩]
theorem U2:∀i,i<12→ZK [[.int .u8 (wr .u8 (97+(i:Nat)))]]=nmM i:=by decide
theorem Qa(fs:List Fd)(a:Nat):(Xq fs a).length=fs.length:=by simp[Xq]
theorem Xj{fs:List Fd}{a:Nat}(h:a<fs.length):(fs.map encF).set a [.str (fs.getD a default).name,.int .i64 (fs.getD a default).rep,.int .i64 (fs.getD a default).kind,.int .i64 ((fs.getD a default).kids+1)]=(Xq fs a).map encF:=by simp[Xq,encF,List.map_set]
theorem E9{fs:List Fd}{a:Nat}{i:Nat}(h:∀f∈fs,0≤f.kids∧f.kids≤i)(ha:a<fs.length):∀f∈Xq fs a,0≤f.kids∧f.kids≤(i+1:Nat):=by
 intro f hf
 rcases List.mem_or_eq_of_mem_set hf with hf|rfl
 ·have:=h f hf;omega
 ·have:=h (fs.getD a default) (by simp[List.getD_eq_getElem?_getD,ha])
  simp only;omega
theorem XQ{ns:List Int}{i:Nat}{fs:List Fd}{op:List Int}{k0:Nat}{a:Int}{t:List Int}(hrun:XN ns (12-i) i fs op=XN ns 12 0 fs0 [0])(hlen:fs.length=i+1)
 (hkid:∀f∈fs,0≤f.kids∧f.kids≤i) (hin:(i:Int)<ns.length) (h12:(i:Int)<12) (hk0:wi (wr .i64 ((ns.getD i 0).tdiv 64)) 3=(k0:Int)) (hp:Vk fs k0 op=a::t)
 (hop1:∀p∈a::t,0≤p∧p<fs.length) (hol2:t.length+1≤i+1) (kd:Int) (hkd:XP (a::t) (ns.getD i 0)=kd) (op':List Int) (hop':op'=if kd=0 then(fs.length:Int)::a::t else a::t)
 (fs':List Fd) (hfs':fs'=Xq fs a.toNat++[⟨nmM i,wi (wr .i64 ((ns.getD i 0).tdiv 8)) 3,kd,0⟩]):
 XN ns (12-(i+1)) (i+1) fs' op'=XN ns 12 0 fs0 [0]∧fs'.length=i+1+1∧op'≠[]∧(∀p∈op',0≤p∧p<fs'.length)∧(∀f∈fs',0≤f.kids∧f.kids≤(i+1:Nat))∧op'.length≤i+1+1:=by
 have ha:=hop1 a (List.mem_cons_self ..)
 have hl':fs'.length=i+1+1:=by rw[hfs'];simp[Qa,hlen]
 refine⟨?_,hl',?_,?_,?_,?_⟩
 ·rw[←hrun,show 12-i=12-(i+1)+1 by omega,XN,if_pos (by omega)]
  simp only[XM,hk0,Int.toNat_natCast,hp,ZW,List.headD_cons,Bh,hkd,←hfs',←hop']
 ·rw[hop'];split<;>simp
 ·intro p hp'
  rw[hl']
  have:p=(fs.length:Int)∨p∈a::t:=by
   rw[hop']at hp'
   split at hp'
   ·exact List.mem_cons.1 hp'
   ·exact .inr hp'
  rcases this with rfl|h
  ·omega
  ·have:=hop1 p h;omega
 ·intro f hf
  rw[hfs']at hf
  rcases List.mem_append.1 hf with hf|hf
  ·exact E9 hkid (by omega) f hf
  ·simp only[List.mem_singleton]at hf;subst hf;simp only;omega
 ·rw[hop'];split<;>simp only[List.length_cons]<;>omega
theorem VK{ns:List Int}{n i:Nat}{fs:List Fd}{op:List Int}(h:¬(i<ns.length∧i<12)):XN ns n i fs op=(fs,op):=by
 cases n with
 |zero=>rfl
 |succ n=>simp only[XN,h,if_false]
end
end Go.Proofs.Ytajieadpaeggcaa
