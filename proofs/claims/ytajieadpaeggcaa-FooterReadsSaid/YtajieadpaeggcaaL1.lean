/-
  Shapes of records as plain data,and how they are laid out;what it is to walk over one. Plain. Numbers as bytes:varints,and little-endian ones. Plain. 'twin':has a field ahead in the same group that name? 'Parents':the places of fields' groups. 'Path':a field's names,from the way's beginning;the parents' places lie ahead. 'Make':a shape,of raw numbers. 'Make':a shape,of raw numbers. Small facts of rows,for the symbolic runs. Plain. Bytes,cloned;a varint behind bytes. The program's. Calls that answer bytes of their own. A varint behind bytes. The program's. A number's bytes behind bytes,the lowest first. The program's. A varint,read. The program's. The names of a shape of raw numbers,and its paths:no two are the same. Plain.
-/
import Derived.Test.YtajieadpaeggcaaSxOne
import Derived.Test.YtajieadpaeggcaaTab
import Derived.Test.YtajieadpaeggcaaWithin
set_option linter.unusedVariables false
set_option linter.unusedSimpArgs false
namespace Go.Proofs.Ytajieadpaeggcaa
open Go Go.Av
structure Fd where
 name:List UInt8
 rep:Int
 kind:Int
 kids:Int
 deriving Inhabited
structure Lf where
 field:Int
 r:Int
 d:Int
 kind:Int
 deriving Inhabited
def encF(f:Fd):List AVal:=[.str f.name,.int .i64 f.rep,.int .i64 f.kind,.int .i64 f.kids]
def Qr(p:Int):List AVal:=[.int .i64 p]
def ZO(l:Lf):List AVal:=[.int .i64 l.field,.int .i64 l.r,.int .i64 l.d,.int .i64 l.kind]
def encG(p:Int×Int):List AVal:=[.int .i64 p.1,.int .i64 p.2]
abbrev vF(fs:List Fd):AVal:=vT 4 encF default fs
abbrev vI(l:List Int):AVal:=vT 1 Qr 0 l
abbrev vL(l:List Lf):AVal:=vT 4 ZO default l
theorem fF(l:List Fd):Qp (l.map encF):=XV (fun a x hx=>by simp[encF]at hx;rcases hx with rfl|rfl|rfl|rfl<;>rfl) l
theorem fI(l:List Int):Qp (l.map Qr):=XV (fun a x hx=>by simp[Qr]at hx;subst hx;rfl) l
theorem fL(l:List Lf):Qp (l.map ZO):=XV (fun a x hx=>by simp[ZO]at hx;rcases hx with rfl|rfl|rfl|rfl<;>rfl) l
theorem fG(l:List (Int×Int)):Qp (l.map encG):=XV (fun a x hx=>by simp[encG]at hx;rcases hx with rfl|rfl<;>rfl) l
theorem U0{α:Type}{enc:α→List AVal}{z:Nat}(h:∀a,(enc a).length=z)(l:List α)(a b:Nat):Yo z (((l.map enc).drop a).take b)=true:=by
 rw[Yo,List.all_eq_true]
 intro r hr
 obtain⟨x,_,rfl⟩:=List.mem_map.1 (List.mem_of_mem_drop (List.mem_of_mem_take hr))
 rw[h];exact Nat.beq_refl z
theorem aI(l:List Int)(a b:Nat):Yo 1 (((l.map Qr).drop a).take b)=true:=U0 (enc:=Qr) (z:=1) (fun _=>rfl) l a b
abbrev Stk:=List (Int×Int)
def Zt:Stk→Stk
 |[]=>[]
 |(a,k)::t=>if k≤0 then Zt t else(a,k)::t
def U5:Stk→Int
 |[]=>-1
 |(a,_)::_=>a
def XN:Stk→Stk
 |[]=>[]
 |(a,k)::t=>(a,k-1)::t
def Zp(i:Nat)(f:Fd)(st:Stk):Stk:=if f.kind=0 then((i:Int),f.kids)::st else st
def Xa:List Fd→Nat→Stk→List (Int×Int)
 |[],_,_=>[]
 |f::fs,i,st=>(U5 (Zt st),((Zt st).length:Int))::Xa fs (i+1) (Zp i f (XN (Zt st)))
def Qi(fs:List Fd):List Int:=(Xa fs 0 []).map (·.1)
theorem Yp:∀(fs:List Fd) (i:Nat) (st:Stk),(Xa fs i st).length=fs.length
 |[],_,_=>rfl
 |f::fs,i,st=>by simp[Xa,Yp fs]
def GQ:Nat→Nat→List UInt8
 |0,n=>[UInt8.ofNat n]
 |k+1,n=>if n<128 then[UInt8.ofNat n]else UInt8.ofNat (n%128+128)::GQ k (n/128)
def Y9(n:Nat):List UInt8:=GQ 9 n
def QW:List UInt8→Nat→Nat→Nat×Nat×Int
 |[],_,_=>(0,0,8)
 |x::r,k,v=>if k=9∧1<x.toNat then(0,0,14)else
  if x.toNat<128 then(if x.toNat=0∧0<k then(0,0,10)else(v+x.toNat%128*2^(7*k),k+1,0))else QW r (k+1) (v+x.toNat%128*2^(7*k))
theorem KU{n:Nat}(h:n<256):(UInt8.ofNat n).toNat=n:=by rw[UInt8.toNat_ofNat'];omega
theorem MS(f n:Nat):0<(GQ f n).length:=by
 cases f with
 |zero=>simp[GQ]
 |succ f=>rw[GQ];split<;>simp
theorem Cr:∀(f n:Nat),(GQ f n).length≤f+1
 |0,n=>by simp[GQ]
 |f+1,n=>by
  rw[GQ]
  split
  ·simp
  ·have:=Cr f (n/128)
   simp;omega
def leB:Nat→Nat→List UInt8
 |0,_=>[]
 |n+1,v=>UInt8.ofNat (v%256)::leB n (v/256)
def leV:List UInt8→Nat
 |[]=>0
 |x::r=>x.toNat+256*leV r
theorem Y3:∀n v,(leB n v).length=n
 |0,_=>rfl
 |n+1,v=>by rw[leB,List.length_cons,Y3 n]
section
def Xw(fs:List Fd)(ps:List Int)(i k:Nat):Bool:=decide (ps.getD k 0=ps.getD i 0)&&eqb (fs.getD k default).name (fs.getD i default).name
def WF(fs:List Fd)(ps:List Int)(i:Nat):Bool:=(List.range i).any (Xw fs ps i)
set_option maxRecDepth 100000
set_option maxHeartbeats 2000000
theorem SL[Syms](fs:List Fd)(ps:List Int)(i:Nat)(hi:i<fs.length)(hp:ps.length=fs.length)(hl:fs.length<1000):
 fnT Q7 Q7 (Qx fns) (Qo tys) (Qz plt) 100 114 [vF fs,vI ps,.int .i64 i] [] 0 (fun v H _=>v= .bool (WF fs ps i)∧H=[]):=by
 refine⟨fun n s=>∃k:Nat,(k≤i∧n=i-k∧ ∀j,j<k→Xw fs ps i j=false)∧s=⟨[(0,vF fs),(1,vI ps),(2,.int .i64 i),(6,.bool false),(8,.int .i64 i),(9,.int .i64 k)],[],0⟩,
  ⟨_,_,.refl _ _ _,0,⟨by omega,rfl,fun j h=>by omega⟩,rfl⟩,?_⟩
 rintro n s ⟨k,⟨hk,rfl,hj⟩,rfl⟩
 have next:∀{j:Nat},Xw fs ps i k=false→j<k+1→Xw fs ps i j=false:=fun{j} h hlt=>by
  rcases Nat.lt_or_ge j k with h'|h'
  ·exact hj j h'
  ·obtain rfl:j=k:=by omega
   exact h
 repeat' first|refine And.intro ?_ ?_|(intro h;try simp only[decide_eq_true_eq,decide_eq_false_iff_not,Int.not_lt,Int.toNat_natCast,↓reduceIte,Nat.reduceAdd,reduceCtorEq]at h)
 any_goals first|exact PlanIs.mk (by kernel_rfl)|omega|exact rfl
 ·refine⟨_,.refl _ _ _,_,rfl,?_,rfl⟩
  have h1:Xw fs ps i k=true:=by rw[Xw,Bool.and_eq_true];exact⟨decide_eq_true ‹_›,‹_›⟩
  exact congrArg AVal.bool (List.any_eq_true.2 ⟨k,List.mem_range.2 (by omega),h1⟩).symm
 ·exact⟨_,_,Q1 [0,1,2,6,8,9] rfl,⟨k+1,⟨by omega,rfl,fun j=>next (by rw[Xw,Bool.and_eq_false_iff];exact .inr ‹_›)⟩,rfl⟩,by omega⟩
 ·exact⟨_,_,Q1 [0,1,2,6,8,9] rfl,⟨k+1,⟨by omega,rfl,fun j=>next (by rw[Xw,Bool.and_eq_false_iff];exact .inl (decide_eq_false ‹_›))⟩,rfl⟩,by omega⟩
 ·refine⟨_,.refl _ _ _,_,rfl,?_,rfl⟩
  refine congrArg AVal.bool (a₂:=WF fs ps i) (Bool.eq_false_iff.2 fun h=>?_).symm
  obtain⟨j,h1,h2⟩:=List.any_eq_true.1 h
  rw[hj j (by have:=List.mem_range.1 h1;omega)]at h2
  cases h2
end
section
set_option maxRecDepth 100000
set_option maxHeartbeats 4000000
abbrev tB[Syms](c ci:CallT):CallT:=FG c ci (Qx fns) (Qo tys) (Qz plt) 100
def wE(fs:List Fd)(i:Nat)(l:AVal):Env:=[(0,vF fs),(1,.func 95 [.ptr 0 0 0]),(4,.bool false),(5,l),(12,vF fs),(13,.int .i64 fs.length),(14,.int .i64 i)]
def wO(n:Nat):AVal:=.slice 1 0 n 1 none
def wL(st:Stk):AVal:=.slice 2 0 st.length 2 none
def wA(fs:List Fd):St:=⟨wE fs 0 .nils,[(0,some (.cells [[.nils]] false))],1⟩
def wB(fs:List Fd)(i:Nat)(out:List Int):St:=⟨wE fs i .nils,[(0,some (.cells [[wO i]] false)),(1,some (.cells (out.map Qr) false))],2⟩
def wC(fs:List Fd)(i:Nat)(st:Stk)(out:List Int)(junk:List (List AVal)):St:=⟨wE fs i (wL st),[(0,some (.cells [[wO i]] false)),(1,some (.cells (out.map Qr) false)),(2,some (.cells (st.reverse.map encG++junk) false))],3⟩
def wSt(fs:List Fd)(i:Nat)(st:Stk)(out:List Int)(s:St):Prop:=
 (i=0∧st=[]∧out=[]∧s=wA fs)∨(st=[]∧s=wB fs i out)∨(∃junk,Qp junk∧s=wC fs i st out junk)
def wInv(fs:List Fd)(n:Nat)(s:St):Prop:=∃(i:Nat) (st:Stk) (out:List Int),(i≤fs.length∧n=fs.length-i∧out.length=i∧out++(Xa (fs.drop i) i st).map (·.1)=Qi fs∧(∀p∈st,p.2≤9223372036854775807)∧st.length≤i)∧wSt fs i st out s
def wCi(fs:List Fd)(i n:Nat)(out:List Int)(R:List (List AVal)):St:=⟨[(0,vF fs),(1,.func 95 [.ptr 0 0 0]),(4,.bool false),(5,.slice 2 0 n 2 none),(6,.int .i64 i),(7,.ptr 3 0 0),(12,vF fs),(13,.int .i64 fs.length),(14,.int .i64 i),(15,.bool (decide ((i:Int)<fs.length)))],[(0,some (.cells [[wO i]] false)),(1,some (.cells (out.map Qr) false)),(2,some (.cells R false)),(3,some (.cells [encF (fs.getD i default)] false))],5⟩
theorem BD{α:Type}[Inhabited α]{l:List α}{i:Nat}(h:i<l.length):l.drop i=l.getD i default::l.drop (i+1):=by
 rw[List.drop_eq_getElem_cons h];simp[h]
theorem Hy{fs:List Fd}{i:Nat}{st:Stk}(h:i<fs.length):Xa (fs.drop i) i st=(U5 (Zt st),((Zt st).length:Int))::Xa (fs.drop (i+1)) (i+1) (Zp i (fs.getD i default) (XN (Zt st))):=by
 rw[BD h];rfl
theorem W3{fs:List Fd}{i:Nat}{st st':Stk}{out:List Int}(h:i<fs.length)(hw:out++(Xa (fs.drop i) i st).map (·.1)=Qi fs)(hs:st'=Zp i (fs.getD i default) (XN (Zt st))):
 (out++[U5 (Zt st)])++(Xa (fs.drop (i+1)) (i+1) st').map (·.1)=Qi fs:=by
 rw[←hw,Hy h,hs];simp
theorem Lj[Syms](fs:List Fd)(hl:fs.length<1000)(hk:∀i,(fs.getD i default).kids≤9223372036854775807):
 fnT Q7 (Q6 94 (tB Q7 (Q6 95 (tB Q7 Q7) Q7)) (Q6 96 (tB Q7 Q7) Q7)) (Qx fns) (Qo tys) (Qz plt) 100 73 [vF fs] [] 0 (fun v H _=>v=vI (Qi fs)∧H=[]):=by
 refine⟨wInv fs,⟨_,wA fs,?_,0,[],[],⟨by omega,rfl,rfl,rfl,by simp,by simp⟩,.inl ⟨rfl,rfl,rfl,rfl⟩⟩,?_⟩
 ·exact .refl _ _ _
 rintro n s ⟨i,st,out,⟨hi,rfl,ho,hw,hb,hsl⟩,(⟨rfl,rfl,rfl,rfl⟩|⟨rfl,rfl⟩|⟨junk,hj,rfl⟩)⟩
 · repeat' first|refine And.intro ?_ ?_|(intro h;try simp only[decide_eq_true_eq,decide_eq_false_iff_not,Int.not_lt,Int.not_le,Int.toNat_natCast,↓reduceIte,Nat.reduceAdd,reduceCtorEq,Int.reduceLT,Int.lt_irrefl,gt_iff_lt,not_true_eq_false,not_false_eq_true,Bool.not_true,Bool.not_false,decide_false,decide_true,Int.reduceLE,Int.reduceSub,Bool.false_eq_true,Bool.true_eq_false,Nat.reduceEqDiff,Nat.one_ne_zero,Nat.reduceLT,and_self,and_true,true_and,Int.natCast_zero,Int.cast_ofNat_Int,List.length_nil,ne_eq,Decidable.not_not]at h)
   all_goals(try first|exact PlanIs.mk (by kernel_rfl)|omega|(show(_:Int)*((32:Nat):Int)≤_;omega)|(show(_:Int)*((8:Nat):Int)≤_;omega)|(show(_:Int)*((24:Nat):Int)≤_;omega)|exact rfl|exact Nat.le_of_ble_eq_true rfl|(show(_:Nat)≤(_:Nat);simp;done)|(show(_:Nat)≤(_:Nat);simp;omega))
   ·refine Xo ?_
    repeat' first|refine And.intro ?_ ?_|(intro h;try simp only[decide_eq_true_eq,decide_eq_false_iff_not,Int.not_lt,Int.not_le,Int.toNat_natCast,↓reduceIte,Nat.reduceAdd,reduceCtorEq,Int.reduceLT,Int.lt_irrefl,gt_iff_lt,not_true_eq_false,not_false_eq_true,Bool.not_true,Bool.not_false,decide_false,decide_true,Int.reduceLE,Int.reduceSub,Bool.false_eq_true,Bool.true_eq_false,Nat.reduceEqDiff,Nat.one_ne_zero,Nat.reduceLT,and_self,and_true,true_and,Int.natCast_zero,Int.cast_ofNat_Int,List.length_nil,ne_eq,Decidable.not_not]at h)
    all_goals(try first|exact PlanIs.mk (by kernel_rfl)|omega|(show(_:Int)*((32:Nat):Int)≤_;omega)|(show(_:Int)*((8:Nat):Int)≤_;omega)|(show(_:Int)*((24:Nat):Int)≤_;omega)|exact rfl|exact Nat.le_of_ble_eq_true rfl|(show(_:Nat)≤(_:Nat);simp;done)|(show(_:Nat)≤(_:Nat);simp;omega))
    refine⟨_,.refl _ _ _,_,rfl,?_⟩
    repeat' first|refine And.intro ?_ ?_|(intro h;try simp only[decide_eq_true_eq,decide_eq_false_iff_not,Int.not_lt,Int.not_le,Int.toNat_natCast,↓reduceIte,Nat.reduceAdd,reduceCtorEq,Int.reduceLT,Int.lt_irrefl,gt_iff_lt,not_true_eq_false,not_false_eq_true,Bool.not_true,Bool.not_false,decide_false,decide_true,Int.reduceLE,Int.reduceSub,Bool.false_eq_true,Bool.true_eq_false,Nat.reduceEqDiff,Nat.one_ne_zero,Nat.reduceLT,and_self,and_true,true_and,Int.natCast_zero,Int.cast_ofNat_Int,List.length_nil,ne_eq,Decidable.not_not]at h)
    all_goals(try first|exact PlanIs.mk (by kernel_rfl)|omega|(show(_:Int)*((32:Nat):Int)≤_;omega)|(show(_:Int)*((8:Nat):Int)≤_;omega)|(show(_:Int)*((24:Nat):Int)≤_;omega)|exact rfl|exact Nat.le_of_ble_eq_true rfl|(show(_:Nat)≤(_:Nat);simp;done)|(show(_:Nat)≤(_:Nat);simp;omega))
    ·refine⟨_,wC fs 1 [(0,(fs.getD 0 default).kids)] [-1] [],Q0 [0,4,7] rfl ?_ ?_,⟨1,_,[-1],⟨by omega,rfl,rfl,W3 (st:=[]) (by omega) hw (by rw[Zp,if_pos (show(fs.getD 0 default).kind=0 from ‹_›)];rfl),?_,by simp⟩,.inr (.inr ⟨[],by simp[Qp],rfl⟩)⟩,by omega⟩
     ·exact⟨.refl _,.refl _,.refl _,.refl _,.refl _,.refl _,.refl _,trivial⟩
     ·exact⟨⟨by decide,_,rfl,.refl _⟩,⟨by decide,_,rfl,.refl _⟩,⟨by decide,_,rfl,Q2 rfl (QA (fG _) QL)⟩,trivial⟩
     ·intro p hp;simp at hp;subst hp;exact hk 0
    ·refine⟨_,wB fs 1 [-1],Q0 [0,4] rfl ?_ ?_,⟨1,_,[-1],⟨by omega,rfl,rfl,W3 (st:=[]) (by omega) hw (by rw[Zp,if_neg (show ¬(fs.getD 0 default).kind=0 from ‹_›)];rfl),?_,by simp⟩,.inr (.inl ⟨rfl,rfl⟩)⟩,by omega⟩
     ·exact⟨.refl _,.refl _,.refl _,.refl _,.refl _,.refl _,.refl _,trivial⟩
     ·exact⟨⟨by decide,_,rfl,.refl _⟩,⟨by decide,_,rfl,.refl _⟩,trivial⟩
     ·intro p hp;simp at hp
   ·refine Xo ?_
    repeat' first|refine And.intro ?_ ?_|(intro h;try simp only[decide_eq_true_eq,decide_eq_false_iff_not,Int.not_lt,Int.not_le,Int.toNat_natCast,↓reduceIte,Nat.reduceAdd,reduceCtorEq,Int.reduceLT,Int.lt_irrefl,gt_iff_lt,not_true_eq_false,not_false_eq_true,Bool.not_true,Bool.not_false,decide_false,decide_true,Int.reduceLE,Int.reduceSub,Bool.false_eq_true,Bool.true_eq_false,Nat.reduceEqDiff,Nat.one_ne_zero,Nat.reduceLT,and_self,and_true,true_and,Int.natCast_zero,Int.cast_ofNat_Int,List.length_nil,ne_eq,Decidable.not_not]at h)
    all_goals(try first|exact PlanIs.mk (by kernel_rfl)|omega|(show(_:Int)*((32:Nat):Int)≤_;omega)|(show(_:Int)*((8:Nat):Int)≤_;omega)|(show(_:Int)*((24:Nat):Int)≤_;omega)|exact rfl|exact Nat.le_of_ble_eq_true rfl|(show(_:Nat)≤(_:Nat);simp;done)|(show(_:Nat)≤(_:Nat);simp;omega))
    refine⟨_,.refl _ _ _,_,rfl,?_⟩
    repeat' first|refine And.intro ?_ ?_|(intro h;try simp only[decide_eq_true_eq,decide_eq_false_iff_not,Int.not_lt,Int.not_le,Int.toNat_natCast,↓reduceIte,Nat.reduceAdd,reduceCtorEq,Int.reduceLT,Int.lt_irrefl,gt_iff_lt,not_true_eq_false,not_false_eq_true,Bool.not_true,Bool.not_false,decide_false,decide_true,Int.reduceLE,Int.reduceSub,Bool.false_eq_true,Bool.true_eq_false,Nat.reduceEqDiff,Nat.one_ne_zero,Nat.reduceLT,and_self,and_true,true_and,Int.natCast_zero,Int.cast_ofNat_Int,List.length_nil,ne_eq,Decidable.not_not]at h)
    all_goals(try first|exact PlanIs.mk (by kernel_rfl)|omega|(show(_:Int)*((32:Nat):Int)≤_;omega)|(show(_:Int)*((8:Nat):Int)≤_;omega)|(show(_:Int)*((24:Nat):Int)≤_;omega)|exact rfl|exact Nat.le_of_ble_eq_true rfl|(show(_:Nat)≤(_:Nat);simp;done)|(show(_:Nat)≤(_:Nat);simp;omega))
    refine⟨_,.refl _ _ _,_,rfl,?_⟩
    refine⟨_,VQ (k:=2) 1 Qr 0 rfl,_,rfl,?_,rfl⟩
    have h0:fs=[]:=List.eq_nil_of_length_eq_zero (by omega)
    subst h0
    rfl
 · repeat' first|refine And.intro ?_ ?_|(intro h;try simp only[decide_eq_true_eq,decide_eq_false_iff_not,Int.not_lt,Int.not_le,Int.toNat_natCast,↓reduceIte,Nat.reduceAdd,reduceCtorEq,Int.reduceLT,Int.lt_irrefl,gt_iff_lt,not_true_eq_false,not_false_eq_true,Bool.not_true,Bool.not_false,decide_false,decide_true,Int.reduceLE,Int.reduceSub,Bool.false_eq_true,Bool.true_eq_false,Nat.reduceEqDiff,Nat.one_ne_zero,Nat.reduceLT,and_self,and_true,true_and,Int.natCast_zero,Int.cast_ofNat_Int,List.length_nil,ne_eq,Decidable.not_not]at h)
   all_goals(try first|exact PlanIs.mk (by kernel_rfl)|omega|(show(_:Int)*((32:Nat):Int)≤_;omega)|(show(_:Int)*((8:Nat):Int)≤_;omega)|(show(_:Int)*((24:Nat):Int)≤_;omega)|exact rfl|exact Nat.le_of_ble_eq_true rfl|(show(_:Nat)≤(_:Nat);simp;done)|(show(_:Nat)≤(_:Nat);simp;omega))
   ·refine Xo ?_
    repeat' first|refine And.intro ?_ ?_|(intro h;try simp only[decide_eq_true_eq,decide_eq_false_iff_not,Int.not_lt,Int.not_le,Int.toNat_natCast,↓reduceIte,Nat.reduceAdd,reduceCtorEq,Int.reduceLT,Int.lt_irrefl,gt_iff_lt,not_true_eq_false,not_false_eq_true,Bool.not_true,Bool.not_false,decide_false,decide_true,Int.reduceLE,Int.reduceSub,Bool.false_eq_true,Bool.true_eq_false,Nat.reduceEqDiff,Nat.one_ne_zero,Nat.reduceLT,and_self,and_true,true_and,Int.natCast_zero,Int.cast_ofNat_Int,List.length_nil,ne_eq,Decidable.not_not]at h)
    all_goals(try first|exact PlanIs.mk (by kernel_rfl)|omega|(show(_:Int)*((32:Nat):Int)≤_;omega)|(show(_:Int)*((8:Nat):Int)≤_;omega)|(show(_:Int)*((24:Nat):Int)≤_;omega)|exact rfl|exact Nat.le_of_ble_eq_true rfl|(show(_:Nat)≤(_:Nat);simp;done)|(show(_:Nat)≤(_:Nat);simp;omega))
    refine⟨_,.refl _ _ _,_,rfl,?_⟩
    repeat' first|refine And.intro ?_ ?_|(intro h;try simp only[decide_eq_true_eq,decide_eq_false_iff_not,Int.not_lt,Int.not_le,Int.toNat_natCast,↓reduceIte,Nat.reduceAdd,reduceCtorEq,Int.reduceLT,Int.lt_irrefl,gt_iff_lt,not_true_eq_false,not_false_eq_true,Bool.not_true,Bool.not_false,decide_false,decide_true,Int.reduceLE,Int.reduceSub,Bool.false_eq_true,Bool.true_eq_false,Nat.reduceEqDiff,Nat.one_ne_zero,Nat.reduceLT,and_self,and_true,true_and,Int.natCast_zero,Int.cast_ofNat_Int,List.length_nil,ne_eq,Decidable.not_not]at h)
    all_goals(try first|exact PlanIs.mk (by kernel_rfl)|omega|(show(_:Int)*((32:Nat):Int)≤_;omega)|(show(_:Int)*((8:Nat):Int)≤_;omega)|(show(_:Int)*((24:Nat):Int)≤_;omega)|exact rfl|exact Nat.le_of_ble_eq_true rfl|(show(_:Nat)≤(_:Nat);simp;done)|(show(_:Nat)≤(_:Nat);simp;omega))
    ·refine⟨_,wC fs (i+1) [(i,(fs.getD i default).kids)] (out++[-1]) [],Q0 [0,5,8] rfl ?_ ?_,⟨i+1,_,_,⟨by omega,rfl,by simp[ho],W3 (st:=[]) (by omega) hw (by rw[Zp,if_pos (show(fs.getD i default).kind=0 from ‹_›)];rfl),?_,by simp⟩,.inr (.inr ⟨[],by simp[Qp],rfl⟩)⟩,by omega⟩
     ·exact⟨.refl _,.refl _,.refl _,.refl _,.refl _,.refl _,.refl _,trivial⟩
     ·exact⟨⟨by decide,_,rfl,.refl _⟩,⟨by decide,_,rfl,Q2 (by show List.take i (List.drop 0 (out.map Qr))++[[.int .i64 (-1)]]=_;rw[←ho];simp[Qr];exact List.take_of_length_le (by simp)) (fI _)⟩,⟨by decide,_,rfl,Q2 rfl (QA (fG _) QL)⟩,trivial⟩
     ·intro p hp;simp at hp;subst hp;exact hk i
    ·refine⟨_,wB fs (i+1) (out++[-1]),Q0 [0,5] rfl ?_ ?_,⟨i+1,_,_,⟨by omega,rfl,by simp[ho],W3 (st:=[]) (by omega) hw (by rw[Zp,if_neg (show ¬(fs.getD i default).kind=0 from ‹_›)];rfl),?_,by simp⟩,.inr (.inl ⟨rfl,rfl⟩)⟩,by omega⟩
     ·exact⟨.refl _,.refl _,.refl _,.refl _,.refl _,.refl _,.refl _,trivial⟩
     ·exact⟨⟨by decide,_,rfl,.refl _⟩,⟨by decide,_,rfl,Q2 (by show List.take i (List.drop 0 (out.map Qr))++[[.int .i64 (-1)]]=_;rw[←ho];simp[Qr];exact List.take_of_length_le (by simp)) (fI _)⟩,trivial⟩
     ·intro p hp;simp at hp
   ·refine Xo ?_
    repeat' first|refine And.intro ?_ ?_|(intro h;try simp only[decide_eq_true_eq,decide_eq_false_iff_not,Int.not_lt,Int.not_le,Int.toNat_natCast,↓reduceIte,Nat.reduceAdd,reduceCtorEq,Int.reduceLT,Int.lt_irrefl,gt_iff_lt,not_true_eq_false,not_false_eq_true,Bool.not_true,Bool.not_false,decide_false,decide_true,Int.reduceLE,Int.reduceSub,Bool.false_eq_true,Bool.true_eq_false,Nat.reduceEqDiff,Nat.one_ne_zero,Nat.reduceLT,and_self,and_true,true_and,Int.natCast_zero,Int.cast_ofNat_Int,List.length_nil,ne_eq,Decidable.not_not]at h)
    all_goals(try first|exact PlanIs.mk (by kernel_rfl)|omega|(show(_:Int)*((32:Nat):Int)≤_;omega)|(show(_:Int)*((8:Nat):Int)≤_;omega)|(show(_:Int)*((24:Nat):Int)≤_;omega)|exact rfl|exact Nat.le_of_ble_eq_true rfl|(show(_:Nat)≤(_:Nat);simp;done)|(show(_:Nat)≤(_:Nat);simp;omega))
    refine⟨_,.refl _ _ _,_,rfl,?_⟩
    repeat' first|refine And.intro ?_ ?_|(intro h;try simp only[decide_eq_true_eq,decide_eq_false_iff_not,Int.not_lt,Int.not_le,Int.toNat_natCast,↓reduceIte,Nat.reduceAdd,reduceCtorEq,Int.reduceLT,Int.lt_irrefl,gt_iff_lt,not_true_eq_false,not_false_eq_true,Bool.not_true,Bool.not_false,decide_false,decide_true,Int.reduceLE,Int.reduceSub,Bool.false_eq_true,Bool.true_eq_false,Nat.reduceEqDiff,Nat.one_ne_zero,Nat.reduceLT,and_self,and_true,true_and,Int.natCast_zero,Int.cast_ofNat_Int,List.length_nil,ne_eq,Decidable.not_not]at h)
    all_goals(try first|exact PlanIs.mk (by kernel_rfl)|omega|(show(_:Int)*((32:Nat):Int)≤_;omega)|(show(_:Int)*((8:Nat):Int)≤_;omega)|(show(_:Int)*((24:Nat):Int)≤_;omega)|exact rfl|exact Nat.le_of_ble_eq_true rfl|(show(_:Nat)≤(_:Nat);simp;done)|(show(_:Nat)≤(_:Nat);simp;omega))
    ·exact aI _ _ _
    ·refine⟨_,.refl _ _ _,_,rfl,?_⟩
     refine⟨_,VQ (k:=2) 1 Qr 0 rfl,_,rfl,?_,rfl⟩
     have h0:fs=[]:=List.eq_nil_of_length_eq_zero (by omega)
     subst h0
     rfl
    ·refine⟨_,.refl _ _ _,_,rfl,?_⟩
     refine⟨_,YS (enc:=Qr) (k:=2) 0 (l:=out) rfl rfl (QA QL (G2 (fI _))) ?_ ?_,_,rfl,?_,rfl⟩
     ·show List.take (0+i) ([]++List.take i (List.drop 0 (out.map Qr)))=_
      rw[←ho,List.nil_append,List.drop_zero,Nat.zero_add,List.take_take,Nat.min_self]
      exact List.take_of_length_le (Nat.le_of_eq (List.length_map ..))
     ·show 0+i≤([]++List.take i (List.drop 0 (out.map Qr))).length
      simp
      omega
     ·rw[List.drop_of_length_le (by omega)]at hw
      simp[Xa]at hw
      exact congrArg vI hw
 · repeat' first|refine And.intro ?_ ?_|(intro h;try simp only[decide_eq_true_eq,decide_eq_false_iff_not,Int.not_lt,Int.not_le,Int.toNat_natCast,↓reduceIte,Nat.reduceAdd,reduceCtorEq,Int.reduceLT,Int.lt_irrefl,gt_iff_lt,not_true_eq_false,not_false_eq_true,Bool.not_true,Bool.not_false,decide_false,decide_true,Int.reduceLE,Int.reduceSub,Bool.false_eq_true,Bool.true_eq_false,Nat.reduceEqDiff,Nat.one_ne_zero,Nat.reduceLT,and_self,and_true,true_and,Int.natCast_zero,Int.cast_ofNat_Int,List.length_nil,ne_eq,Decidable.not_not]at h)
   all_goals(try first|exact PlanIs.mk (by kernel_rfl)|omega|(show(_:Int)*((32:Nat):Int)≤_;omega)|(show(_:Int)*((8:Nat):Int)≤_;omega)|(show(_:Int)*((24:Nat):Int)≤_;omega)|exact rfl|exact Nat.le_of_ble_eq_true rfl|(show(_:Nat)≤(_:Nat);simp;done)|(show(_:Nat)≤(_:Nat);simp;omega))
   ·refine⟨fun n s=>∃(st1:Stk) (junk1:List (List AVal)) (m:Nat),(n=m∧m=st1.length∧Zt st1=Zt st∧st1.reverse.map encG++junk1=st.reverse.map encG++junk∧Qp junk1∧(∀p∈st1,p.2≤9223372036854775807)∧st1.length≤st.length)∧s=wCi fs i m out (st.reverse.map encG++junk),⟨_,wCi fs i st.length out (st.reverse.map encG++junk),.refl _ _ _,st,junk,st.length,⟨rfl,rfl,rfl,rfl,hj,hb,Nat.le_refl _⟩,rfl⟩,?_⟩
    rintro n s ⟨st1,junk1,m,⟨rfl,hm,hp1,hR,hj1,hb1,hl1⟩,rfl⟩
    generalize st.reverse.map encG++junk=R at hR ⊢
    cases st1 with
    |nil=>
     obtain rfl:n=0:=hm
     have hst:Zt st=[]:=hp1.symm
     have hRf:Qp R:=hR▸QA (fG []) hj1
     repeat' first|refine And.intro ?_ ?_|(intro h;try simp only[decide_eq_true_eq,decide_eq_false_iff_not,Int.not_lt,Int.not_le,Int.toNat_natCast,↓reduceIte,Nat.reduceAdd,reduceCtorEq,Int.reduceLT,Int.lt_irrefl,gt_iff_lt,not_true_eq_false,not_false_eq_true,Bool.not_true,Bool.not_false,decide_false,decide_true,Int.reduceLE,Int.reduceSub,Bool.false_eq_true,Bool.true_eq_false,Nat.reduceEqDiff,Nat.one_ne_zero,Nat.reduceLT,and_self,and_true,true_and,Int.natCast_zero,Int.cast_ofNat_Int,List.length_nil,ne_eq,Decidable.not_not]at h)
     all_goals(try first|exact PlanIs.mk (by kernel_rfl)|omega|(show(_:Int)*((32:Nat):Int)≤_;omega)|(show(_:Int)*((8:Nat):Int)≤_;omega)|(show(_:Int)*((24:Nat):Int)≤_;omega)|exact rfl|exact Nat.le_of_ble_eq_true rfl|(show(_:Nat)≤(_:Nat);simp;done)|(show(_:Nat)≤(_:Nat);simp;omega))
     refine⟨_,.refl _ _ _,_,rfl,?_⟩
     repeat' first|refine And.intro ?_ ?_|(intro h;try simp only[decide_eq_true_eq,decide_eq_false_iff_not,Int.not_lt,Int.not_le,Int.toNat_natCast,↓reduceIte,Nat.reduceAdd,reduceCtorEq,Int.reduceLT,Int.lt_irrefl,gt_iff_lt,not_true_eq_false,not_false_eq_true,Bool.not_true,Bool.not_false,decide_false,decide_true,Int.reduceLE,Int.reduceSub,Bool.false_eq_true,Bool.true_eq_false,Nat.reduceEqDiff,Nat.one_ne_zero,Nat.reduceLT,and_self,and_true,true_and,Int.natCast_zero,Int.cast_ofNat_Int,List.length_nil,ne_eq,Decidable.not_not]at h)
     all_goals(try first|exact PlanIs.mk (by kernel_rfl)|omega|(show(_:Int)*((32:Nat):Int)≤_;omega)|(show(_:Int)*((8:Nat):Int)≤_;omega)|(show(_:Int)*((24:Nat):Int)≤_;omega)|exact rfl|exact Nat.le_of_ble_eq_true rfl|(show(_:Nat)≤(_:Nat);simp;done)|(show(_:Nat)≤(_:Nat);simp;omega))
     ·refine⟨_,wC fs (i+1) [(i,(fs.getD i default).kids)] (out++[-1]) [],Q0 [0,6,9] rfl ?_ ?_,⟨i+1,_,_,⟨by omega,rfl,by simp[ho],by have:=W3 (st:=st) (st':=[(i,(fs.getD i default).kids)]) (by omega) hw (by rw[hst,Zp,if_pos (show(fs.getD i default).kind=0 from ‹_›)];rfl);rw[hst]at this;exact this,?_,by simp⟩,.inr (.inr ⟨[],QL,rfl⟩)⟩,by omega⟩
      ·exact⟨.refl _,.refl _,.refl _,.refl _,.refl _,.refl _,.refl _,trivial⟩
      ·exact⟨⟨by decide,_,rfl,.refl _⟩,⟨by decide,_,rfl,Q2 (by show List.take i (List.drop 0 (out.map Qr))++[[.int .i64 (-1)]]=_;rw[←ho];simp[Qr];exact List.take_of_length_le (by simp)) (fI _)⟩,⟨by decide,_,rfl,Q2 rfl (QA (fG _) QL)⟩,trivial⟩
      ·intro p hp;simp at hp;subst hp;exact hk i
     ·refine⟨_,wC fs (i+1) [] (out++[-1]) R,Q0 [0,6,2] rfl ?_ ?_,⟨i+1,_,_,⟨by omega,rfl,by simp[ho],by have:=W3 (st:=st) (st':=[]) (by omega) hw (by rw[hst,Zp,if_neg (show ¬(fs.getD i default).kind=0 from ‹_›)];rfl);rw[hst]at this;exact this,?_,by simp⟩,.inr (.inr ⟨R,hRf,rfl⟩)⟩,by omega⟩
      ·exact⟨.refl _,.refl _,.refl _,.refl _,.refl _,.refl _,.refl _,trivial⟩
      ·exact⟨⟨by decide,_,rfl,.refl _⟩,⟨by decide,_,rfl,Q2 (by show List.take i (List.drop 0 (out.map Qr))++[[.int .i64 (-1)]]=_;rw[←ho];simp[Qr];exact List.take_of_length_le (by simp)) (fI _)⟩,⟨by decide,_,rfl,Q2 rfl (QA (fG _) hRf)⟩,trivial⟩
      ·intro p hp;simp at hp
    |cons q t=>
     obtain⟨a,k⟩:=q
     obtain rfl:n=t.length+1:=hm
     have hx1:0+((↑(t.length+1):Int)-1).toNat=t.length:=by omega
     have hx2:R.getD t.length []=encG (a,k):=by rw[←hR];simp[List.getElem?_append,List.getElem?_map]
     have hRl:t.length<R.length:=by rw[←hR];simp
     have hRf:Qp R:=hR▸QA (fG _) hj1
     have hkb:k≤9223372036854775807:=hb1 (a,k) (List.mem_cons_self ..)
     have htl:t.length+1≤st.length:=hl1
     have hset:∀x,R.set t.length (encG x)=(x::t).reverse.map encG++junk1:=fun x=>by rw[←hR];simp[List.set_append]
     repeat' first|refine And.intro ?_ ?_|(intro h;try simp only[decide_eq_true_eq,decide_eq_false_iff_not,Int.not_lt,Int.not_le,Int.toNat_natCast,↓reduceIte,Nat.reduceAdd,reduceCtorEq,Int.reduceLT,Int.lt_irrefl,gt_iff_lt,not_true_eq_false,not_false_eq_true,Bool.not_true,Bool.not_false,decide_false,decide_true,Int.reduceLE,Int.reduceSub,Bool.false_eq_true,Bool.true_eq_false,Nat.reduceEqDiff,Nat.one_ne_zero,Nat.reduceLT,and_self,and_true,true_and,Int.natCast_zero,Int.cast_ofNat_Int,List.length_nil,ne_eq,Decidable.not_not,hx1,hx2]at h)
     all_goals(try first|exact PlanIs.mk (by kernel_rfl)|omega|exact rfl|exact Nat.le_of_ble_eq_true rfl|(show(_:Nat)≤(_:Nat);simp;done)|(show(_:Nat)≤(_:Nat);simp;omega)|(rw[hx1,hx2];exact rfl)|(rw[hx1,hx2];show(-9223372036854775808:Int)≤k-1;have hk0:(0:Int)<k:=‹_›;omega)|(rw[hx1,hx2];show k-1≤(9223372036854775807:Int);omega)|(show(_:Nat)≤(_:Nat);rw[hx1,hx2];exact Nat.le_of_ble_eq_true rfl))
     ·refine⟨t.length,wCi fs i t.length out R,Q0 [0,1,2,3,4] rfl ?_ ?_,⟨t,encG (a,k)::junk1,t.length,⟨rfl,rfl,?_,?_,?_,fun p hp=>hb1 p (List.mem_cons_of_mem _ hp),by omega⟩,rfl⟩,by omega⟩
      ·refine⟨.refl _,.refl _,.refl _,?_,.refl _,.refl _,.refl _,.refl _,.refl _,.refl _,trivial⟩
       show WkV (.slice 2 (0+0) (((↑(t.length+1):Int)-1).toNat-0) 2 none) _
       rw[show((↑(t.length+1):Int)-1).toNat-0=t.length by omega]
       exact .refl _
      ·exact⟨⟨by decide,_,rfl,.refl _⟩,⟨by decide,_,rfl,Qa (fI _)⟩,⟨by decide,_,rfl,Qa hRf⟩,⟨by decide,_,rfl,.refl _⟩,trivial⟩
      ·rw[←hp1,Zt,if_pos (show k≤0 from ‹_›)]
      ·rw[←hR];simp
      ·exact ZM (fun x hx=>by simp[encG]at hx;rcases hx with rfl|rfl<;>rfl) hj1
     ·have hk0:(0:Int)<k:=‹_›
      have hpz:Zt st=(a,k)::t:=by rw[←hp1,Zt,if_neg (by omega)]
      refine⟨_,.refl _ _ _,_,rfl,?_⟩
      repeat' first|refine And.intro ?_ ?_|(intro h;try simp only[decide_eq_true_eq,decide_eq_false_iff_not,Int.not_lt,Int.not_le,Int.toNat_natCast,↓reduceIte,Nat.reduceAdd,reduceCtorEq,Int.reduceLT,Int.lt_irrefl,gt_iff_lt,not_true_eq_false,not_false_eq_true,Bool.not_true,Bool.not_false,decide_false,decide_true,Int.reduceLE,Int.reduceSub,Bool.false_eq_true,Bool.true_eq_false,Nat.reduceEqDiff,Nat.one_ne_zero,Nat.reduceLT,and_self,and_true,true_and,Int.natCast_zero,Int.cast_ofNat_Int,List.length_nil,ne_eq,Decidable.not_not,hx1,hx2]at h)
      all_goals(try first|exact PlanIs.mk (by kernel_rfl)|omega|exact rfl|exact Nat.le_of_ble_eq_true rfl|(show(_:Nat)≤(_:Nat);simp;done)|(show(_:Nat)≤(_:Nat);simp;omega)|(rw[hx1,hx2];exact rfl)|(rw[hx1,hx2];show(-9223372036854775808:Int)≤k-1;have hk0:(0:Int)<k:=‹_›;omega)|(rw[hx1,hx2];show k-1≤(9223372036854775807:Int);omega)|(show(_:Nat)≤(_:Nat);rw[hx1,hx2];exact Nat.le_of_ble_eq_true rfl))
      ·refine⟨_,wC fs (i+1) ((i,(fs.getD i default).kids)::(a,k-1)::t) (out++[a]) [],Q0 [0,7,10] rfl ?_ ?_,⟨i+1,_,_,⟨by omega,rfl,by simp[ho],by have:=W3 (st:=st) (st':=(i,(fs.getD i default).kids)::(a,k-1)::t) (by omega) hw (by rw[hpz,Zp,if_pos (show(fs.getD i default).kind=0 from ‹_›)];rfl);rw[hpz]at this;exact this,?_,by simp;omega⟩,.inr (.inr ⟨[],QL,rfl⟩)⟩,by omega⟩
       ·exact⟨.refl _,.refl _,.refl _,.refl _,.refl _,.refl _,.refl _,trivial⟩
       ·refine⟨⟨by decide,_,rfl,.refl _⟩,⟨by decide,_,rfl,Q2 ?_ (fI _)⟩,⟨by decide,_,rfl,Q2 ?_ (QA (fG _) QL)⟩,trivial⟩
        ·show List.take i (List.drop 0 (out.map Qr))++[[.int .i64 (asI ((R.getD (0+((↑(t.length+1):Int)-1).toNat) []).getD (0+0) .any))]]=_
         rw[hx1,hx2,←ho];simp[Qr,encG,asI];exact List.take_of_length_le (by simp)
        ·show List.take (t.length+1) (List.drop 0 (R.set (0+((↑(t.length+1):Int)-1).toNat) (QI (R.getD (0+((↑(t.length+1):Int)-1).toNat) []) (0+1) [.int .i64 (asI ((R.getD (0+((↑(t.length+1):Int)-1).toNat) []).getD (0+1) .any)-1)])))++[encG (i,(fs.getD i default).kids)]=_
         rw[hx1,hx2,show QI (encG (a,k)) (0+1) [.int .i64 (asI ((encG (a,k)).getD (0+1) .any)-1)]=encG (a,k-1) from rfl,hset]
         have htk:List.take (t.length+1) (((a,k-1)::t).reverse.map encG++junk1)=((a,k-1)::t).reverse.map encG:=by
          rw[show t.length+1=(((a,k-1)::t).reverse.map encG).length by simp];exact List.take_left
         rw[List.drop_zero,htk]
         simp
       ·intro p hp
        simp at hp
        rcases hp with rfl|rfl|hp
        ·exact hk i
        ·show k-1≤_;omega
        ·exact hb1 p (List.mem_cons_of_mem _ hp)
      ·refine⟨_,wC fs (i+1) ((a,k-1)::t) (out++[a]) junk1,Q0 [0,7,2] rfl ?_ ?_,⟨i+1,_,_,⟨by omega,rfl,by simp[ho],by have:=W3 (st:=st) (st':=(a,k-1)::t) (by omega) hw (by rw[hpz,Zp,if_neg (show ¬(fs.getD i default).kind=0 from ‹_›)];rfl);rw[hpz]at this;exact this,?_,by simp;omega⟩,.inr (.inr ⟨junk1,hj1,rfl⟩)⟩,by omega⟩
       ·exact⟨.refl _,.refl _,.refl _,.refl _,.refl _,.refl _,.refl _,trivial⟩
       ·refine⟨⟨by decide,_,rfl,.refl _⟩,⟨by decide,_,rfl,Q2 ?_ (fI _)⟩,⟨by decide,_,rfl,Q2 ?_ (QA (fG _) hj1)⟩,trivial⟩
        ·show List.take i (List.drop 0 (out.map Qr))++[[.int .i64 (asI ((R.getD (0+((↑(t.length+1):Int)-1).toNat) []).getD (0+0) .any))]]=_
         rw[hx1,hx2,←ho];simp[Qr,encG,asI];exact List.take_of_length_le (by simp)
        ·show R.set (0+((↑(t.length+1):Int)-1).toNat) (QI (R.getD (0+((↑(t.length+1):Int)-1).toNat) []) (0+1) [.int .i64 (asI ((R.getD (0+((↑(t.length+1):Int)-1).toNat) []).getD (0+1) .any)-1)])=_
         rw[hx1,hx2,show QI (encG (a,k)) (0+1) [.int .i64 (asI ((encG (a,k)).getD (0+1) .any)-1)]=encG (a,k-1) from rfl,hset]
       ·intro p hp
        simp at hp
        rcases hp with rfl|hp
        ·show k-1≤_;omega
        ·exact hb1 p (List.mem_cons_of_mem _ hp)
   ·refine⟨fun n s=>∃(j:Nat) (b:Bool),(j≤st.length∧n=st.length-j)∧s=⟨[(4,.bool b),(74,wL st),(75,.int .i64 st.length),(76,.int .i64 j)],[(0,some (.cells [[wO i]] false)),(1,some (.cells (out.map Qr) false)),(2,some (.cells (st.reverse.map encG++junk) false))],3⟩,⟨_,_,HX [4,74,75,76],0,false,⟨by omega,rfl⟩,rfl⟩,?_⟩
    rintro n s ⟨j,b,⟨hj0,rfl⟩,rfl⟩
    generalize hR:st.reverse.map encG++junk=R
    have hRl:st.length≤R.length:=by rw[←hR];simp
    have hRf:Qp R:=hR▸QA (fG _) hj
    have hx2:(j:Int)<st.length→ ∃q,R.getD j []=encG q:=fun h=>by
     have h':j<(st.reverse.map encG).length:=by simp;omega
     refine⟨st.reverse.getD j default,?_⟩
     rw[←hR,List.getD_eq_getElem?_getD,List.getElem?_append_left h',←List.getD_eq_getElem?_getD]
     exact Xx encG default (by simp;omega)
    repeat' first|refine And.intro ?_ ?_|(intro h;try simp only[decide_eq_true_eq,decide_eq_false_iff_not,Int.not_lt,Int.not_le,Int.toNat_natCast,↓reduceIte,Nat.reduceAdd,reduceCtorEq,Int.reduceLT,Int.lt_irrefl,gt_iff_lt,not_true_eq_false,not_false_eq_true,Bool.not_true,Bool.not_false,decide_false,decide_true,Int.reduceLE,Int.reduceSub,Bool.false_eq_true,Bool.true_eq_false,Nat.reduceEqDiff,Nat.one_ne_zero,Nat.reduceLT,and_self,and_true,true_and,Int.natCast_zero,Int.cast_ofNat_Int,List.length_nil,ne_eq,Decidable.not_not]at h)
    all_goals(try first|exact PlanIs.mk (by kernel_rfl)|omega|(show(_:Int)*((32:Nat):Int)≤_;omega)|(show(_:Int)*((8:Nat):Int)≤_;omega)|(show(_:Int)*((24:Nat):Int)≤_;omega)|exact rfl|exact Nat.le_of_ble_eq_true rfl|(show(_:Nat)≤(_:Nat);simp;done)|(show(_:Nat)≤(_:Nat);simp;omega))
    ·rename_i h
     obtain⟨q,hq⟩:=hx2 h
     rw[show 0+(j:Int).toNat=j by simp,hq]
     rfl
    ·refine⟨_,⟨[(4,.bool true),(74,wL st),(75,.int .i64 st.length),(76,.int .i64 ((j+1:Nat):Int))],[(0,some (.cells [[wO i]] false)),(1,some (.cells (out.map Qr) false)),(2,some (.cells R false))],3⟩,Q0 [0,1,2] rfl ⟨.refl _,.refl _,.refl _,.refl _,trivial⟩ ⟨⟨by decide,_,rfl,.refl _⟩,⟨by decide,_,rfl,Qa (fI _)⟩,⟨by decide,_,rfl,Qa hRf⟩,trivial⟩,⟨j+1,_,⟨by omega,rfl⟩,rfl⟩,by omega⟩
    ·refine⟨_,⟨[(4,.bool _),(74,wL st),(75,.int .i64 st.length),(76,.int .i64 ((j+1:Nat):Int))],[(0,some (.cells [[wO i]] false)),(1,some (.cells (out.map Qr) false)),(2,some (.cells R false))],3⟩,Q0 [0,1,2] rfl ⟨.refl _,.refl _,.refl _,.refl _,trivial⟩ ⟨⟨by decide,_,rfl,.refl _⟩,⟨by decide,_,rfl,Qa (fI _)⟩,⟨by decide,_,rfl,Qa hRf⟩,trivial⟩,⟨j+1,_,⟨by omega,rfl⟩,rfl⟩,by omega⟩
    ·refine⟨_,.refl _ _ _,_,rfl,?_⟩
     repeat' first|refine And.intro ?_ ?_|(intro h;try simp only[decide_eq_true_eq,decide_eq_false_iff_not,Int.not_lt,Int.not_le,Int.toNat_natCast,↓reduceIte,Nat.reduceAdd,reduceCtorEq,Int.reduceLT,Int.lt_irrefl,gt_iff_lt,not_true_eq_false,not_false_eq_true,Bool.not_true,Bool.not_false,decide_false,decide_true,Int.reduceLE,Int.reduceSub,Bool.false_eq_true,Bool.true_eq_false,Nat.reduceEqDiff,Nat.one_ne_zero,Nat.reduceLT,and_self,and_true,true_and,Int.natCast_zero,Int.cast_ofNat_Int,List.length_nil,ne_eq,Decidable.not_not]at h)
     all_goals(try first|exact PlanIs.mk (by kernel_rfl)|omega|(show(_:Int)*((32:Nat):Int)≤_;omega)|(show(_:Int)*((8:Nat):Int)≤_;omega)|(show(_:Int)*((24:Nat):Int)≤_;omega)|exact rfl|exact Nat.le_of_ble_eq_true rfl|(show(_:Nat)≤(_:Nat);simp;done)|(show(_:Nat)≤(_:Nat);simp;omega))
     ·exact aI _ _ _
     ·refine⟨_,.refl _ _ _,_,rfl,?_⟩
      refine⟨_,VQ (k:=2) 1 Qr 0 rfl,_,rfl,?_,rfl⟩
      have h0:fs=[]:=List.eq_nil_of_length_eq_zero (by omega)
      subst h0
      rfl
     ·refine⟨_,.refl _ _ _,_,rfl,?_⟩
      refine⟨_,YS (enc:=Qr) (k:=2) 0 (l:=out) rfl rfl (QA QL (G2 (fI _))) ?_ ?_,_,rfl,?_,rfl⟩
      ·show List.take (0+i) ([]++List.take i (List.drop 0 (out.map Qr)))=_
       rw[←ho,List.nil_append,List.drop_zero,Nat.zero_add,List.take_take,Nat.min_self]
       exact List.take_of_length_le (Nat.le_of_eq (List.length_map ..))
      ·show 0+i≤([]++List.take i (List.drop 0 (out.map Qr))).length
       simp
       omega
      ·rw[List.drop_of_length_le (by omega)]at hw
       simp[Xa]at hw
       exact congrArg vI hw
end
section
set_option maxRecDepth 100000
set_option maxHeartbeats 4000000
theorem Cv{st:Stk}{p:Int×Int}(h:p∈Zt st):p∈st:=by
 induction st with
 |nil=>simp[Zt]at h
 |cons q t ih=>
  obtain⟨a,k⟩:=q
  rw[Zt]at h
  split at h
  ·exact List.mem_cons_of_mem _ (ih h)
  ·exact h
theorem Hx:∀(fs:List Fd) (i:Nat) (st:Stk),(∀p∈st,0≤p.1∧p.1<i)→ ∀j,j<fs.length→ -1≤((Xa fs i st).map (·.1)).getD j 0∧((Xa fs i st).map (·.1)).getD j 0<i+j
 |[],_,_,_,j,h=>by simp at h
 |f::fs,i,st,hst,j,h=>by
  cases j with
  |zero=>
   show -1≤U5 (Zt st)∧U5 (Zt st)<_
   cases hp:Zt st with
   |nil=>simp only[U5];omega
   |cons q t=>
    have:=hst q (Cv (by rw[hp];exact List.mem_cons_self ..))
    simp only[U5];omega
  |succ j=>
   have:=Hx fs (i+1) (Zp i f (XN (Zt st))) (fun p hp=>?_) j (by simpa using h)
   ·simp only[Xa,List.map_cons,List.getD_cons_succ]
    omega
   ·have hd:p∈XN (Zt st)→0≤p.1∧p.1<((i+1:Nat):Int):=by
     intro hp
     cases hq:Zt st with
     |nil=>rw[hq]at hp;simp[XN]at hp
     |cons q t=>
      rw[hq]at hp
      have hall:∀r∈q::t,0≤r.1∧r.1<(i:Int):=fun r hr=>hst r (Cv (by rw[hq];exact hr))
      simp only[XN,List.mem_cons]at hp
      rcases hp with rfl|hp
      ·have:=hall q (List.mem_cons_self ..);exact⟨this.1,by have:=this.2;show q.1<_;omega⟩
      ·have:=hall p (List.mem_cons_of_mem _ hp);exact⟨this.1,by omega⟩
    unfold Zp at hp
    split at hp
    ·rcases List.mem_cons.1 hp with rfl|hp
     ·exact⟨by show(0:Int)≤(i:Int);omega,by show(i:Int)<_;omega⟩
     ·exact hd hp
    ·exact hd hp
theorem XR(fs:List Fd):(Qi fs).length=fs.length:=by simp[Qi,Yp]
theorem EQ(fs:List Fd)(j:Nat)(h:j<fs.length):-1≤(Qi fs).getD j 0∧(Qi fs).getD j 0<j:=by
 have:=Hx fs 0 [] (by simp) j h
 simp only[Qi]
 omega
structure FsOk(fs:List Fd):Prop where
 len:fs.length<1000
 kids:∀i,(fs.getD i default).kids≤9223372036854775807
 name:∀i,(fs.getD i default).name.length≤1000
def S_par:SpecI:=fun args K=>∃fs,args=[vF fs]∧FsOk fs∧K (vI (Qi fs))
theorem NM[Syms]:Zs Try.prog 73 S_par:=by
 rintro args K ⟨fs,rfl,h,hk⟩
 exact⟨rfl,_,rfl,hk,fnI Qf Qg Q3 (Xn (XY Qf Qg Q3 (Xn (XY Qf Qg Q3 Q9 Qw) Q9) Qw) (Xn (XY Qf Qg Q3 Q9 Qw) Q9)) Qw (Lj fs h.len h.kids)⟩
end
section
set_option maxRecDepth 100000
set_option maxHeartbeats 4000000
def Uj(fs:List Fd):Nat→List Int→List Int
 |k+1,a::b::t=>if 0<(fs.getD a.toNat default).kids then Uj fs k (b::t)else a::b::t
 |_,op=>op
def XM(fs:List Fd)(a:Nat):List Fd:=fs.set a {fs.getD a default with kids:=(fs.getD a default).kids+1}
def Yg(op:List Int)(x:Int):Int:=if 4<op.length∧(wi x 8).tmod 5=0 then 2 else(wi x 8).tmod 5
def nmM(i:Nat):List UInt8:=[UInt8.ofNat (97+i)]
def H9(op:List Int)(i:Nat)(x:Int):Fd:=⟨nmM i,wi (wr .i64 (x.tdiv 8)) 3,Yg op x,0⟩
def Xg(op:List Int):Int:=op.headD 0
def Yb(fs:List Fd)(op:List Int)(i:Nat)(x:Int):List Fd×List Int:=
 let o:=Uj fs (wi (wr .i64 (x.tdiv 64)) 3).toNat op
 let f:=H9 o i x
 (XM fs (Xg o).toNat++[f],if f.kind=0 then(fs.length:Int)::o else o)
def Yd(ns:List Int):Nat→Nat→List Fd→List Int→List Fd×List Int
 |0,_,fs,op=>(fs,op)
 |n+1,i,fs,op=>if i<ns.length∧i<12 then let r:=Yb fs op i (ns.getD i 0);Yd ns n (i+1) r.1 r.2 else(fs,op)
def YO(fs:List Fd)(op:List Int):List Fd:=
 if(fs.getD (Xg op).toNat default).kids=0 then XM fs (Xg op).toNat++[⟨[122],0,4,0⟩]else fs
def QN(ns:List Int):List Fd:=let r:=Yd ns 12 0 [⟨[109],0,0,0⟩] [0];YO r.1 r.2
abbrev fs0:List Fd:=[⟨[109],0,0,0⟩]
theorem UZ:∀i,i<12→X8 [[.int .u8 (wr .u8 (97+(i:Nat)))]]=nmM i:=by decide
theorem Qe(fs:List Fd)(a:Nat):(XM fs a).length=fs.length:=by simp[XM]
theorem XE{fs:List Fd}{a:Nat}(h:a<fs.length):(fs.map encF).set a [.str (fs.getD a default).name,.int .i64 (fs.getD a default).rep,.int .i64 (fs.getD a default).kind,.int .i64 ((fs.getD a default).kids+1)]=(XM fs a).map encF:=by simp[XM,encF,List.map_set]
theorem Lx{fs:List Fd}{a:Nat}{i:Nat}(h:∀f∈fs,0≤f.kids∧f.kids≤i)(ha:a<fs.length):∀f∈XM fs a,0≤f.kids∧f.kids≤(i+1:Nat):=by
 intro f hf
 rcases List.mem_or_eq_of_mem_set hf with hf|rfl
 ·have:=h f hf;omega
 ·have:=h (fs.getD a default) (by simp[List.getD_eq_getElem?_getD,ha])
  simp only;omega
theorem Yh{ns:List Int}{i:Nat}{fs:List Fd}{op:List Int}{k0:Nat}{a:Int}{t:List Int}(hrun:Yd ns (12-i) i fs op=Yd ns 12 0 fs0 [0])(hlen:fs.length=i+1)
 (hkid:∀f∈fs,0≤f.kids∧f.kids≤i) (hin:(i:Int)<ns.length) (h12:(i:Int)<12) (hk0:wi (wr .i64 ((ns.getD i 0).tdiv 64)) 3=(k0:Int)) (hp:Uj fs k0 op=a::t)
 (hop1:∀p∈a::t,0≤p∧p<fs.length) (hol2:t.length+1≤i+1) (kd:Int) (hkd:Yg (a::t) (ns.getD i 0)=kd) (op':List Int) (hop':op'=if kd=0 then(fs.length:Int)::a::t else a::t)
 (fs':List Fd) (hfs':fs'=XM fs a.toNat++[⟨nmM i,wi (wr .i64 ((ns.getD i 0).tdiv 8)) 3,kd,0⟩]):
 Yd ns (12-(i+1)) (i+1) fs' op'=Yd ns 12 0 fs0 [0]∧fs'.length=i+1+1∧op'≠[]∧(∀p∈op',0≤p∧p<fs'.length)∧(∀f∈fs',0≤f.kids∧f.kids≤(i+1:Nat))∧op'.length≤i+1+1:=by
 have ha:=hop1 a (List.mem_cons_self ..)
 have hl':fs'.length=i+1+1:=by rw[hfs'];simp[Qe,hlen]
 refine⟨?_,hl',?_,?_,?_,?_⟩
 ·rw[←hrun,show 12-i=12-(i+1)+1 by omega,Yd,if_pos (by omega)]
  simp only[Yb,hk0,Int.toNat_natCast,hp,Xg,List.headD_cons,H9,hkd,←hfs',←hop']
 ·rw[hop'];split<;>simp
 ·intro p hp'
  rw[hl']
  have:p=(fs.length:Int)∨p∈a::t:=by
   rw[hop']at hp'
   split at hp'
   ·exact List.mem_cons.1 hp'
   ·exact .inr hp'
  rcases this with rfl|h
  ·omega
  ·have:=hop1 p h;omega
 ·intro f hf
  rw[hfs']at hf
  rcases List.mem_append.1 hf with hf|hf
  ·exact Lx hkid (by omega) f hf
  ·simp only[List.mem_singleton]at hf;subst hf;simp only;omega
 ·rw[hop'];split<;>simp only[List.length_cons]<;>omega
theorem UJ{ns:List Int}{n i:Nat}{fs:List Fd}{op:List Int}(h:¬(i<ns.length∧i<12)):Yd ns n i fs op=(fs,op):=by
 cases n with
 |zero=>rfl
 |succ n=>simp only[Yd,h,if_false]
end
section
set_option maxRecDepth 100000
set_option maxHeartbeats 4000000
def G_within:List AVal→(AVal→Prop)→Prop:=fun args K=>∃a n,args=[.int .i64 a,.int .i64 n]∧(0<n∧n≤4611686018427387904)∧K (.int .i64 (wi a n))
theorem D9[Syms]:En Try.prog 47 G_within:=by
 rintro args K ⟨a,n,rfl,⟨h1,h2⟩,hk⟩
 refine⟨Mi,_,hk,fun ι w vs hv=>?_⟩
 obtain⟨v0,vs0,rfl,hv0,hv⟩:=hv.uncons
 obtain⟨v1,vs1,rfl,hv1,hv⟩:=hv.uncons
 obtain rfl:=hv.unnil
 obtain rfl:=hv0.of_int
 obtain rfl:=hv1.of_int
 refine(KE a n h1 h2 w).mono ?_
 rintro e w' ⟨rfl,rfl⟩
 exact⟨_,rfl,.int _ _,rfl⟩
abbrev cWi:CallT:=Q6 47 (B8 G_within) Q7
theorem RY[Syms]:cWi.det Try.prog:=VA D9 Q3
theorem TI[Syms]:cWi.ok Try.prog:=VS D9 Q9
theorem Qd(k:IntKind)(n:Int):asI (.int k n)=n:=rfl
theorem Qn(a:Int):(Qr a).getD 0 .any= .int .i64 a:=rfl
theorem QT(f:Fd):(encF f).getD 3 .any= .int .i64 f.kids:=rfl
theorem QC(f:Fd):(encF f).getD (0+3) .any= .int .i64 f.kids:=rfl
theorem QV(f:Fd):(encF f).length=4:=rfl
theorem Le{fs:List Fd}{n:Nat}{a:Int}{t:List Int}(h:n=0∨t=[]∨ ¬0<(fs.getD a.toNat default).kids):Uj fs n (a::t)=a::t:=by
 cases n with
 |zero=>rfl
 |succ n=>cases t with
  |nil=>rfl
  |cons b t2=>rcases h with h|h|h
              ·exact absurd h (by omega)
              ·exact absurd h (by simp)
              ·simp only[Uj,h,if_false]
theorem Qm{k:IntKind}{a b:Int}(h:a=b):WkV (.int k a) (.int k b):=h▸ .refl _
theorem Q8{n off l l' sz:Nat}{c:Option Nat}(h:l=l'):WkV (.slice n off l sz c) (.slice n off l' sz none):=h▸ .cap _ _ _ _ _
def pSt(ns:List Int)(i:Nat)(fs:List Fd)(m:Nat)(R:List (List AVal))(k:Nat):St:=
 ⟨[(0,vI ns),(3,.slice 0 0 fs.length 4 none),(4,.slice 1 0 m 1 none),(5,.int .i64 i),(6,.int .i64 k)],[(0,some (.cells (fs.map encF) false)),(1,some (.cells R false))],2⟩
def mSt(ns:List Int)(i:Nat)(fs:List Fd)(m:Nat)(R:List (List AVal)):St:=
 ⟨[(0,vI ns),(3,.slice 0 0 fs.length 4 none),(4,.slice 1 0 m 1 none),(5,.int .i64 i)],[(0,some (.cells (fs.map encF) false)),(1,some (.cells R false))],2⟩
theorem Tj[Syms](ns:List Int)(hn:ns.length≤9223372036854775807):
 fnT cWi cWi (Qx fns) (Qo tys) (Qz plt) 100 20 [vI ns] [] 0 (fun v H _=>v=vF (QN ns)∧H=[]):=by
 refine⟨fun n s=>∃(i:Nat) (fs:List Fd) (op:List Int) (m:Nat) (junk R:List (List AVal)),(n=12-i∧i≤12∧Yd ns (12-i) i fs op=Yd ns 12 0 [⟨[109],0,0,0⟩] [0]∧fs.length=i+1∧m=op.length∧op≠[]∧(∀p∈op,0≤p∧p<fs.length)∧(∀f∈fs,0≤f.kids∧f.kids≤i)∧op.length≤i+1∧R=op.reverse.map Qr++junk∧Qp junk)∧s=mSt ns i fs m R,
  ⟨_,mSt ns 0 [⟨[109],0,0,0⟩] 1 [[.int .i64 0]],Q0 [0,1] rfl ?_ ?_,0,_,[0],_,[],_,⟨rfl,by omega,rfl,rfl,rfl,by simp,by simp,by simp,by simp,rfl,QL⟩,rfl⟩,?_⟩
 ·exact⟨.refl _,.cap _ _ _ _ _,.cap _ _ _ _ _,.refl _,trivial⟩
 ·exact⟨⟨by decide,_,rfl,Q2 rfl (fF [⟨[109],0,0,0⟩])⟩,⟨by decide,_,rfl,.refl _⟩,trivial⟩
 rintro n s ⟨i,fs,op,m,junk,R,⟨rfl,hi,hrun,hlen,rfl,hne,hop,hkid,hol0,hR,hj⟩,rfl⟩
 have hop0:0≤Xg op∧Xg op<fs.length:=by
  cases op with
  |nil=>exact absurd rfl hne
  |cons a t=>exact hop a (List.mem_cons_self ..)
 have hx1:(0:Nat)+0=0:=rfl
 have hx2:R.getD (0+((↑op.length:Int)-1).toNat) []=Qr (Xg op):=by
  obtain⟨a,t,rfl⟩:∃a t,op=a::t:=by cases op with|nil=>exact absurd rfl hne|cons a t=>exact⟨a,t,rfl⟩
  rw[show 0+((↑(a::t).length:Int)-1).toNat=t.length by rw[List.length_cons];omega,hR];simp[List.getElem?_append,List.getElem?_map,Xg]
 have hx3:(fs.map encF).getD (0+(Xg op).toNat) []=encF (fs.getD (Xg op).toNat default):=by rw[Nat.zero_add];exact Xx encF default (by omega)
 have hRl:R.length=op.length+junk.length:=by rw[hR];simp
 have hkb:0≤(fs.getD (Xg op).toNat default).kids∧(fs.getD (Xg op).toNat default).kids≤i:=by
  have hlt:(Xg op).toNat<fs.length:=by omega
  have:fs.getD (Xg op).toNat default=fs[(Xg op).toNat]:=by simp[List.getD_eq_getElem?_getD,hlt]
  rw[this];exact hkid _ (List.getElem_mem hlt)
 have hol1:0<op.length:=List.length_pos_iff.2 hne
 repeat' first|refine And.intro ?_ ?_|(intro h;try simp only[decide_eq_true_eq,decide_eq_false_iff_not,Int.not_lt,Int.not_le,Int.toNat_natCast,↓reduceIte,Nat.reduceAdd,reduceCtorEq,Int.reduceLT,Int.lt_irrefl,gt_iff_lt,not_true_eq_false,not_false_eq_true,Bool.not_true,Bool.not_false,decide_false,decide_true,Int.reduceLE,Int.reduceSub,Bool.false_eq_true,Bool.true_eq_false,Nat.reduceEqDiff,Nat.one_ne_zero,Nat.reduceLT,and_self,and_true,true_and,Int.natCast_zero,Int.cast_ofNat_Int,List.length_nil,ne_eq,Decidable.not_not,hx1,hx2,hx3,Qd,Qn,QT,QC]at h)
 all_goals(try first|exact PlanIs.mk (by kernel_rfl)|omega|exact rfl|exact Nat.le_of_ble_eq_true rfl|(show(_:Int)≤(_:Int);simp only[hx1,hx2,hx3,Qd,Qn,QT,QC,QV,List.length_set,List.length_map,hRl];omega)|(show(_:Int)<(_:Int);simp only[hx1,hx2,hx3,Qd,Qn,QT,QC,QV,List.length_set,List.length_map,hRl];omega)|(show(_:Nat)≤(_:Nat);simp only[hx1,hx2,hx3,Qd,Qn,QT,QC,QV,List.length_set,List.length_map,hRl];omega)|(show isC _ _ _=true;simp only[hx1,hx2,hx3,Qd,Qn,QT,QC,QV,List.length_set,List.length_map,hRl];exact rfl))
 ·refine⟨_,3,rfl,by omega,?_⟩
  obtain⟨hw1,hw2⟩:=Vt (a:=wr .i64 ((ns.getD i 0).tdiv 64)) (n:=3) (by omega)
  generalize hk0:wi (wr .i64 ((ns.getD i 0).tdiv 64)) 3=k0 at hw1 hw2
  obtain⟨k0,rfl⟩:=Int.eq_ofNat_of_zero_le hw1
  have hfF:Qp (fs.map encF):=fF fs
  have hfR:Qp R:=by rw[hR];exact QA (fI _) hj
  refine⟨fun n s=>∃(kk:Nat) (o:List Int) (j1:List (List AVal)),(n=kk∧kk≤3∧Uj fs kk o=Uj fs k0 op∧R=o.reverse.map Qr++j1∧Qp j1∧o≠[]∧(∀p∈o,0≤p∧p<fs.length)∧o.length≤op.length)∧s=pSt ns i fs o.length R kk,⟨_,pSt ns i fs op.length R k0,Q0 [0,1] rfl ?_ ?_,k0,op,junk,⟨rfl,by omega,rfl,hR,hj,hne,hop,Nat.le_refl _⟩,rfl⟩,?_⟩
  ·exact⟨.refl _,.cap _ _ _ _ _,.cap _ _ _ _ _,.refl _,Qm hk0,trivial⟩
  ·exact⟨⟨by decide,_,rfl,Q2 rfl hfF⟩,⟨by decide,_,rfl,Q2 rfl hfR⟩,trivial⟩
  rintro n s ⟨kk,o,j1,⟨rfl,hk3,hpop,hR1,hj1,ho,hop1,hol⟩,rfl⟩
  obtain⟨a,t,rfl⟩:∃a t,o=a::t:=by cases o with|nil=>exact absurd rfl ho|cons a t=>exact⟨a,t,rfl⟩
  have hol2:t.length+1≤i+1:=by rw[List.length_cons]at hol;omega
  have ha:=hop1 a (List.mem_cons_self ..)
  have hx1:0+((↑(t.length+1):Int)-1).toNat=t.length:=by omega
  have hx2:R.getD t.length []=Qr a:=by rw[hR1];simp[List.getElem?_append,List.getElem?_map]
  have hc1:isC (Sx 1) (.int .i64 0) ((R.getD (0+((↑(t.length+1):Int)-1).toNat) []).getD 0 .any)=true:=by rw[hx1,hx2];exact rfl
  have hx3:(fs.map encF).getD (0+a.toNat) []=encF (fs.getD a.toNat default):=by rw[Nat.zero_add];exact Xx encF default (by omega)
  have hRl:R.length=t.length+1+j1.length:=by rw[hR1];simp;omega
  have hkb:0≤(fs.getD a.toNat default).kids∧(fs.getD a.toNat default).kids≤i:=by
   have hlt:a.toNat<fs.length:=by omega
   have:fs.getD a.toNat default=fs[a.toNat]:=by simp[List.getD_eq_getElem?_getD,hlt]
   rw[this];exact hkid _ (List.getElem_mem hlt)
  rw[List.length_cons]
  repeat' first|refine And.intro ?_ ?_|(intro h;try simp only[decide_eq_true_eq,decide_eq_false_iff_not,Int.not_lt,Int.not_le,Int.toNat_natCast,↓reduceIte,Nat.reduceAdd,reduceCtorEq,Int.reduceLT,Int.lt_irrefl,gt_iff_lt,not_true_eq_false,not_false_eq_true,Bool.not_true,Bool.not_false,decide_false,decide_true,Int.reduceLE,Int.reduceSub,Bool.false_eq_true,Bool.true_eq_false,Nat.reduceEqDiff,Nat.one_ne_zero,Nat.reduceLT,and_self,and_true,true_and,Int.natCast_zero,Int.cast_ofNat_Int,List.length_nil,ne_eq,Decidable.not_not,hx1,hx2,hx3,Qd,Qn,QT,QC]at h)
  all_goals(try first|exact PlanIs.mk (by kernel_rfl)|omega|exact rfl|exact Nat.le_of_ble_eq_true rfl|(show(_:Int)≤(_:Int);simp only[hx1,hx2,hx3,Qd,Qn,QT,QC,QV,List.length_set,List.length_map,hRl];omega)|(show(_:Int)<(_:Int);simp only[hx1,hx2,hx3,Qd,Qn,QT,QC,QV,List.length_set,List.length_map,hRl];omega)|(show(_:Nat)≤(_:Nat);simp only[hx1,hx2,hx3,Qd,Qn,QT,QC,QV,List.length_set,List.length_map,hRl];omega)|(show isC _ _ _=true;simp only[hx1,hx2,hx3,Qd,Qn,QT,QC,QV,List.length_set,List.length_map,hRl];exact rfl))
  ·have h':0<(fs.getD a.toNat default).kids:=by assumption
   obtain⟨b,t2,rfl⟩:∃b t2,t=b::t2:=by
    cases t with
    |nil=>simp only[List.length_nil]at *;omega
    |cons b t2=>exact⟨b,t2,rfl⟩
   have hn0:0<n:=by omega
   refine⟨n-1,pSt ns i fs (b::t2).length R (n-1),Q0 [0,1] rfl ?_ ?_,⟨n-1,b::t2,Qr a::j1,⟨rfl,by omega,?_,?_,ZM (by simp[Qr];rfl) hj1,by simp,fun p hp=>hop1 p (List.mem_cons_of_mem _ hp),by simp only[List.length_cons]at *;omega⟩,rfl⟩,by omega⟩
   ·exact⟨.refl _,.cap _ _ _ _ _,Q8 (by simp only[List.length_cons];omega),.refl _,Qm (by omega),trivial⟩
   ·exact⟨⟨by decide,_,rfl,Q2 rfl hfF⟩,⟨by decide,_,rfl,Q2 rfl hfR⟩,trivial⟩
   ·rw[←hpop]
    obtain⟨n',rfl⟩:∃n',n=n'+1:=⟨n-1,by omega⟩
    simp only[Uj,h',if_true,Nat.add_sub_cancel]
   ·rw[hR1];simp
  all_goals
   have hp:Uj fs k0 op=a::t:=by
    rw[←hpop]
    refine Le ?_
    first
    |exact Or.inr (Or.inr (Int.not_lt.2 (by assumption)))
    |exact Or.inl (by omega)
    |exact Or.inr (Or.inl (List.length_eq_zero_iff.1 (by omega)))
   refine⟨_,3,rfl,by omega,?_⟩
  ·skip
   repeat' first|refine And.intro ?_ ?_|(intro h;try simp only[decide_eq_true_eq,decide_eq_false_iff_not,Int.not_lt,Int.not_le,Int.toNat_natCast,↓reduceIte,Nat.reduceAdd,reduceCtorEq,Int.reduceLT,Int.lt_irrefl,gt_iff_lt,not_true_eq_false,not_false_eq_true,Bool.not_true,Bool.not_false,decide_false,decide_true,Int.reduceLE,Int.reduceSub,Bool.false_eq_true,Bool.true_eq_false,Nat.reduceEqDiff,Nat.one_ne_zero,Nat.reduceLT,and_self,and_true,true_and,Int.natCast_zero,Int.cast_ofNat_Int,List.length_nil,ne_eq,Decidable.not_not,hx1,hx2,hx3,Qd,Qn,QT,QC]at h)
   all_goals(try first|exact PlanIs.mk (by kernel_rfl)|omega|exact rfl|exact Nat.le_of_ble_eq_true rfl|(show(_:Int)≤(_:Int);simp only[hx1,hx2,hx3,Qd,Qn,QT,QC,QV,List.length_set,List.length_map,hRl];omega)|(show(_:Int)<(_:Int);simp only[hx1,hx2,hx3,Qd,Qn,QT,QC,QV,List.length_set,List.length_map,hRl];omega)|(show(_:Nat)≤(_:Nat);simp only[hx1,hx2,hx3,Qd,Qn,QT,QC,QV,List.length_set,List.length_map,hRl];omega)|(show isC _ _ _=true;simp only[hx1,hx2,hx3,Qd,Qn,QT,QC,QV,List.length_set,List.length_map,hRl];exact rfl))
   all_goals refine⟨_,8,rfl,by omega,?_⟩
   repeat' first|refine And.intro ?_ ?_|(intro h;try simp only[decide_eq_true_eq,decide_eq_false_iff_not,Int.not_lt,Int.not_le,Int.toNat_natCast,↓reduceIte,Nat.reduceAdd,reduceCtorEq,Int.reduceLT,Int.lt_irrefl,gt_iff_lt,not_true_eq_false,not_false_eq_true,Bool.not_true,Bool.not_false,decide_false,decide_true,Int.reduceLE,Int.reduceSub,Bool.false_eq_true,Bool.true_eq_false,Nat.reduceEqDiff,Nat.one_ne_zero,Nat.reduceLT,and_self,and_true,true_and,Int.natCast_zero,Int.cast_ofNat_Int,List.length_nil,ne_eq,Decidable.not_not,hx1,hx2,hx3,Qd,Qn,QT,QC]at h)
   all_goals(try first|exact PlanIs.mk (by kernel_rfl)|omega|exact rfl|exact Nat.le_of_ble_eq_true rfl|(show(_:Int)≤(_:Int);simp only[hx1,hx2,hx3,Qd,Qn,QT,QC,QV,List.length_set,List.length_map,hRl];omega)|(show(_:Int)<(_:Int);simp only[hx1,hx2,hx3,Qd,Qn,QT,QC,QV,List.length_set,List.length_map,hRl];omega)|(show(_:Nat)≤(_:Nat);simp only[hx1,hx2,hx3,Qd,Qn,QT,QC,QV,List.length_set,List.length_map,hRl];omega)|(show isC _ _ _=true;simp only[hx1,hx2,hx3,Qd,Qn,QT,QC,QV,List.length_set,List.length_map,hRl];exact rfl))
   ·exact absurd (show(2:Int)=0 from by assumption) (by decide)
   ·have hq:(wi (ns.getD i 0) 8).tmod 5=0:=by assumption
    obtain⟨g1,g2,g3,g4,g5,g6⟩:=Yh hrun hlen hkid (by omega) (by omega) hk0 hp hop1 hol2 2 (by rw[Yg,if_pos ⟨by rw[List.length_cons];omega,hq⟩]) (a::t) (by first|rfl|(rw[if_neg ‹_›])) _ rfl
    refine⟨_,mSt ns (i+1) (XM fs a.toNat++[⟨nmM i,wi (wr .i64 ((ns.getD i 0).tdiv 8)) 3,2,0⟩]) (a::t).length (R),Q0 [2+19*RR+4,1] (by kernel_rfl) ?_ ?_,⟨i+1,_,a::t,_,j1,_,⟨rfl,by omega,g1,g2,rfl,g3,g4,g5,g6,hR1,hj1⟩,rfl⟩,by omega⟩
    ·exact⟨.refl _,Q8 (by rw[g2,hlen]),Q8 rfl,Qm (by omega),trivial⟩
    ·refine⟨⟨by decide,_,rfl,Q2 ?_ (fF _)⟩,⟨by decide,_,rfl,Q2 ?_ hfR⟩,trivial⟩
     ·show List.take fs.length (List.drop 0 ((fs.map encF).set (0+(asI ((R.getD (0+((↑(t.length+1):Int)-1).toNat) []).getD 0 .any)).toNat) (QI ((fs.map encF).getD (0+(asI ((R.getD (0+((↑(t.length+1):Int)-1).toNat) []).getD 0 .any)).toNat) []) (0+3) [.int .i64 (asI (((fs.map encF).getD (0+(asI ((R.getD (0+((↑(t.length+1):Int)-1).toNat) []).getD 0 .any)).toNat) []).getD (0+3) .any)+1)])))++[[.str (X8 [[.int .u8 (wr .u8 (97+(i:Int)))]]),.int .i64 (wi (wr .i64 ((ns.getD i 0).tdiv 8)) 3),.int .i64 (2),.int .i64 0]]=_
      simp only[hx1,hx2,Qn,Qd]
      rw[hx3,UZ i (by omega),show QI (encF (fs.getD a.toNat default)) (0+3) [.int .i64 (asI ((encF (fs.getD a.toNat default)).getD (0+3) .any)+1)]=[.str (fs.getD a.toNat default).name,.int .i64 (fs.getD a.toNat default).rep,.int .i64 (fs.getD a.toNat default).kind,.int .i64 ((fs.getD a.toNat default).kids+1)] from rfl,Nat.zero_add,XE (by omega),List.drop_zero,List.take_of_length_le (by simp[Qe])]
      simp[encF]
     ·rfl
   ·have hq:¬(wi (ns.getD i 0) 8).tmod 5=0:=by assumption
    obtain⟨g1,g2,g3,g4,g5,g6⟩:=Yh hrun hlen hkid (by omega) (by omega) hk0 hp hop1 hol2 ((wi (ns.getD i 0) 8).tmod 5) (by rw[Yg,if_neg (fun h=>hq h.2)]) (a::t) (by rw[if_neg hq]) _ rfl
    refine⟨_,mSt ns (i+1) (XM fs a.toNat++[⟨nmM i,wi (wr .i64 ((ns.getD i 0).tdiv 8)) 3,(wi (ns.getD i 0) 8).tmod 5,0⟩]) (a::t).length (R),Q0 [2+19*RR+3,1] (by kernel_rfl) ?_ ?_,⟨i+1,_,a::t,_,j1,_,⟨rfl,by omega,g1,g2,rfl,g3,g4,g5,g6,hR1,hj1⟩,rfl⟩,by omega⟩
    ·exact⟨.refl _,Q8 (by rw[g2,hlen]),Q8 rfl,Qm (by omega),trivial⟩
    ·refine⟨⟨by decide,_,rfl,Q2 ?_ (fF _)⟩,⟨by decide,_,rfl,Q2 ?_ hfR⟩,trivial⟩
     ·show List.take fs.length (List.drop 0 ((fs.map encF).set (0+(asI ((R.getD (0+((↑(t.length+1):Int)-1).toNat) []).getD 0 .any)).toNat) (QI ((fs.map encF).getD (0+(asI ((R.getD (0+((↑(t.length+1):Int)-1).toNat) []).getD 0 .any)).toNat) []) (0+3) [.int .i64 (asI (((fs.map encF).getD (0+(asI ((R.getD (0+((↑(t.length+1):Int)-1).toNat) []).getD 0 .any)).toNat) []).getD (0+3) .any)+1)])))++[[.str (X8 [[.int .u8 (wr .u8 (97+(i:Int)))]]),.int .i64 (wi (wr .i64 ((ns.getD i 0).tdiv 8)) 3),.int .i64 ((wi (ns.getD i 0) 8).tmod 5),.int .i64 0]]=_
      simp only[hx1,hx2,Qn,Qd]
      rw[hx3,UZ i (by omega),show QI (encF (fs.getD a.toNat default)) (0+3) [.int .i64 (asI ((encF (fs.getD a.toNat default)).getD (0+3) .any)+1)]=[.str (fs.getD a.toNat default).name,.int .i64 (fs.getD a.toNat default).rep,.int .i64 (fs.getD a.toNat default).kind,.int .i64 ((fs.getD a.toNat default).kids+1)] from rfl,Nat.zero_add,XE (by omega),List.drop_zero,List.take_of_length_le (by simp[Qe])]
      simp[encF]
     ·rfl
   ·have hq:(wi (ns.getD i 0) 8).tmod 5=0:=by assumption
    obtain⟨g1,g2,g3,g4,g5,g6⟩:=Yh hrun hlen hkid (by omega) (by omega) hk0 hp hop1 hol2 ((wi (ns.getD i 0) 8).tmod 5) (by rw[Yg,if_neg (fun h=>by simp only[List.length_cons]at h;omega)]) ((fs.length:Int)::a::t) (by rw[if_pos hq]) _ rfl
    refine⟨_,mSt ns (i+1) (XM fs a.toNat++[⟨nmM i,wi (wr .i64 ((ns.getD i 0).tdiv 8)) 3,(wi (ns.getD i 0) 8).tmod 5,0⟩]) ((fs.length:Int)::a::t).length (((fs.length:Int)::a::t).reverse.map Qr),Q0 [2+19*RR+3,2+19*RR+5] (by kernel_rfl) ?_ ?_,⟨i+1,_,(fs.length:Int)::a::t,_,[],_,⟨rfl,by omega,g1,g2,rfl,g3,g4,g5,g6,by simp,QL⟩,rfl⟩,by omega⟩
    ·exact⟨.refl _,Q8 (by rw[g2,hlen]),Q8 rfl,Qm (by omega),trivial⟩
    ·refine⟨⟨by decide,_,rfl,Q2 ?_ (fF _)⟩,⟨by decide,_,rfl,Q2 ?_ (fI _)⟩,trivial⟩
     ·show List.take fs.length (List.drop 0 ((fs.map encF).set (0+(asI ((R.getD (0+((↑(t.length+1):Int)-1).toNat) []).getD 0 .any)).toNat) (QI ((fs.map encF).getD (0+(asI ((R.getD (0+((↑(t.length+1):Int)-1).toNat) []).getD 0 .any)).toNat) []) (0+3) [.int .i64 (asI (((fs.map encF).getD (0+(asI ((R.getD (0+((↑(t.length+1):Int)-1).toNat) []).getD 0 .any)).toNat) []).getD (0+3) .any)+1)])))++[[.str (X8 [[.int .u8 (wr .u8 (97+(i:Int)))]]),.int .i64 (wi (wr .i64 ((ns.getD i 0).tdiv 8)) 3),.int .i64 ((wi (ns.getD i 0) 8).tmod 5),.int .i64 0]]=_
      simp only[hx1,hx2,Qn,Qd]
      rw[hx3,UZ i (by omega),show QI (encF (fs.getD a.toNat default)) (0+3) [.int .i64 (asI ((encF (fs.getD a.toNat default)).getD (0+3) .any)+1)]=[.str (fs.getD a.toNat default).name,.int .i64 (fs.getD a.toNat default).rep,.int .i64 (fs.getD a.toNat default).kind,.int .i64 ((fs.getD a.toNat default).kids+1)] from rfl,Nat.zero_add,XE (by omega),List.drop_zero,List.take_of_length_le (by simp[Qe])]
      simp[encF]
     ·show List.take (t.length+1) (List.drop 0 R)++[[.int .i64 (↑(fs.length+1)-1)]]=_
      rw[hR1,List.drop_zero,show t.length+1=((a::t).reverse.map Qr).length by simp,List.take_left]
      simp[Qr]
   ·have hq:¬(wi (ns.getD i 0) 8).tmod 5=0:=by assumption
    obtain⟨g1,g2,g3,g4,g5,g6⟩:=Yh hrun hlen hkid (by omega) (by omega) hk0 hp hop1 hol2 ((wi (ns.getD i 0) 8).tmod 5) (by rw[Yg,if_neg (fun h=>hq h.2)]) (a::t) (by rw[if_neg hq]) _ rfl
    refine⟨_,mSt ns (i+1) (XM fs a.toNat++[⟨nmM i,wi (wr .i64 ((ns.getD i 0).tdiv 8)) 3,(wi (ns.getD i 0) 8).tmod 5,0⟩]) (a::t).length (R),Q0 [2+19*RR+3,1] (by kernel_rfl) ?_ ?_,⟨i+1,_,a::t,_,j1,_,⟨rfl,by omega,g1,g2,rfl,g3,g4,g5,g6,hR1,hj1⟩,rfl⟩,by omega⟩
    ·exact⟨.refl _,Q8 (by rw[g2,hlen]),Q8 rfl,Qm (by omega),trivial⟩
    ·refine⟨⟨by decide,_,rfl,Q2 ?_ (fF _)⟩,⟨by decide,_,rfl,Q2 ?_ hfR⟩,trivial⟩
     ·show List.take fs.length (List.drop 0 ((fs.map encF).set (0+(asI ((R.getD (0+((↑(t.length+1):Int)-1).toNat) []).getD 0 .any)).toNat) (QI ((fs.map encF).getD (0+(asI ((R.getD (0+((↑(t.length+1):Int)-1).toNat) []).getD 0 .any)).toNat) []) (0+3) [.int .i64 (asI (((fs.map encF).getD (0+(asI ((R.getD (0+((↑(t.length+1):Int)-1).toNat) []).getD 0 .any)).toNat) []).getD (0+3) .any)+1)])))++[[.str (X8 [[.int .u8 (wr .u8 (97+(i:Int)))]]),.int .i64 (wi (wr .i64 ((ns.getD i 0).tdiv 8)) 3),.int .i64 ((wi (ns.getD i 0) 8).tmod 5),.int .i64 0]]=_
      simp only[hx1,hx2,Qn,Qd]
      rw[hx3,UZ i (by omega),show QI (encF (fs.getD a.toNat default)) (0+3) [.int .i64 (asI ((encF (fs.getD a.toNat default)).getD (0+3) .any)+1)]=[.str (fs.getD a.toNat default).name,.int .i64 (fs.getD a.toNat default).rep,.int .i64 (fs.getD a.toNat default).kind,.int .i64 ((fs.getD a.toNat default).kids+1)] from rfl,Nat.zero_add,XE (by omega),List.drop_zero,List.take_of_length_le (by simp[Qe])]
      simp[encF]
     ·rfl
  ·skip
   repeat' first|refine And.intro ?_ ?_|(intro h;try simp only[decide_eq_true_eq,decide_eq_false_iff_not,Int.not_lt,Int.not_le,Int.toNat_natCast,↓reduceIte,Nat.reduceAdd,reduceCtorEq,Int.reduceLT,Int.lt_irrefl,gt_iff_lt,not_true_eq_false,not_false_eq_true,Bool.not_true,Bool.not_false,decide_false,decide_true,Int.reduceLE,Int.reduceSub,Bool.false_eq_true,Bool.true_eq_false,Nat.reduceEqDiff,Nat.one_ne_zero,Nat.reduceLT,and_self,and_true,true_and,Int.natCast_zero,Int.cast_ofNat_Int,List.length_nil,ne_eq,Decidable.not_not,hx1,hx2,hx3,Qd,Qn,QT,QC]at h)
   all_goals(try first|exact PlanIs.mk (by kernel_rfl)|omega|exact rfl|exact Nat.le_of_ble_eq_true rfl|(show(_:Int)≤(_:Int);simp only[hx1,hx2,hx3,Qd,Qn,QT,QC,QV,List.length_set,List.length_map,hRl];omega)|(show(_:Int)<(_:Int);simp only[hx1,hx2,hx3,Qd,Qn,QT,QC,QV,List.length_set,List.length_map,hRl];omega)|(show(_:Nat)≤(_:Nat);simp only[hx1,hx2,hx3,Qd,Qn,QT,QC,QV,List.length_set,List.length_map,hRl];omega)|(show isC _ _ _=true;simp only[hx1,hx2,hx3,Qd,Qn,QT,QC,QV,List.length_set,List.length_map,hRl];exact rfl))
   all_goals refine⟨_,8,rfl,by omega,?_⟩
   repeat' first|refine And.intro ?_ ?_|(intro h;try simp only[decide_eq_true_eq,decide_eq_false_iff_not,Int.not_lt,Int.not_le,Int.toNat_natCast,↓reduceIte,Nat.reduceAdd,reduceCtorEq,Int.reduceLT,Int.lt_irrefl,gt_iff_lt,not_true_eq_false,not_false_eq_true,Bool.not_true,Bool.not_false,decide_false,decide_true,Int.reduceLE,Int.reduceSub,Bool.false_eq_true,Bool.true_eq_false,Nat.reduceEqDiff,Nat.one_ne_zero,Nat.reduceLT,and_self,and_true,true_and,Int.natCast_zero,Int.cast_ofNat_Int,List.length_nil,ne_eq,Decidable.not_not,hx1,hx2,hx3,Qd,Qn,QT,QC]at h)
   all_goals(try first|exact PlanIs.mk (by kernel_rfl)|omega|exact rfl|exact Nat.le_of_ble_eq_true rfl|(show(_:Int)≤(_:Int);simp only[hx1,hx2,hx3,Qd,Qn,QT,QC,QV,List.length_set,List.length_map,hRl];omega)|(show(_:Int)<(_:Int);simp only[hx1,hx2,hx3,Qd,Qn,QT,QC,QV,List.length_set,List.length_map,hRl];omega)|(show(_:Nat)≤(_:Nat);simp only[hx1,hx2,hx3,Qd,Qn,QT,QC,QV,List.length_set,List.length_map,hRl];omega)|(show isC _ _ _=true;simp only[hx1,hx2,hx3,Qd,Qn,QT,QC,QV,List.length_set,List.length_map,hRl];exact rfl))
   ·have hq:(wi (ns.getD i 0) 8).tmod 5=0:=by first|assumption|exact of_decide_eq_true (by assumption)
    obtain⟨g1,g2,g3,g4,g5,g6⟩:=Yh hrun hlen hkid (by omega) (by omega) hk0 hp hop1 hol2 ((wi (ns.getD i 0) 8).tmod 5) (by rw[Yg,if_neg (fun h=>by simp only[List.length_cons]at h;omega)]) ((fs.length:Int)::a::t) (by rw[if_pos hq]) _ rfl
    refine⟨_,mSt ns (i+1) (XM fs a.toNat++[⟨nmM i,wi (wr .i64 ((ns.getD i 0).tdiv 8)) 3,(wi (ns.getD i 0) 8).tmod 5,0⟩]) ((fs.length:Int)::a::t).length (((fs.length:Int)::a::t).reverse.map Qr),Q0 [2+19*RR+3,2+19*RR+5] (by kernel_rfl) ?_ ?_,⟨i+1,_,(fs.length:Int)::a::t,_,[],_,⟨rfl,by omega,g1,g2,rfl,g3,g4,g5,g6,by simp,QL⟩,rfl⟩,by omega⟩
    ·exact⟨.refl _,Q8 (by rw[g2,hlen]),Q8 rfl,Qm (by omega),trivial⟩
    ·refine⟨⟨by decide,_,rfl,Q2 ?_ (fF _)⟩,⟨by decide,_,rfl,Q2 ?_ (fI _)⟩,trivial⟩
     ·show List.take fs.length (List.drop 0 ((fs.map encF).set (0+(asI ((R.getD (0+((↑(t.length+1):Int)-1).toNat) []).getD 0 .any)).toNat) (QI ((fs.map encF).getD (0+(asI ((R.getD (0+((↑(t.length+1):Int)-1).toNat) []).getD 0 .any)).toNat) []) (0+3) [.int .i64 (asI (((fs.map encF).getD (0+(asI ((R.getD (0+((↑(t.length+1):Int)-1).toNat) []).getD 0 .any)).toNat) []).getD (0+3) .any)+1)])))++[[.str (X8 [[.int .u8 (wr .u8 (97+(i:Int)))]]),.int .i64 (wi (wr .i64 ((ns.getD i 0).tdiv 8)) 3),.int .i64 ((wi (ns.getD i 0) 8).tmod 5),.int .i64 0]]=_
      simp only[hx1,hx2,Qn,Qd]
      rw[hx3,UZ i (by omega),show QI (encF (fs.getD a.toNat default)) (0+3) [.int .i64 (asI ((encF (fs.getD a.toNat default)).getD (0+3) .any)+1)]=[.str (fs.getD a.toNat default).name,.int .i64 (fs.getD a.toNat default).rep,.int .i64 (fs.getD a.toNat default).kind,.int .i64 ((fs.getD a.toNat default).kids+1)] from rfl,Nat.zero_add,XE (by omega),List.drop_zero,List.take_of_length_le (by simp[Qe])]
      simp[encF]
     ·show List.take (t.length+1) (List.drop 0 R)++[[.int .i64 (↑(fs.length+1)-1)]]=_
      rw[hR1,List.drop_zero,show t.length+1=((a::t).reverse.map Qr).length by simp,List.take_left]
      simp[Qr]
   ·have hq:¬(wi (ns.getD i 0) 8).tmod 5=0:=by first|assumption|exact of_decide_eq_false (by assumption)|exact fun h=>absurd (decide_eq_true h) (by assumption)
    obtain⟨g1,g2,g3,g4,g5,g6⟩:=Yh hrun hlen hkid (by omega) (by omega) hk0 hp hop1 hol2 ((wi (ns.getD i 0) 8).tmod 5) (by rw[Yg,if_neg (fun h=>hq h.2)]) (a::t) (by rw[if_neg hq]) _ rfl
    refine⟨_,mSt ns (i+1) (XM fs a.toNat++[⟨nmM i,wi (wr .i64 ((ns.getD i 0).tdiv 8)) 3,(wi (ns.getD i 0) 8).tmod 5,0⟩]) (a::t).length (R),Q0 [2+19*RR+3,1] (by kernel_rfl) ?_ ?_,⟨i+1,_,a::t,_,j1,_,⟨rfl,by omega,g1,g2,rfl,g3,g4,g5,g6,hR1,hj1⟩,rfl⟩,by omega⟩
    ·exact⟨.refl _,Q8 (by rw[g2,hlen]),Q8 rfl,Qm (by omega),trivial⟩
    ·refine⟨⟨by decide,_,rfl,Q2 ?_ (fF _)⟩,⟨by decide,_,rfl,Q2 ?_ hfR⟩,trivial⟩
     ·show List.take fs.length (List.drop 0 ((fs.map encF).set (0+(asI ((R.getD (0+((↑(t.length+1):Int)-1).toNat) []).getD 0 .any)).toNat) (QI ((fs.map encF).getD (0+(asI ((R.getD (0+((↑(t.length+1):Int)-1).toNat) []).getD 0 .any)).toNat) []) (0+3) [.int .i64 (asI (((fs.map encF).getD (0+(asI ((R.getD (0+((↑(t.length+1):Int)-1).toNat) []).getD 0 .any)).toNat) []).getD (0+3) .any)+1)])))++[[.str (X8 [[.int .u8 (wr .u8 (97+(i:Int)))]]),.int .i64 (wi (wr .i64 ((ns.getD i 0).tdiv 8)) 3),.int .i64 ((wi (ns.getD i 0) 8).tmod 5),.int .i64 0]]=_
      simp only[hx1,hx2,Qn,Qd]
      rw[hx3,UZ i (by omega),show QI (encF (fs.getD a.toNat default)) (0+3) [.int .i64 (asI ((encF (fs.getD a.toNat default)).getD (0+3) .any)+1)]=[.str (fs.getD a.toNat default).name,.int .i64 (fs.getD a.toNat default).rep,.int .i64 (fs.getD a.toNat default).kind,.int .i64 ((fs.getD a.toNat default).kids+1)] from rfl,Nat.zero_add,XE (by omega),List.drop_zero,List.take_of_length_le (by simp[Qe])]
      simp[encF]
     ·rfl
  ·skip
   repeat' first|refine And.intro ?_ ?_|(intro h;try simp only[decide_eq_true_eq,decide_eq_false_iff_not,Int.not_lt,Int.not_le,Int.toNat_natCast,↓reduceIte,Nat.reduceAdd,reduceCtorEq,Int.reduceLT,Int.lt_irrefl,gt_iff_lt,not_true_eq_false,not_false_eq_true,Bool.not_true,Bool.not_false,decide_false,decide_true,Int.reduceLE,Int.reduceSub,Bool.false_eq_true,Bool.true_eq_false,Nat.reduceEqDiff,Nat.one_ne_zero,Nat.reduceLT,and_self,and_true,true_and,Int.natCast_zero,Int.cast_ofNat_Int,List.length_nil,ne_eq,Decidable.not_not,hx1,hx2,hx3,Qd,Qn,QT,QC]at h)
   all_goals(try first|exact PlanIs.mk (by kernel_rfl)|omega|exact rfl|exact Nat.le_of_ble_eq_true rfl|(show(_:Int)≤(_:Int);simp only[hx1,hx2,hx3,Qd,Qn,QT,QC,QV,List.length_set,List.length_map,hRl];omega)|(show(_:Int)<(_:Int);simp only[hx1,hx2,hx3,Qd,Qn,QT,QC,QV,List.length_set,List.length_map,hRl];omega)|(show(_:Nat)≤(_:Nat);simp only[hx1,hx2,hx3,Qd,Qn,QT,QC,QV,List.length_set,List.length_map,hRl];omega)|(show isC _ _ _=true;simp only[hx1,hx2,hx3,Qd,Qn,QT,QC,QV,List.length_set,List.length_map,hRl];exact rfl))
   all_goals refine⟨_,8,rfl,by omega,?_⟩
   repeat' first|refine And.intro ?_ ?_|(intro h;try simp only[decide_eq_true_eq,decide_eq_false_iff_not,Int.not_lt,Int.not_le,Int.toNat_natCast,↓reduceIte,Nat.reduceAdd,reduceCtorEq,Int.reduceLT,Int.lt_irrefl,gt_iff_lt,not_true_eq_false,not_false_eq_true,Bool.not_true,Bool.not_false,decide_false,decide_true,Int.reduceLE,Int.reduceSub,Bool.false_eq_true,Bool.true_eq_false,Nat.reduceEqDiff,Nat.one_ne_zero,Nat.reduceLT,and_self,and_true,true_and,Int.natCast_zero,Int.cast_ofNat_Int,List.length_nil,ne_eq,Decidable.not_not,hx1,hx2,hx3,Qd,Qn,QT,QC]at h)
   all_goals(try first|exact PlanIs.mk (by kernel_rfl)|omega|exact rfl|exact Nat.le_of_ble_eq_true rfl|(show(_:Int)≤(_:Int);simp only[hx1,hx2,hx3,Qd,Qn,QT,QC,QV,List.length_set,List.length_map,hRl];omega)|(show(_:Int)<(_:Int);simp only[hx1,hx2,hx3,Qd,Qn,QT,QC,QV,List.length_set,List.length_map,hRl];omega)|(show(_:Nat)≤(_:Nat);simp only[hx1,hx2,hx3,Qd,Qn,QT,QC,QV,List.length_set,List.length_map,hRl];omega)|(show isC _ _ _=true;simp only[hx1,hx2,hx3,Qd,Qn,QT,QC,QV,List.length_set,List.length_map,hRl];exact rfl))
   ·exact absurd (show(2:Int)=0 from by assumption) (by decide)
   ·have hq:(wi (ns.getD i 0) 8).tmod 5=0:=by first|assumption|exact of_decide_eq_true (by assumption)
    obtain⟨g1,g2,g3,g4,g5,g6⟩:=Yh hrun hlen hkid (by omega) (by omega) hk0 hp hop1 hol2 2 (by rw[Yg,if_pos ⟨by rw[List.length_cons];omega,hq⟩]) (a::t) (by first|rfl|(rw[if_neg ‹_›])) _ rfl
    refine⟨_,mSt ns (i+1) (XM fs a.toNat++[⟨nmM i,wi (wr .i64 ((ns.getD i 0).tdiv 8)) 3,2,0⟩]) (a::t).length (R),Q0 [2+19*RR+4,1] (by kernel_rfl) ?_ ?_,⟨i+1,_,a::t,_,j1,_,⟨rfl,by omega,g1,g2,rfl,g3,g4,g5,g6,hR1,hj1⟩,rfl⟩,by omega⟩
    ·exact⟨.refl _,Q8 (by rw[g2,hlen]),Q8 rfl,Qm (by omega),trivial⟩
    ·refine⟨⟨by decide,_,rfl,Q2 ?_ (fF _)⟩,⟨by decide,_,rfl,Q2 ?_ hfR⟩,trivial⟩
     ·show List.take fs.length (List.drop 0 ((fs.map encF).set (0+(asI ((R.getD (0+((↑(t.length+1):Int)-1).toNat) []).getD 0 .any)).toNat) (QI ((fs.map encF).getD (0+(asI ((R.getD (0+((↑(t.length+1):Int)-1).toNat) []).getD 0 .any)).toNat) []) (0+3) [.int .i64 (asI (((fs.map encF).getD (0+(asI ((R.getD (0+((↑(t.length+1):Int)-1).toNat) []).getD 0 .any)).toNat) []).getD (0+3) .any)+1)])))++[[.str (X8 [[.int .u8 (wr .u8 (97+(i:Int)))]]),.int .i64 (wi (wr .i64 ((ns.getD i 0).tdiv 8)) 3),.int .i64 (2),.int .i64 0]]=_
      simp only[hx1,hx2,Qn,Qd]
      rw[hx3,UZ i (by omega),show QI (encF (fs.getD a.toNat default)) (0+3) [.int .i64 (asI ((encF (fs.getD a.toNat default)).getD (0+3) .any)+1)]=[.str (fs.getD a.toNat default).name,.int .i64 (fs.getD a.toNat default).rep,.int .i64 (fs.getD a.toNat default).kind,.int .i64 ((fs.getD a.toNat default).kids+1)] from rfl,Nat.zero_add,XE (by omega),List.drop_zero,List.take_of_length_le (by simp[Qe])]
      simp[encF]
     ·rfl
   ·exact absurd (of_decide_eq_true (p:=(wi (ns.getD i 0) 8).tmod 5=0) (by assumption)) (of_decide_eq_false (p:=(wi (ns.getD i 0) 8).tmod 5=0) (by assumption))
   ·have hq:¬(wi (ns.getD i 0) 8).tmod 5=0:=by first|assumption|exact of_decide_eq_false (by assumption)|exact fun h=>absurd (decide_eq_true h) (by assumption)
    obtain⟨g1,g2,g3,g4,g5,g6⟩:=Yh hrun hlen hkid (by omega) (by omega) hk0 hp hop1 hol2 ((wi (ns.getD i 0) 8).tmod 5) (by rw[Yg,if_neg (fun h=>hq h.2)]) (a::t) (by rw[if_neg hq]) _ rfl
    refine⟨_,mSt ns (i+1) (XM fs a.toNat++[⟨nmM i,wi (wr .i64 ((ns.getD i 0).tdiv 8)) 3,(wi (ns.getD i 0) 8).tmod 5,0⟩]) (a::t).length (R),Q0 [2+19*RR+3,1] (by kernel_rfl) ?_ ?_,⟨i+1,_,a::t,_,j1,_,⟨rfl,by omega,g1,g2,rfl,g3,g4,g5,g6,hR1,hj1⟩,rfl⟩,by omega⟩
    ·exact⟨.refl _,Q8 (by rw[g2,hlen]),Q8 rfl,Qm (by omega),trivial⟩
    ·refine⟨⟨by decide,_,rfl,Q2 ?_ (fF _)⟩,⟨by decide,_,rfl,Q2 ?_ hfR⟩,trivial⟩
     ·show List.take fs.length (List.drop 0 ((fs.map encF).set (0+(asI ((R.getD (0+((↑(t.length+1):Int)-1).toNat) []).getD 0 .any)).toNat) (QI ((fs.map encF).getD (0+(asI ((R.getD (0+((↑(t.length+1):Int)-1).toNat) []).getD 0 .any)).toNat) []) (0+3) [.int .i64 (asI (((fs.map encF).getD (0+(asI ((R.getD (0+((↑(t.length+1):Int)-1).toNat) []).getD 0 .any)).toNat) []).getD (0+3) .any)+1)])))++[[.str (X8 [[.int .u8 (wr .u8 (97+(i:Int)))]]),.int .i64 (wi (wr .i64 ((ns.getD i 0).tdiv 8)) 3),.int .i64 ((wi (ns.getD i 0) 8).tmod 5),.int .i64 0]]=_
      simp only[hx1,hx2,Qn,Qd]
      rw[hx3,UZ i (by omega),show QI (encF (fs.getD a.toNat default)) (0+3) [.int .i64 (asI ((encF (fs.getD a.toNat default)).getD (0+3) .any)+1)]=[.str (fs.getD a.toNat default).name,.int .i64 (fs.getD a.toNat default).rep,.int .i64 (fs.getD a.toNat default).kind,.int .i64 ((fs.getD a.toNat default).kids+1)] from rfl,Nat.zero_add,XE (by omega),List.drop_zero,List.take_of_length_le (by simp[Qe])]
      simp[encF]
     ·rfl
   ·have hq:(wi (ns.getD i 0) 8).tmod 5=0:=by first|assumption|exact of_decide_eq_true (by assumption)
    obtain⟨g1,g2,g3,g4,g5,g6⟩:=Yh hrun hlen hkid (by omega) (by omega) hk0 hp hop1 hol2 ((wi (ns.getD i 0) 8).tmod 5) (by rw[Yg,if_neg (fun h=>by simp only[List.length_cons]at h;omega)]) ((fs.length:Int)::a::t) (by rw[if_pos hq]) _ rfl
    refine⟨_,mSt ns (i+1) (XM fs a.toNat++[⟨nmM i,wi (wr .i64 ((ns.getD i 0).tdiv 8)) 3,(wi (ns.getD i 0) 8).tmod 5,0⟩]) ((fs.length:Int)::a::t).length (((fs.length:Int)::a::t).reverse.map Qr),Q0 [2+19*RR+3,2+19*RR+5] (by kernel_rfl) ?_ ?_,⟨i+1,_,(fs.length:Int)::a::t,_,[],_,⟨rfl,by omega,g1,g2,rfl,g3,g4,g5,g6,by simp,QL⟩,rfl⟩,by omega⟩
    ·exact⟨.refl _,Q8 (by rw[g2,hlen]),Q8 rfl,Qm (by omega),trivial⟩
    ·refine⟨⟨by decide,_,rfl,Q2 ?_ (fF _)⟩,⟨by decide,_,rfl,Q2 ?_ (fI _)⟩,trivial⟩
     ·show List.take fs.length (List.drop 0 ((fs.map encF).set (0+(asI ((R.getD (0+((↑(t.length+1):Int)-1).toNat) []).getD 0 .any)).toNat) (QI ((fs.map encF).getD (0+(asI ((R.getD (0+((↑(t.length+1):Int)-1).toNat) []).getD 0 .any)).toNat) []) (0+3) [.int .i64 (asI (((fs.map encF).getD (0+(asI ((R.getD (0+((↑(t.length+1):Int)-1).toNat) []).getD 0 .any)).toNat) []).getD (0+3) .any)+1)])))++[[.str (X8 [[.int .u8 (wr .u8 (97+(i:Int)))]]),.int .i64 (wi (wr .i64 ((ns.getD i 0).tdiv 8)) 3),.int .i64 ((wi (ns.getD i 0) 8).tmod 5),.int .i64 0]]=_
      simp only[hx1,hx2,Qn,Qd]
      rw[hx3,UZ i (by omega),show QI (encF (fs.getD a.toNat default)) (0+3) [.int .i64 (asI ((encF (fs.getD a.toNat default)).getD (0+3) .any)+1)]=[.str (fs.getD a.toNat default).name,.int .i64 (fs.getD a.toNat default).rep,.int .i64 (fs.getD a.toNat default).kind,.int .i64 ((fs.getD a.toNat default).kids+1)] from rfl,Nat.zero_add,XE (by omega),List.drop_zero,List.take_of_length_le (by simp[Qe])]
      simp[encF]
     ·show List.take (t.length+1) (List.drop 0 R)++[[.int .i64 (↑(fs.length+1)-1)]]=_
      rw[hR1,List.drop_zero,show t.length+1=((a::t).reverse.map Qr).length by simp,List.take_left]
      simp[Qr]
   ·have hq:¬(wi (ns.getD i 0) 8).tmod 5=0:=by first|assumption|exact of_decide_eq_false (by assumption)|exact fun h=>absurd (decide_eq_true h) (by assumption)
    obtain⟨g1,g2,g3,g4,g5,g6⟩:=Yh hrun hlen hkid (by omega) (by omega) hk0 hp hop1 hol2 ((wi (ns.getD i 0) 8).tmod 5) (by rw[Yg,if_neg (fun h=>hq h.2)]) (a::t) (by rw[if_neg hq]) _ rfl
    refine⟨_,mSt ns (i+1) (XM fs a.toNat++[⟨nmM i,wi (wr .i64 ((ns.getD i 0).tdiv 8)) 3,(wi (ns.getD i 0) 8).tmod 5,0⟩]) (a::t).length (R),Q0 [2+19*RR+3,1] (by kernel_rfl) ?_ ?_,⟨i+1,_,a::t,_,j1,_,⟨rfl,by omega,g1,g2,rfl,g3,g4,g5,g6,hR1,hj1⟩,rfl⟩,by omega⟩
    ·exact⟨.refl _,Q8 (by rw[g2,hlen]),Q8 rfl,Qm (by omega),trivial⟩
    ·refine⟨⟨by decide,_,rfl,Q2 ?_ (fF _)⟩,⟨by decide,_,rfl,Q2 ?_ hfR⟩,trivial⟩
     ·show List.take fs.length (List.drop 0 ((fs.map encF).set (0+(asI ((R.getD (0+((↑(t.length+1):Int)-1).toNat) []).getD 0 .any)).toNat) (QI ((fs.map encF).getD (0+(asI ((R.getD (0+((↑(t.length+1):Int)-1).toNat) []).getD 0 .any)).toNat) []) (0+3) [.int .i64 (asI (((fs.map encF).getD (0+(asI ((R.getD (0+((↑(t.length+1):Int)-1).toNat) []).getD 0 .any)).toNat) []).getD (0+3) .any)+1)])))++[[.str (X8 [[.int .u8 (wr .u8 (97+(i:Int)))]]),.int .i64 (wi (wr .i64 ((ns.getD i 0).tdiv 8)) 3),.int .i64 ((wi (ns.getD i 0) 8).tmod 5),.int .i64 0]]=_
      simp only[hx1,hx2,Qn,Qd]
      rw[hx3,UZ i (by omega),show QI (encF (fs.getD a.toNat default)) (0+3) [.int .i64 (asI ((encF (fs.getD a.toNat default)).getD (0+3) .any)+1)]=[.str (fs.getD a.toNat default).name,.int .i64 (fs.getD a.toNat default).rep,.int .i64 (fs.getD a.toNat default).kind,.int .i64 ((fs.getD a.toNat default).kids+1)] from rfl,Nat.zero_add,XE (by omega),List.drop_zero,List.take_of_length_le (by simp[Qe])]
      simp[encF]
     ·rfl
 ·have hend:QN ns=YO fs op:=by rw[QN,←hrun,UJ (by omega)]
  have h0:(fs.getD (Xg op).toNat default).kids=0:=by assumption
  have hE:YO fs op=XM fs (Xg op).toNat++[⟨[122],0,4,0⟩]:=by rw[YO,if_pos h0]
  have hl:(YO fs op).length=fs.length+1:=by rw[hE];simp[Qe]
  have heq:List.take fs.length (List.drop 0 ((fs.map encF).set (0+(asI ((R.getD (0+((↑op.length:Int)-1).toNat) []).getD 0 .any)).toNat) (QI ((fs.map encF).getD (0+(asI ((R.getD (0+((↑op.length:Int)-1).toNat) []).getD 0 .any)).toNat) []) (0+3) [.int .i64 (asI (((fs.map encF).getD (0+(asI ((R.getD (0+((↑op.length:Int)-1).toNat) []).getD 0 .any)).toNat) []).getD (0+3) .any)+1)])))++[[.str [122],.int .i64 0,.int .i64 4,.int .i64 0]]=(YO fs op).map encF:=by
   rw[hE,hx2]
   simp only[Qn,Qd]
   rw[hx3,show QI (encF (fs.getD (Xg op).toNat default)) (0+3) [.int .i64 (asI ((encF (fs.getD (Xg op).toNat default)).getD (0+3) .any)+1)]=[.str (fs.getD (Xg op).toNat default).name,.int .i64 (fs.getD (Xg op).toNat default).rep,.int .i64 (fs.getD (Xg op).toNat default).kind,.int .i64 ((fs.getD (Xg op).toNat default).kids+1)] from rfl,Nat.zero_add,XE (by omega),List.drop_zero,List.take_of_length_le (by simp[Qe])]
   simp[encF]
  refine⟨_,YS (enc:=encF) (k:=2) (rows:=List.take fs.length (List.drop 0 ((fs.map encF).set (0+(asI ((R.getD (0+((↑op.length:Int)-1).toNat) []).getD 0 .any)).toNat) (QI ((fs.map encF).getD (0+(asI ((R.getD (0+((↑op.length:Int)-1).toNat) []).getD 0 .any)).toNat) []) (0+3) [.int .i64 (asI (((fs.map encF).getD (0+(asI ((R.getD (0+((↑op.length:Int)-1).toNat) []).getD 0 .any)).toNat) []).getD (0+3) .any)+1)])))++[[.str [122],.int .i64 0,.int .i64 4,.int .i64 0]]) default (l:=YO fs op) rfl rfl (by rw[heq];exact fF _) ?_ ?_,_,rfl,?_,rfl⟩
  ·rw[heq];show List.take (fs.length+1) _=_;exact List.take_of_length_le (by simp[hl])
  ·rw[heq];show fs.length+1≤_;simp[hl]
  ·rw[hend];rfl
 ·have hend:QN ns=YO fs op:=by rw[QN,←hrun,UJ (by omega)]
  have h0:¬(fs.getD (Xg op).toNat default).kids=0:=by assumption
  have hE:YO fs op=fs:=by rw[YO,if_neg h0]
  refine⟨_,YS (enc:=encF) (k:=2) (rows:=fs.map encF) default (l:=fs) rfl rfl (fF fs) ?_ ?_,_,rfl,?_,rfl⟩
  ·show List.take fs.length _=_;exact List.take_of_length_le (by simp)
  ·show fs.length≤_;simp
  ·rw[hend,hE];rfl
 ·have hend:QN ns=YO fs op:=by rw[QN,←hrun,UJ (by omega)]
  have h0:(fs.getD (Xg op).toNat default).kids=0:=by assumption
  have hE:YO fs op=XM fs (Xg op).toNat++[⟨[122],0,4,0⟩]:=by rw[YO,if_pos h0]
  have hl:(YO fs op).length=fs.length+1:=by rw[hE];simp[Qe]
  have heq:List.take fs.length (List.drop 0 ((fs.map encF).set (0+(asI ((R.getD (0+((↑op.length:Int)-1).toNat) []).getD 0 .any)).toNat) (QI ((fs.map encF).getD (0+(asI ((R.getD (0+((↑op.length:Int)-1).toNat) []).getD 0 .any)).toNat) []) (0+3) [.int .i64 (asI (((fs.map encF).getD (0+(asI ((R.getD (0+((↑op.length:Int)-1).toNat) []).getD 0 .any)).toNat) []).getD (0+3) .any)+1)])))++[[.str [122],.int .i64 0,.int .i64 4,.int .i64 0]]=(YO fs op).map encF:=by
   rw[hE,hx2]
   simp only[Qn,Qd]
   rw[hx3,show QI (encF (fs.getD (Xg op).toNat default)) (0+3) [.int .i64 (asI ((encF (fs.getD (Xg op).toNat default)).getD (0+3) .any)+1)]=[.str (fs.getD (Xg op).toNat default).name,.int .i64 (fs.getD (Xg op).toNat default).rep,.int .i64 (fs.getD (Xg op).toNat default).kind,.int .i64 ((fs.getD (Xg op).toNat default).kids+1)] from rfl,Nat.zero_add,XE (by omega),List.drop_zero,List.take_of_length_le (by simp[Qe])]
   simp[encF]
  refine⟨_,YS (enc:=encF) (k:=2) (rows:=List.take fs.length (List.drop 0 ((fs.map encF).set (0+(asI ((R.getD (0+((↑op.length:Int)-1).toNat) []).getD 0 .any)).toNat) (QI ((fs.map encF).getD (0+(asI ((R.getD (0+((↑op.length:Int)-1).toNat) []).getD 0 .any)).toNat) []) (0+3) [.int .i64 (asI (((fs.map encF).getD (0+(asI ((R.getD (0+((↑op.length:Int)-1).toNat) []).getD 0 .any)).toNat) []).getD (0+3) .any)+1)])))++[[.str [122],.int .i64 0,.int .i64 4,.int .i64 0]]) default (l:=YO fs op) rfl rfl (by rw[heq];exact fF _) ?_ ?_,_,rfl,?_,rfl⟩
  ·rw[heq];show List.take (fs.length+1) _=_;exact List.take_of_length_le (by simp[hl])
  ·rw[heq];show fs.length+1≤_;simp[hl]
  ·rw[hend];rfl
 ·have hend:QN ns=YO fs op:=by rw[QN,←hrun,UJ (by omega)]
  have h0:¬(fs.getD (Xg op).toNat default).kids=0:=by assumption
  have hE:YO fs op=fs:=by rw[YO,if_neg h0]
  refine⟨_,YS (enc:=encF) (k:=2) (rows:=fs.map encF) default (l:=fs) rfl rfl (fF fs) ?_ ?_,_,rfl,?_,rfl⟩
  ·show List.take fs.length _=_;exact List.take_of_length_le (by simp)
  ·show fs.length≤_;simp
  ·rw[hend,hE];rfl
end
theorem W1(s:List UInt8):asS (.str s)=s:=rfl
theorem Yi(b:Bool):asB (.bool b)=b:=rfl
theorem Zb(a:Int):(Qr a).getD (0+0) .any= .int .i64 a:=rfl
theorem Vr(f:Fd):(encF f).getD 0 .any= .str f.name:=rfl
theorem Vq(f:Fd):(encF f).getD 1 .any= .int .i64 f.rep:=rfl
theorem Vp(f:Fd):(encF f).getD 2 .any= .int .i64 f.kind:=rfl
theorem W0(f:Fd):(encF f).getD (0+0) .any= .str f.name:=rfl
theorem YZ(f:Fd):(encF f).getD (0+1) .any= .int .i64 f.rep:=rfl
theorem YY(f:Fd):(encF f).getD (0+2) .any= .int .i64 f.kind:=rfl
theorem Vo(l:Lf):(ZO l).getD 0 .any= .int .i64 l.field:=rfl
theorem Vn(l:Lf):(ZO l).getD 1 .any= .int .i64 l.r:=rfl
theorem Vm(l:Lf):(ZO l).getD 2 .any= .int .i64 l.d:=rfl
theorem Vk(l:Lf):(ZO l).getD 3 .any= .int .i64 l.kind:=rfl
theorem YX(l:Lf):(ZO l).getD (0+0) .any= .int .i64 l.field:=rfl
theorem YW(l:Lf):(ZO l).getD (0+1) .any= .int .i64 l.r:=rfl
theorem YV(l:Lf):(ZO l).getD (0+2) .any= .int .i64 l.d:=rfl
theorem YU(l:Lf):(ZO l).getD (0+3) .any= .int .i64 l.kind:=rfl
theorem Xq(a:Int):(Qr a).length=1:=rfl
theorem sg:(∀(k:IntKind) (n:Int),asI (.int k n)=n)∧(∀s,asS (.str s)=s)∧(∀b,asB (.bool b)=b)∧(∀a,(Qr a).getD 0 .any= .int .i64 a)∧(∀a,(Qr a).getD (0+0) .any= .int .i64 a)∧
 (∀f,(encF f).getD 0 .any= .str f.name)∧(∀f,(encF f).getD 1 .any= .int .i64 f.rep)∧(∀f,(encF f).getD 2 .any= .int .i64 f.kind)∧(∀f,(encF f).getD 3 .any= .int .i64 f.kids)∧
 (∀f,(encF f).getD (0+0) .any= .str f.name)∧(∀f,(encF f).getD (0+1) .any= .int .i64 f.rep)∧(∀f,(encF f).getD (0+2) .any= .int .i64 f.kind)∧(∀f,(encF f).getD (0+3) .any= .int .i64 f.kids)∧
 (∀l,(ZO l).getD 0 .any= .int .i64 l.field)∧(∀l,(ZO l).getD 1 .any= .int .i64 l.r)∧(∀l,(ZO l).getD 2 .any= .int .i64 l.d)∧(∀l,(ZO l).getD 3 .any= .int .i64 l.kind)∧
 (∀l,(ZO l).getD (0+0) .any= .int .i64 l.field)∧(∀l,(ZO l).getD (0+1) .any= .int .i64 l.r)∧(∀l,(ZO l).getD (0+2) .any= .int .i64 l.d)∧(∀l,(ZO l).getD (0+3) .any= .int .i64 l.kind)∧
 (∀n:Nat,0+n=n)∧(∀n:Nat,n+0=n)∧(∀n:Nat,((n:Nat):Int).toNat=n)∧((0:Int).toNat=0)∧
 (∀(x d:AVal) (l:List AVal),(x::l).getD 0 d=x)∧(∀(x d:AVal) (l:List AVal) (n:Nat),(x::l).getD (n+1) d=l.getD n d)∧(∀(x d:List AVal) (l:List (List AVal)),(x::l).getD 0 d=x)∧(∀(x d:List AVal) (l:List (List AVal)) (n:Nat),(x::l).getD (n+1) d=l.getD n d):=
 ⟨fun _ _=>rfl,fun _=>rfl,fun _=>rfl,fun _=>rfl,fun _=>rfl,fun _=>rfl,fun _=>rfl,fun _=>rfl,fun _=>rfl,fun _=>rfl,fun _=>rfl,fun _=>rfl,fun _=>rfl,fun _=>rfl,fun _=>rfl,fun _=>rfl,fun _=>rfl,fun _=>rfl,fun _=>rfl,fun _=>rfl,fun _=>rfl,
  Nat.zero_add,Nat.add_zero,Int.toNat_natCast,Int.toNat_zero,fun _ _ _=>rfl,fun _ _ _ _=>rfl,fun _ _ _=>rfl,fun _ _ _ _=>rfl⟩
theorem sx:(∀(p:Prop) [Decidable p],(decide p=true)=p)∧(∀(p:Prop) [Decidable p],(decide p=false)= ¬p)∧(∀a b:Int,(¬a<b)=(b≤a))∧(∀a b:Int,(¬a≤b)=(b<a))∧(∀n:Nat,((n:Nat):Int).toNat=n)∧(∀a:Int,(a<a)=False)∧
 (∀a b:Int,(a>b)=(b<a))∧(∀a b:Nat,(a>b)=(b<a))∧((¬True)=False)∧((¬False)=True)∧((!true)=false)∧((!false)=true)∧(decide False=false)∧(decide True=true)∧((false=true)=False)∧((true=false)=False)∧((1:Nat)=0)=False∧
 (∀p:Prop,(p∧p)=p)∧(∀p:Prop,(p∧True)=p)∧(∀p:Prop,(True∧p)=p)∧(((0:Nat):Int)=0)∧(∀α:Type,([]:List α).length=0)∧(∀(α:Type) (a b:α),(a≠b)= ¬(a=b))∧(∀(p:Prop) [Decidable p],(¬¬p)=p)∧
 (∀b:Bool,((!b)=true)=(b=false))∧(∀b:Bool,((!b)=false)=(b=true))∧(∀(α β:Type) (f:α→β) (l:List α),(l.map f).length=l.length):=by
 refine⟨fun p _=>decide_eq_true_eq,fun p _=>propext decide_eq_false_iff_not,fun a b=>propext Int.not_lt,fun a b=>propext Int.not_le,Int.toNat_natCast,fun a=>eq_false (Int.lt_irrefl a),fun a b=>rfl,fun a b=>rfl,not_true_eq_false,not_false_eq_true,rfl,rfl,rfl,rfl,by simp,by simp,by simp,and_self,and_true,true_and,rfl,fun _=>rfl,fun _ _ _=>rfl,fun p _=>propext Decidable.not_not,fun b=>by cases b<;>simp,fun b=>by cases b<;>simp,fun _ _ f l=>List.length_map ..⟩
theorem cz{P:Prop}(h:P:=by first|((with_reducible refine PlanIs.mk ?_);kernel_rfl)|((with_reducible refine NoSel.mk ?_);kernel_rfl)|((with_reducible refine Apart.mk ?_);kernel_rfl)|((with_reducible first|show(_:Nat)≤_|show(_:Nat)<_);first|omega|(simp only[sg,List.length_map];omega)|exact Nat.le_of_ble_eq_true rfl)|((with_reducible first|show(_:Int)≤_|show(_:Int)<_);first|omega|(simp only[sg,List.length_map];omega))|((with_reducible show _=_);exact rfl)):P:=h
theorem nz{p q:Prop}(h:p)(k:¬p:=by omega):q:=absurd h k
theorem dz{q:Prop}(e:q:=by(try first|replace h:=of_decide_eq_true h|replace h:=of_decide_eq_false h);(try simp only[sg]at h);(try simp only[sx,↓reduceIte,Nat.reduceAdd,reduceCtorEq,Int.reduceLT,Int.reduceLE,Int.reduceSub,Nat.reduceEqDiff,Nat.reduceLT]at h);first|done|exact nz h):q:=e
theorem cv{q:Prop}(e:q:=by(try first|replace h:=of_decide_eq_true h|replace h:=of_decide_eq_false h);(try simp only[sg]at h);(try simp only[sx,↓reduceIte,Nat.reduceAdd,reduceCtorEq,Int.reduceLT,Int.reduceLE,Int.reduceSub,Nat.reduceEqDiff,Nat.reduceLT]at h);exact h):q:=e
theorem dzh{q:Prop}(e:q:=by(try first|replace h:=of_decide_eq_true h|replace h:=of_decide_eq_false h);(try simp only[sg,hx1]at h);(try simp only[sx,↓reduceIte,Nat.reduceAdd,reduceCtorEq,Int.reduceLT,Int.reduceLE,Int.reduceSub,Nat.reduceEqDiff,Nat.reduceLT]at h);first|done|exact nz h):q:=e
theorem cvh{q:Prop}(e:q:=by(try first|replace h:=of_decide_eq_true h|replace h:=of_decide_eq_false h);(try simp only[sg,hx1]at h);(try simp only[sx,↓reduceIte,Nat.reduceAdd,reduceCtorEq,Int.reduceLT,Int.reduceLE,Int.reduceSub,Nat.reduceEqDiff,Nat.reduceLT]at h);exact h):q:=e
theorem dzi{q:Prop}(e:q:=by(try first|replace h:=of_decide_eq_true h|replace h:=of_decide_eq_false h);(try simp only[sg,hx1,hx2,hx3,hx4]at h);(try simp only[sx,↓reduceIte,Nat.reduceAdd,reduceCtorEq,Int.reduceLT,Int.reduceLE,Int.reduceSub,Nat.reduceEqDiff,Nat.reduceLT]at h);first|done|exact nz h):q:=e
theorem cvi{q:Prop}(e:q:=by(try first|replace h:=of_decide_eq_true h|replace h:=of_decide_eq_false h);(try simp only[sg,hx1,hx2,hx3,hx4]at h);(try simp only[sx,↓reduceIte,Nat.reduceAdd,reduceCtorEq,Int.reduceLT,Int.reduceLE,Int.reduceSub,Nat.reduceEqDiff,Nat.reduceLT]at h);exact h):q:=e
section
set_option maxRecDepth 100000
set_option maxHeartbeats 4000000
def encB(c:UInt8):List AVal:=[.int .u8 c.toNat]
abbrev vB(l:List UInt8):AVal:=vT 1 encB 0 l
theorem fB(l:List UInt8):Qp (l.map encB):=XV (fun a x hx=>by simp[encB]at hx;subst hx;rfl) l
theorem Z0{α:Type}{enc:α→List AVal}{z:Nat}(h:∀a,(enc a).length=z)(l:List α):Yo z (l.map enc)=true:=by
 have:=U0 h l 0 l.length
 rwa [List.drop_zero,List.take_of_length_le (by rw[List.length_map];exact Nat.le_refl _)]at this
theorem He[Syms](l:List UInt8)(hl:l.length≤1000000)(h0:0<l.length):
 fnT Q7 Q7 (Qx fns) (Qo tys) (Qz plt) 100 46 [vB l] [] 0 (fun v H _=>v=vB l∧H=[]):=by
 intro b hb
 have e:=Zx encB 0 l
 have el:(Zq l.length fun i=>encB (l.getD i 0)).length=l.length:=Ql _ _
 have hb2:b=false:=hb (fun h=>by rw[h]at el;simp at el;omega)
 subst hb2
 refine And.intro (fun h=>by cases h) (fun h=>?_)
 refine And.intro (by rw[e];exact Z0 (enc:=encB) (z:=1) (fun _=>rfl) l) ?_
 refine And.intro ⟨show(0+(Zq l.length fun i=>encB (l.getD i 0)).length)*1≤_ by omega,by omega⟩ ?_
 refine And.intro (fun h=>absurd h (by omega)) (fun h=>?_)
 refine And.intro (Nat.zero_le _) ?_
 refine And.intro (fun h=>?_) (fun h=>absurd (show 0<0+_ by omega) h)
 refine⟨_,YS (enc:=encB) (k:=2) 0 (l:=l) rfl rfl ?_ ?_ ?_,_,rfl,rfl,rfl⟩
 ·show Qp (Zq l.length fun i=>encB (l.getD i 0))
  rw[e];exact fB l
 ·show List.take (0+(Zq l.length fun i=>encB (l.getD i 0)).length) (Zq l.length fun i=>encB (l.getD i 0))=_
  rw[e];exact List.take_of_length_le (by omega)
 ·show 0+(Zq l.length fun i=>encB (l.getD i 0)).length≤(Zq l.length fun i=>encB (l.getD i 0)).length
  omega
theorem OR[Syms](l:List UInt8)(hl:l.length≤1000000):
 fnT Q7 Q7 (Qx fns) (Qo tys) (Qz plt) 100 46 [vB l] [] 0 (fun v H _=>v=vB l∧H=[]):=by
 cases l with
 |nil=>
  repeat' first|refine And.intro ?_ ?_|(intro h;try first|exact dz|replace h:=cv)
  all_goals try exact cz
  all_goals exact⟨_,VQ (k:=2) 1 encB 0 rfl,_,rfl,rfl,rfl⟩
 |cons a t=>exact He (a::t) hl (by simp)
end
noncomputable def UB(w:World):Inj:=⟨fun _=>none,fun g=>match w.heap[g]? with
 |some (.cells cs _ _)=>some cs
 |_=>none⟩
theorem B1{w:World}{g:Nat}{cs:Array Value}{e:TypeId}{z:Nat×Nat}(h:w.heap[g]?=some (.cells cs e z)):(UB w).fz g=some cs:=by
 simp only[UB,h]
theorem Pb{w:World}{g:Nat}{cs:Array Value}(h:(UB w).fz g=some cs):∃e z,w.heap[g]?=some (.cells cs e z):=by
 simp only[UB]at h
 split at h
 ·rename_i cs' e z h1
  cases h
  exact⟨e,z,h1⟩
 ·cases h
theorem N3[Syms](w:World):RelH (UB w) [] w:=⟨fun n b hb=>(by rw[Heap.get_nil]at hb;cases hb),fun n m b c L M hb=>(by rw[Heap.get_nil]at hb;cases hb),fun g cs hg=>⟨Pb hg,fun⟨n,b,L,h1,_⟩=>by rw[Heap.get_nil]at h1;cases h1⟩⟩
theorem El[Syms]{ι:Inj}{H:Heap}{w:World}(hH:RelH ι H w):ι.bare.le (UB w):=⟨fun _ _ h=>(nomatch h),fun g cs hg=>by
 obtain⟨⟨e,z,h⟩,_⟩:=hH.fz g cs hg
 exact B1 h⟩
theorem Rg[Syms]{α:Type}{enc:α→List AVal}(d:α)(he:∀a,∃k z,enc a=[.int k z]){ι:Inj}{H:Heap}{w:World}{n:Nat}{l:List α}{ro:Bool}{c:Option Nat}{v:Value}(hn:H.get n=some (.cells (l.map enc) ro))(hH:RelH ι H w)(hv:RelV ι (.slice n 0 l.length 1 c) v):RelV (UB w) (vT 1 enc d l) v:=by
 obtain⟨L,hL,hB⟩:=hH.blk n _ hn
 cases hv with
 |slice _ _ _ _ _ L' a k h hs ha hl hp hm hc=>
  rw[hL]at h
  cases h
  refine .vt _ _ _ _ ?_
  rw[Zx]
  rcases ha with h0|h0
  ·have hl0:l=[]:=List.eq_nil_of_length_eq_zero (by omega)
   subst hl0
   exact .vz 1 _ _ hm (fun h=>nomatch h)
  ·subst h0
   obtain⟨cs,et,fz,c1,c2,c3,c4,c5⟩:=hB
   have hlen:(l.map enc).length=l.length:=List.length_map ..
   have hat:∀(k:Nat) (row:List AVal),(l.map enc)[k]?=some row→ ∃kd z,row=[.int kd z]:=fun k row hr=>by
    obtain⟨a,_,rfl⟩:=List.mem_map.1 (List.mem_of_getElem? hr)
    exact he a
   have key:RelV (UB w) (.vs 1 (l.map enc)) (.slice (some ⟨L.g,L.base+0*L.size,none⟩) (l.map enc).length k):=by
    refine .vs 1 (l.map enc) L.g (L.base+0*L.size) k cs (B1 c1) (by omega) hm (by rw[hs]at *;omega) (fun j row hr=>?_) (fun k j v hk hj hv=>?_) (fun k j row x v hr hj hv=>?_)
    ·obtain⟨kd,z,rfl⟩:=hat j row hr
     rfl
    ·have hj0:j=0:=by omega
     subst hj0
     have hr:(l.map enc)[k]?=some ((l.map enc)[k]):=List.getElem?_eq_getElem hk
     obtain⟨kd,z,hz⟩:=hat k _ hr
     rw[hz]at hr
     obtain⟨v',q1,q2,q3⟩:=(c4 k _ hr).2 0 (.int kd z) rfl
     rw[hs]at q1 hv
     have:L.base+0*1+k*1+0=L.base+k*1+0:=by omega
     rw[this,q1]at hv
     cases hv
     exact q2
    ·obtain⟨v',q1,q2,q3⟩:=(c4 k row hr).2 j x hj
     rw[hs]at q1 hv
     have:L.base+0*1+k*1+j=L.base+k*1+j:=by omega
     rw[this,q1]at hv
     cases hv
     obtain⟨kd,z,rfl⟩:=hat k row hr
     have hx:x= .int kd z:=by
      cases j with
      |zero=>simp at hj;exact hj.symm
      |succ j=>simp at hj
     subst hx
     cases q3
     exact .int _ _
   rwa [hlen]at key
inductive BArg(H:Heap):AVal→AVal→Prop
 |imm (v:AVal) (h:v.imm=true):BArg H v v
 |see (v v':AVal) (h:v.imm=true) (hw:WkV v v'):BArg H v v'
 |own (α:Type) (enc:α→List AVal) (d:α) (he:∀a,∃k z,enc a=[.int k z]) (n:Nat) (l:List α) (ro:Bool) (c:Option Nat) (h:H.get n=some (.cells (l.map enc) ro)):BArg H (.slice n 0 l.length 1 c) (vT 1 enc d l)
 |nil (α:Type) (enc:α→List AVal) (d:α):BArg H .nils (vT 1 enc d [])
theorem BArg.byt{H:Heap}{n len:Nat}{l:List UInt8}{ro:Bool}{c:Option Nat}{rows:List (List AVal)}(h:H.get n=some (.cells rows ro))(hr:rows=l.map encB)(hl:len=l.length):BArg H (.slice n 0 len 1 c) (vB l):=by
 subst hr hl;exact .own _ encB 0 (fun a=>⟨_,_,rfl⟩) n l ro c h
def Er(H:Heap):List AVal→List AVal→Prop
 |[],[]=>True
 |a::l,b::m=>BArg H a b∧Er H l m
 |_,_=>False
theorem Er.rel[Syms]{ι:Inj}{H:Heap}{w:World}(hH:RelH ι H w):∀{xs ys:List AVal} {vs:List Value},Er H xs ys→QQ ι xs vs→QQ (UB w) ys vs
 |[],[],vs,_,h=>by rw[h.unnil];exact .nil _
 |[],_::_,vs,h,_=>h.elim
 |_::_,[],vs,h,_=>h.elim
 |a::xs,b::ys,vs,h,hr=>by
  obtain⟨v,vs',rfl,h1,h2⟩:=hr.uncons
  refine .cons ?_ (h.2.rel hH h2)
  cases h.1 with
  |imm _ hi=>exact(h1.imm (κ:=ι) (fun _ _ h=>h) hi).mono (El hH)
  |see _ _ hi hw=>exact(hw.rel (h1.imm (κ:=ι) (fun _ _ h=>h) hi)).mono (El hH)
  |own α enc d he n l ro c hn=>exact Rg d he hn hH h1
  |nil α enc d=>exact .vt _ _ _ _ (RelV.isZ (sz:=1) rfl h1)
def Bn(l:List UInt8):AVal→Heap→Nat→Prop:=fun v H _=>v= .slice 0 0 l.length 1 none∧H=[(0,some (.cells (l.map encB) false))]
theorem NP[Syms]{P:Program}{f:FuncId}{args args':List AVal}{l:List UInt8}{H:Heap}{nx:Nat}(ha:Er H args args')(h:XF P f args' [] 0 (Bn l)):
 Gj P f args H nx (.slice nx 0 l.length 1 none) (H.set nx (some (.cells (l.map encB) false))) (nx+1):=by
 intro ι w vs hvs hH hb
 refine(h.2 (UB w) w vs (ha.rel hH hvs) (N3 w) (fun n L hn=>nomatch hn)).mono ?_
 rintro e w' ⟨v',H',nx',r,κ,⟨rfl,rfl⟩,rfl,hr,hH',hst,hbd,_⟩
 have noOwn:∀g,¬Own (UB w) [] g:=fun g ⟨n,b,L,h1,_⟩=>by rw[Heap.get_nil]at h1;cases h1
 have same:∀g,g<w.heap.size→w'.heap[g]?=w.heap[g]?:=fun g hg=>hst.same g hg (noOwn g)
 have h00:Heap.get [(0,some (Blk.cells (l.map encB) false))] 0=some (.cells (l.map encB) false):=rfl
 obtain⟨L0,hL0,hB0⟩:=hH'.blk 0 _ h00
 have hnew:w.heap.size≤L0.g:=by
  rcases hst.own L0.g ⟨0,_,L0,h00,rfl,hL0,rfl⟩with h|h
  ·exact absurd h (noOwn _)
  ·exact h
 let μ:Inj:=⟨fun n=>if n<nx then ι n else if n=nx then κ 0 else none,ι.fz⟩
 have mold:∀n,n<nx→μ n=ι n:=fun n hn=>if_pos hn
 have mnew:μ nx=some L0:=(if_neg (Nat.lt_irrefl _)).trans ((if_pos rfl).trans hL0)
 have hle:ι.le μ:=⟨fun n L hn=>(mold n (hb n L hn).1).trans hn,fun _ _ h=>h⟩
 have mloc:∀n L,μ n=some L→(n<nx∧ι n=some L)∨(n=nx∧L=L0):=fun n L hn=>by
  by_cases h1:n<nx
  ·exact .inl ⟨h1,(mold n h1)▸hn⟩
  ·by_cases h2:n=nx
   ·subst h2;rw[mnew]at hn;exact .inr ⟨rfl,(Option.some.inj hn).symm⟩
   ·have:μ n=none:=(if_neg h1).trans (if_neg h2)
    rw[this]at hn;cases hn
 have hget:∀n b,(H.set nx (some (.cells (l.map encB) false))).get n=some b→(n=nx∧b= .cells (l.map encB) false)∨(n≠nx∧H.get n=some b):=fun n b hn=>by
  rw[Heap.get_set]at hn
  split at hn
  ·exact .inl ⟨by simp_all,(Option.some.inj hn).symm⟩
  ·exact .inr ⟨by simp_all,hn⟩
 have hlt:∀n b L,H.get n=some b→μ n=some L→n<nx∧ι n=some L∧L.g<w.heap.size:=fun n b L hn hL=>by
  obtain⟨L',h1,_⟩:=hH.blk n b hn
  have:=hb n L' h1
  rcases mloc n L hL with⟨q1,q2⟩|⟨q1,q2⟩
  ·exact⟨q1,q2,(hb n L q2).2⟩
  ·omega
 have ownl:∀g,Own μ (H.set nx (some (.cells (l.map encB) false))) g→Own ι H g∨w.heap.size≤g:=fun g ⟨n,b,L,k1,k2,k3,k4⟩=>by
  rcases hget n b k1 with⟨rfl,_⟩|⟨_,k5⟩
  ·rw[mnew]at k3;cases k3;exact .inr (k4▸hnew)
  ·exact .inl ⟨n,b,L,k5,k2,(hlt n b L k5 k3).2.1,k4⟩
 refine⟨r,μ,rfl,?_,⟨fun n b hn=>?_,fun n m b c L M hn hm hL hM hg=>?_,fun g cs hg=>?_⟩,⟨⟨hle,hst.os,hst.tape,hst.output,hst.size,fun g hg _=>same g hg,ownl,fun g cs hg=>.inl hg⟩,Nat.le_succ _,fun n L hn=>?_⟩,fun n L hn=>?_⟩
 ·cases hr with
  |slice _ _ _ _ _ L a k h hs ha hl hp hm hc=>
   rw[hL0]at h
   cases h
   exact .slice _ _ _ _ _ L0 a k mnew hs ha hl hp hm hc
 ·rcases hget n b hn with⟨rfl,rfl⟩|⟨_,k5⟩
  ·refine⟨L0,mnew,?_⟩
   obtain⟨cs,et,fz,c1,c2,c3,c4,c5⟩:=hB0
   refine⟨cs,et,fz,c1,c2,c3,fun k row hr=>⟨(c4 k row hr).1,fun j x hx=>?_⟩,c5⟩
   obtain⟨v,q1,q2,q3⟩:=(c4 k row hr).2 j x hx
   refine⟨v,q1,q2,?_⟩
   obtain⟨a,_,rfl⟩:=List.mem_map.1 (List.mem_of_getElem? hr)
   have hx:x= .int .u8 a.toNat:=by
    cases j with
    |zero=>simp[encB]at hx;exact hx.symm
    |succ j=>simp[encB]at hx
   subst hx
   cases q3
   exact .int _ _
  ·obtain⟨L,h1,h2⟩:=hH.blk n b k5
   exact⟨L,hle.1 _ _ h1,h2.keep hle (same _ (hb n L h1).2)⟩
 ·rcases hget n b hn with⟨rfl,rfl⟩|⟨_,k5⟩<;>rcases hget m c hm with⟨rfl,rfl⟩|⟨_,k6⟩
  ·exact .inl rfl
  ·rw[mnew]at hL;cases hL
   have:=(hlt m c M k6 hM).2.2;omega
  ·rw[mnew]at hM;cases hM
   have:=(hlt n b L k5 hL).2.2;omega
  ·exact hH.inj n m b c L M k5 k6 (hlt n b L k5 hL).2.1 (hlt m c M k6 hM).2.1 hg
 ·obtain⟨⟨et,z,h1⟩,h2⟩:=hH.fz g cs hg
  have hg':g<w.heap.size:=by
   rcases Nat.lt_or_ge g w.heap.size with h|h
   ·exact h
   ·rw[Array.getElem?_eq_none h]at h1;cases h1
  refine⟨⟨et,z,(same g hg').trans h1⟩,fun ho=>?_⟩
  rcases ownl g ho with h|h
  ·exact h2 h
  ·omega
 ·rcases mloc n L hn with⟨_,h⟩|⟨h,_⟩
  ·exact .inl h
  ·exact .inr (by omega)
 ·rcases mloc n L hn with⟨h1,h2⟩|⟨h1,h2⟩
  ·exact⟨by omega,Nat.lt_of_lt_of_le (hb n L h2).2 hst.size⟩
  ·subst h2;exact⟨by omega,(hbd 0 _ hL0).2⟩
abbrev SpecY:=List AVal→(List UInt8→Prop)→Prop
def JF[Syms](P:Program)(f:FuncId)(S:SpecY):Prop:=∀args K,S args K→ ∃l,K l∧XF P f args [] 0 (Bn l)
def U8(S:SpecY):CallT:=fun _ args H nx K=>∃args',Er H args args'∧S args' fun l=>K (.slice nx 0 l.length 1 none) (H.set nx (some (.cells (l.map encB) false))) (nx+1)
theorem Xc[Syms]{P:Program}{n:Nat}{S:SpecY}{d:CallT}(hS:JF P n S)(hd:d.det P):(Q6 n (U8 S) d).det P:=by
 intro f args H nx K h
 unfold Q6 at h
 cases hf:Nat.beq f n with
 |true=>
  rw[hf]at h
  have:=Nat.eq_of_beq_eq_true hf
  subst this
  obtain⟨args',ha,h⟩:=h
  obtain⟨l,h3,h4⟩:=hS args' _ h
  exact⟨_,_,_,h4.1,NP ha h4,h3⟩
 |false=>rw[hf]at h;exact hd f args H nx K h
theorem Wu[Syms]{P:Program}{n:Nat}{S:SpecY}{d:CallT}(hS:JF P n S)(hd:d.ok P):(Q6 n (U8 S) d).ok P:=by
 intro f args H nx K h
 unfold Q6 at h
 cases hf:Nat.beq f n with
 |true=>
  rw[hf]at h
  have hd':(Q6 f (U8 S) Q7).det P:=Xc (Nat.eq_of_beq_eq_true hf▸hS) Q3
  refine hd'.ok f args H nx K ?_
  unfold Q6
  rw[Nat.beq_refl]
  exact h
 |false=>rw[hf]at h;exact hd f args H nx K h
section
set_option maxRecDepth 100000
set_option maxHeartbeats 4000000
theorem Tf:∀y:Fin 256,(y.val ||| 128)=y.val%128+128:=by decide
theorem Q0r(x:Nat):(IntKind.u8.wrap (((BitVec.ofInt 8 (wr .u8 (x:Int)) ||| BitVec.ofInt 8 128).toNat:Nat):Int))=(((UInt8.ofNat (x%128+128)).toNat:Nat):Int):=by
 have hw:wr .u8 (x:Int)=((x%256:Nat):Int):=by
  by_cases h:x<256
  ·rw[Nat.mod_eq_of_lt h]
   exact if_pos ⟨by show(0:Int)≤_;omega,by show _≤(255:Int);omega⟩
  ·refine(if_neg fun hh=>?_).trans ?_
   ·have:(x:Int)≤255:=hh.2;omega
   ·show IntKind.wrap _ _=_
    simp[IntKind.wrap,IntKind.bits,IntKind.signed]
 rw[hw]
 have h1:(BitVec.ofInt 8 ((x%256:Nat):Int) ||| BitVec.ofInt 8 128).toNat=x%256%128+128:=by
  rw[BitVec.toNat_or]
  have e1:(BitVec.ofInt 8 ((x%256:Nat):Int)).toNat=x%256:=by simp;omega
  have e2:(BitVec.ofInt 8 128).toNat=128:=by decide
  rw[e1,e2]
  exact Tf ⟨x%256,Nat.mod_lt _ (by decide)⟩
 rw[h1,KU (by omega)]
 rw[show x%256%128=x%128 by omega]
 have hlt:x%128<128:=Nat.mod_lt _ (by decide)
 generalize x%128=y at *
 simp[IntKind.wrap,IntKind.bits,IntKind.signed]
 omega
theorem wr8(x:Nat)(h:x<128):wr .u8 (x:Int)=(((UInt8.ofNat x).toNat:Nat):Int):=by
 rw[KU (by omega)]
 exact if_pos ⟨by show(0:Int)≤_;omega,by show _≤(255:Int);omega⟩
theorem shr7(x:Nat):(x:Int).fdiv 128=((x/128:Nat):Int):=by
 rw[Int.fdiv_eq_ediv_of_nonneg _ (by decide)];omega
theorem ZR[Syms]{l:List UInt8}{N:Nat}{e:Env}{H:Heap}{nx k n len:Nat}{cap:Option Nat}{rows:List (List AVal)}(hn:QJ 0 nx [n]=true)(hk:e.get k= .slice n 0 len 1 cap)(hb:H.get n=some (.cells rows false))(hr:rows=l.map encB)(hl:len=l.length):
 Reb 0 N ⟨e,H,nx⟩ ⟨[(k,.slice 0 0 l.length 1 none)],[(0,some (.cells (l.map encB) false))],1⟩:=by
 subst hr hl
 exact Q0 [n] hn ⟨by rw[hk];exact Q8 rfl,trivial⟩ ⟨⟨Nat.zero_lt_one,_,hb,Q2 rfl (fB _)⟩,trivial⟩
theorem Wj{o o':List UInt8}(h:o=o'):(AVal.slice 0 0 o.length 1 none= .slice 0 0 o'.length 1 none)∧[((0:Nat),some (Blk.cells (o.map encB) false))]=[(0,some (.cells (o'.map encB) false))]:=by subst h;exact⟨rfl,rfl⟩
theorem Rc{x:Nat}(h:x<128):∀m,GQ m x=[UInt8.ofNat x]
 |0=>rfl
 |m+1=>by rw[GQ,if_pos h]
theorem Q0i(o:List UInt8)(x:Nat)(h:x<128):List.take o.length (List.drop 0 (o.map encB))++List.take 1 (List.drop 0 [[AVal.int .u8 (wr .u8 (x:Int))]])=(o++[UInt8.ofNat x]).map encB:=by
 rw[wr8 x h,List.drop_zero,List.take_of_length_le (by simp),List.map_append];rfl
end
section
set_option maxRecDepth 100000
set_option maxHeartbeats 4000000
theorem CN:∀(i v:Nat),leB (i+1) v=leB i v++[UInt8.ofNat (v/256^i%256)]
 |0,v=>by simp[leB]
 |i+1,v=>by
  rw[leB,CN i (v/256),leB,List.cons_append,Nat.div_div_eq_div_mul,Nat.pow_succ,Nat.mul_comm 256]
theorem wr8m(x:Nat):wr .u8 (x:Int)=(((UInt8.ofNat (x%256)).toNat:Nat):Int):=by
 rw[KU (by omega)]
 by_cases h:x<256
 ·rw[Nat.mod_eq_of_lt h]
  exact if_pos ⟨by show(0:Int)≤_;omega,by show _≤(255:Int);omega⟩
 ·refine(if_neg fun hh=>?_).trans ?_
  ·have:(x:Int)≤255:=hh.2;omega
  ·show IntKind.wrap _ _=_
   simp[IntKind.wrap,IntKind.bits,IntKind.signed]
theorem shrB(v i:Nat)(h:i<8):wr .u8 ((v:Int).fdiv (2^min ((8*(i:Int)).toNat) 64))=(((UInt8.ofNat (v/256^i%256)).toNat:Nat):Int):=by
 have h1:(8*(i:Int))=((8*i:Nat):Int):=by omega
 have h2:((v:Int).fdiv (2^(8*i)))=((v/256^i:Nat):Int):=by
  have e:(2:Int)^(8*i)=((256^i:Nat):Int):=by
   rw[show(256:Nat)=2^8 from rfl,←Nat.pow_mul,Int.natCast_pow];rfl
  rw[e]
  exact(Int.fdiv_eq_ediv_of_nonneg _ (Int.natCast_nonneg _)).trans (Int.natCast_ediv _ _).symm
 rw[h1,Int.toNat_natCast,Nat.min_eq_left (by omega),h2]
 exact wr8m _
theorem wrI{x:Int}(h:-9223372036854775808≤x∧x≤9223372036854775807):wr .i64 x=x:=if_pos h
end
section
set_option maxRecDepth 100000
set_option maxHeartbeats 4000000
theorem Re{i:Nat}(h:i≤9):2^(7*i)≤2^63:=Nat.pow_le_pow_right (by decide) (by omega)
theorem I6{y i:Nat}(hi:i≤9)(hy:y<128)(hx:i=9→y≤1):(y+1)*2^(7*i)≤2^64:=by
 by_cases h:i=9
 ·have:=hx h
  subst h
  have:(y+1)*2^(7*9)≤2*2^(7*9):=Nat.mul_le_mul_right _ (by omega)
  omega
 ·have h1:2^(7*i)≤2^56:=Nat.pow_le_pow_right (by decide) (by omega)
  have:(y+1)*2^(7*i)≤128*2^56:=Nat.mul_le_mul (by omega) h1
  omega
theorem KD{n:Nat}(h:n<2^64):wr .u64 (n:Int)=(n:Int):=if_pos ⟨by show(0:Int)≤_;omega,by show _≤(18446744073709551615:Int);omega⟩
theorem shlV(x i:Nat)(hi:i≤9)(hx:i=9→x≤1):wr .u64 ((((x%128:Nat):Int))*2^min ((7*(i:Int)).toNat) 64)=((x%128*2^(7*i):Nat):Int):=by
 have h1:(7*(i:Int)).toNat=7*i:=by omega
 have h2:=I6 (y:=x%128) hi (by omega) (fun h=>by have:=hx h;omega)
 have hp:0<2^(7*i):=Nat.pow_pos (by decide)
 rw[Nat.add_mul,Nat.one_mul]at h2
 rw[h1,Nat.min_eq_left (by omega),←KD (n:=x%128*2^(7*i)) (by omega)]
 congr 1
theorem orV(v x i:Nat)(hv:v<2^(7*i))(hi:i≤9)(hx:i=9→x≤1):
 IntKind.u64.wrap (((BitVec.ofInt 64 (v:Int) ||| BitVec.ofInt 64 ((x%128*2^(7*i):Nat):Int)).toNat:Nat):Int)=((v+x%128*2^(7*i):Nat):Int):=by
 have h2:=I6 (y:=x%128) hi (by omega) (fun h=>by have:=hx h;omega)
 have hp:0<2^(7*i):=Nat.pow_pos (by decide)
 have h3:=Re hi
 rw[Nat.add_mul,Nat.one_mul]at h2
 have hm:∀n:Nat,n<2^64→(BitVec.ofInt 64 (n:Int)).toNat=n:=fun n hn=>by simp;omega
 have ho:(BitVec.ofInt 64 (v:Int) ||| BitVec.ofInt 64 ((x%128*2^(7*i):Nat):Int)).toNat=v+x%128*2^(7*i):=by
  rw[BitVec.toNat_or,hm v (by omega),hm _ (by omega),←Nat.shiftLeft_eq,Nat.or_comm,←Nat.shiftLeft_add_eq_or_of_lt hv,Nat.add_comm]
 rw[ho]
 generalize hn:v+x%128*2^(7*i)=n
 have hn64:n<2^64:=by omega
 simp[IntKind.wrap,IntKind.bits,IntKind.signed]
 try omega
theorem Sq(v x i:Nat)(hv:v<2^(7*i))(hi:i≤9)(hx:i=9→x≤1):
 IntKind.u64.wrap (((BitVec.ofInt 64 (v:Int) ||| BitVec.ofInt 64 (wr .u64 (wr .u64 ((x:Int).tmod 128)*2^min ((7*(i:Int)).toNat) 64))).toNat:Nat):Int)=((v+x%128*2^(7*i):Nat):Int):=by
 rw[show(x:Int).tmod 128=((x%128:Nat):Int) from rfl,KD (n:=x%128) (by omega),shlV x i hi hx,orV v x i hv hi hx]
theorem P6{v x i:Nat}(hv:v<2^(7*i)):v+x%128*2^(7*i)<2^(7*(i+1)):=by
 have h:(x%128+1)*2^(7*i)≤128*2^(7*i):=Nat.mul_le_mul_right _ (by omega)
 have e:2^(7*(i+1))=128*2^(7*i):=by rw[Nat.mul_succ,Nat.pow_add];omega
 rw[Nat.add_mul,Nat.one_mul]at h
 omega
theorem OH(c:UInt8):(encB c).getD 0 .any= .int .u8 c.toNat:=rfl
def gvS(b:List UInt8)(i v:Nat):St:=⟨[(2,.int .u64 v),(3,.int .i64 0),(4,.int .i64 0),(7,vB b),(8,.int .i64 b.length),(9,.int .i64 i)],[],0⟩
def Fl(r:Nat×Nat×Int):AVal:=.tup [.int .u64 r.1,.int .i64 r.2.1,.int .i64 r.2.2]
theorem Q0z[Syms](b:List UInt8)(hl:b.length≤1000000):
 fnT Q7 Q7 (Qx fns) (Qo tys) (Qz plt) 100 79 [vB b] [] 0 (fun v H _=>v=Fl (QW b 0 0)∧H=[]):=by
 refine⟨fun m s=>∃i v:Nat,(i≤b.length∧i≤9∧m=b.length-i∧v<2^(7*i)∧QW (b.drop i) i v=QW b 0 0)∧s=gvS b i v,⟨_,gvS b 0 0,Q1 [2,3,4,7,8,9] rfl,0,0,⟨by omega,by omega,rfl,by decide,rfl⟩,rfl⟩,?_⟩
 rintro m s ⟨i,v,⟨hi,hi10,rfl,hv,hg⟩,rfl⟩
 by_cases h1:i<b.length
 ·have hd:b.drop i=b.getD i 0::b.drop (i+1):=by
   rw[List.drop_eq_getElem_cons h1,List.getD_eq_getElem?_getD,List.getElem?_eq_getElem h1];rfl
  rw[hd,QW]at hg
  have hx8:(b.getD i 0).toNat<256:=(b.getD i 0).toNat_lt
  generalize hx:(b.getD i 0).toNat=x at *
  have hx1:=OH
  have hx2:=hx
  have hx3:=hx
  have hx4:((i:Nat):Int).toNat=i:=Int.toNat_natCast i
  by_cases h2:i=9∧1<x
  ·rw[if_pos h2]at hg
   obtain⟨h29,h2⟩:=h2
   repeat' first|refine And.intro ?_ ?_|(intro h;try first|exact dzi|replace h:=cvi)
   all_goals try exact cz
   exact⟨_,Q1 [2,3,4] rfl,_,rfl,congrArg Fl hg,rfl⟩
  ·rw[if_neg h2]at hg
   by_cases h3:x<128
   ·rw[if_pos h3]at hg
    by_cases h4:x=0∧0<i
    ·rw[if_pos h4]at hg
     obtain⟨h4,h5⟩:=h4
     repeat' first|refine And.intro ?_ ?_|(intro h;try first|exact dzi|replace h:=cvi)
     all_goals try exact cz
     all_goals exact⟨_,Q1 [2,3,4] rfl,_,rfl,congrArg Fl hg,rfl⟩
    ·rw[if_neg h4]at hg
     repeat' first|refine And.intro ?_ ?_|(intro h;try first|exact dzi|replace h:=cvi)
     all_goals try exact cz
     all_goals refine⟨⟨[(2,.int .u64 ((v+x%128*2^(7*i):Nat):Int)),(3,.int .i64 ((i+1:Nat):Int)),(4,.int .i64 0)],[],0⟩,Q0 [] rfl ⟨Qm ?_,Qm (by omega),.refl _,trivial⟩ trivial,_,rfl,congrArg Fl hg,rfl⟩
     all_goals(subst hx;exact Sq v (b.getD i 0).toNat i hv hi10 (by omega))
   ·rw[if_neg h3]at hg
    repeat' first|refine And.intro ?_ ?_|(intro h;try first|exact dzi|replace h:=cvi)
    all_goals try exact cz
    refine⟨_,gvS b (i+1) (v+x%128*2^(7*i)),Q0 [] rfl ⟨Qm ?_,.refl _,.refl _,.refl _,.refl _,Qm (by omega),trivial⟩ trivial,⟨i+1,_,⟨by omega,by omega,rfl,?_,hg⟩,rfl⟩,by omega⟩
    ·subst hx;exact Sq v (b.getD i 0).toNat i hv hi10 (by omega)
    ·exact P6 hv
 ·obtain rfl:i=b.length:=by omega
  rw[List.drop_length,QW]at hg
  repeat' first|refine And.intro ?_ ?_|(intro h;try first|exact dz|replace h:=cv)
  all_goals try exact cz
  exact⟨_,Q1 [2,3,4] rfl,_,rfl,congrArg Fl hg,rfl⟩
def S_get:SpecI:=fun args K=>∃b,args=[vB b]∧b.length≤1000000∧K (Fl (QW b 0 0))
theorem Om[Syms]:Zs Try.prog 79 S_get:=by
 rintro args K ⟨b,rfl,h,hk⟩
 exact⟨rfl,_,rfl,hk,fnI Qf Qg Q3 Q9 Qw (Q0z b h)⟩
end
structure Nam(fs:List Fd):Prop where
 pos:0<fs.length
 le:fs.length≤14
 root:(fs.getD 0 default).name=[109]
 at':∀j,1≤j→j<fs.length→(fs.getD j default).name=nmM (j-1)∧j≤12∨((fs.getD j default).name=[122]∧j+1=fs.length)
theorem UM(fs:List Fd)(a j:Nat):((XM fs a).getD j default).name=(fs.getD j default).name:=by
 unfold XM
 rw[List.getD_eq_getElem?_getD,List.getD_eq_getElem?_getD,List.getElem?_set]
 split
 ·rename_i h;subst h
  split
  ·rename_i h;simp[h]
  ·rename_i h;simp[Nat.le_of_not_lt h]
 ·rfl
theorem J1{fs:List Fd}{a:Nat}{m:Int}(h:∀j,(fs.getD j default).kids≤m)(j:Nat):((XM fs a).getD j default).kids≤m+1:=by
 unfold XM
 rw[List.getD_eq_getElem?_getD,List.getElem?_set]
 have hj:=h j
 rw[List.getD_eq_getElem?_getD]at hj
 split
 ·rename_i e;subst e
  split
  ·have:=h a;simp;omega
  ·rename_i hh;simp[Nat.le_of_not_lt hh]at hj ⊢;omega
 ·omega
theorem Xu{α:Type}{l:List α}{x d:α}{j:Nat}(h:j<l.length):(l++[x]).getD j d=l.getD j d:=by
 simp[List.getD_eq_getElem?_getD,List.getElem?_append_left h]
theorem Yu{α:Type}{l:List α}{x d:α}:(l++[x]).getD l.length d=x:=by
 simp[List.getD_eq_getElem?_getD]
structure MkI(i:Nat)(fs:List Fd)(op:List Int):Prop where
 len:fs.length=i+1
 root:(fs.getD 0 default).name=[109]
 nm:∀j,1≤j→j<fs.length→(fs.getD j default).name=nmM (j-1)
 kids:∀j,(fs.getD j default).kids≤i
 rep:∀f∈fs,0≤f.rep∧f.rep≤2∧0≤f.kind∧f.kind≤4
theorem Og{fs:List Fd}{a:Nat}{f:Fd}(h:∀f∈fs,0≤f.rep∧f.rep≤2∧0≤f.kind∧f.kind≤4)(hf:f∈XM fs a):0≤f.rep∧f.rep≤2∧0≤f.kind∧f.kind≤4:=by
 rcases List.mem_or_eq_of_mem_set hf with hf|rfl
 ·exact h f hf
 ·by_cases ha:a<fs.length
  ·exact h (fs.getD a default) (by simp[List.getD_eq_getElem?_getD,ha])
  ·simp[List.getD_eq_getElem?_getD,Nat.le_of_not_lt ha]
   decide
theorem CQ(op:List Int)(x:Int):0≤Yg op x∧Yg op x≤4:=by
 obtain⟨h1,h2⟩:=Vt (a:=x) (n:=8) (by decide)
 have h3:(wi x 8).tmod 5=wi x 8%5:=Int.tmod_eq_emod_of_nonneg h1
 unfold Yg
 split<;>omega
theorem O0{ns:List Int}{i:Nat}{fs:List Fd}{op:List Int}(h:MkI i fs op)(x:Int):MkI (i+1) (Yb fs op i x).1 (Yb fs op i x).2:=by
 have hl:=h.len
 obtain⟨w1,w2⟩:=Vt (a:=wr .i64 (x.tdiv 8)) (n:=3) (by decide)
 refine⟨by simp[Yb,Qe,hl],?_,?_,?_,?_⟩
 ·simp only[Yb]
  rw[Xu (by rw[Qe];omega),UM];exact h.root
 ·intro j h1 h2
  simp only[Yb]at h2 ⊢
  simp[Qe]at h2
  by_cases hj:j<fs.length
  ·rw[Xu (by rw[Qe];exact hj),UM];exact h.nm j h1 hj
  ·obtain rfl:j=fs.length:=by omega
   rw[←Qe fs (Xg (Uj fs (wi (wr .i64 (x.tdiv 64)) 3).toNat op)).toNat,Yu]
   simp only[H9,Qe,hl];rfl
 ·intro j
  simp only[Yb]
  by_cases hj:j<fs.length
  ·rw[Xu (by rw[Qe];exact hj)]
   have:=J1 (a:=(Xg (Uj fs (wi (wr .i64 (x.tdiv 64)) 3).toNat op)).toNat) h.kids j
   omega
  ·by_cases hj':j=fs.length
   ·subst hj'
    rw[←Qe fs (Xg (Uj fs (wi (wr .i64 (x.tdiv 64)) 3).toNat op)).toNat,Yu]
    simp only[H9];omega
   ·rw[List.getD_eq_getElem?_getD,List.getElem?_eq_none (by simp[Qe];omega)]
    show(0:Int)≤_;omega
 ·intro f hf
  simp only[Yb]at hf
  rcases List.mem_append.1 hf with hf|hf
  ·exact Og h.rep hf
  ·simp only[List.mem_singleton]at hf;subst hf
   have:=CQ (Uj fs (wi (wr .i64 (x.tdiv 64)) 3).toNat op) x
   simp only[H9];omega
theorem I8{ns:List Int}:∀(n i:Nat) (fs:List Fd) (op:List Int),MkI i fs op→n+i=12→ ∃m,m≤12∧MkI m (Yd ns n i fs op).1 (Yd ns n i fs op).2
 |0,i,fs,op,h,hn=>⟨i,by omega,h⟩
 |n+1,i,fs,op,h,hn=>by
  rw[Yd]
  split
  ·exact I8 n (i+1) _ _ (O0 (ns:=ns) h _) (by omega)
  ·exact⟨i,by omega,h⟩
theorem I9(ns:List Int):∃m,m≤12∧MkI m (Yd ns 12 0 fs0 [0]).1 (Yd ns 12 0 fs0 [0]).2:=by
 refine I8 12 0 _ _ ⟨rfl,rfl,fun j h1 h2=>?_,fun j=>?_,?_⟩ rfl
 ·simp at h2;omega
 ·match j with
  |0=>exact Int.le_refl _
  |j+1=>exact Int.le_refl _
 ·intro f hf;simp only[List.mem_singleton]at hf;subst hf;decide
theorem O4(ns:List Int):Nam (QN ns):=by
 obtain⟨m,hm,h⟩:=I9 ns
 have hl:=h.len
 simp only[QN]
 generalize(Yd ns 12 0 fs0 [0]).1=fs at *
 generalize(Yd ns 12 0 fs0 [0]).2=op at *
 unfold YO
 split
 ·refine⟨by simp,by simp[Qe];omega,by rw[Xu (by rw[Qe];omega),UM];exact h.root,fun j h1 h2=>?_⟩
  simp[Qe]at h2
  by_cases hj:j<fs.length
  ·left
   rw[Xu (by rw[Qe];exact hj),UM];exact⟨h.nm j h1 hj,by omega⟩
  ·right
   obtain rfl:j=fs.length:=by omega
   refine⟨?_,by simp[Qe]⟩
   rw[←Qe fs (Xg op).toNat,Yu]
 ·exact⟨by omega,by omega,h.root,fun j h1 h2=>.inl ⟨h.nm j h1 h2,by omega⟩⟩
theorem Dy(ns:List Int)(j:Nat):((QN ns).getD j default).kids≤13:=by
 obtain⟨m,hm,h⟩:=I9 ns
 simp only[QN]
 generalize(Yd ns 12 0 fs0 [0]).1=fs at *
 generalize(Yd ns 12 0 fs0 [0]).2=op at *
 unfold YO
 split
 ·by_cases hj:j<fs.length
  ·rw[Xu (by rw[Qe];exact hj)]
   have:=J1 (a:=(Xg op).toNat) h.kids j
   omega
  ·by_cases hj':j=fs.length
   ·subst hj'
    rw[←Qe fs (Xg op).toNat,Yu]
    decide
   ·rw[List.getD_eq_getElem?_getD,List.getElem?_eq_none (by simp[Qe];omega)]
    decide
 ·have:=h.kids j;omega
theorem Nam.len1{fs:List Fd}(h:Nam fs)(j:Nat):(fs.getD j default).name.length≤1:=by
 by_cases hj:j<fs.length
 ·by_cases h0:j=0
  ·subst h0;rw[h.root];decide
  ·rcases h.at' j (by omega) hj with⟨e,_⟩|⟨e,_⟩<;>rw[e]<;>simp[nmM]
 ·rw[List.getD_eq_getElem?_getD,List.getElem?_eq_none (by omega)]
  decide
theorem Ib(ns:List Int):FsOk (QN ns):=by
 have h:=O4 ns
 exact⟨by have:=h.le;omega,fun i=>by have:=Dy ns i;omega,fun i=>by have:=h.len1 i;omega⟩
theorem Rh:∀i,i<12→ ∀k,k<12→nmM i=nmM k→i=k:=by decide
theorem Su:∀i,i<12→nmM i≠[122]:=by decide
theorem Nam.inj{fs:List Fd}(h:Nam fs){i k:Nat}(h1:1≤i)(h2:i<fs.length)(h3:1≤k)(h4:k<fs.length)(e:(fs.getD i default).name=(fs.getD k default).name):i=k:=by
 rcases h.at' i h1 h2 with⟨a,a'⟩|⟨a,a'⟩<;>rcases h.at' k h3 h4 with⟨b,b'⟩|⟨b,b'⟩
 ·rw[a,b]at e
  have:=Rh _ (by omega) _ (by omega) e
  omega
 ·rw[a,b]at e;exact absurd e (Su _ (by omega))
 ·rw[a,b]at e;exact absurd e.symm (Su _ (by omega))
 ·omega
theorem Nam.one{fs:List Fd}(h:Nam fs){i:Nat}(h1:1≤i)(h2:i<fs.length):∃b,(fs.getD i default).name=[b]:=by
 rcases h.at' i h1 h2 with⟨a,_⟩|⟨a,_⟩
 ·exact⟨_,a⟩
 ·exact⟨_,a⟩
end Go.Proofs.Ytajieadpaeggcaa
