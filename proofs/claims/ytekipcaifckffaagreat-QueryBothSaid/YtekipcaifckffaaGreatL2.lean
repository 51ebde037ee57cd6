/-
  'known' of chapter 21:as it was run. Shapes of records as plain data,and how they are laid out;what it is to walk over one. Plain. 'twin':has a field ahead in the same group that name? 'Parents':the places of fields' groups. 'Path':a field's names,from the way's beginning;the parents' places lie ahead. 'Make':a shape,of raw numbers. The names of a shape of raw numbers,and its paths:no two are the same. Plain. Leaves:how far each field is repeated and defined. Plain. Records as plain trees;and what 'Make' of chapter 8 makes of raw numbers. Plain. 'Make':a shape,of raw numbers. Small facts of rows,for the symbolic runs. Plain. The maker of records:its next raw number;'within' of chapter 8. 'Path':a field's names,from the way's beginning.
-/
import Derived.Test.YtekipcaifckffaaGreatQKno
import Derived.Test.YtekipcaifckffaaGreatSxOne
import Derived.Test.YtekipcaifckffaaGreatTab
import Derived.Test.YtekipcaifckffaaGreatWithin
set_option linter.unusedVariables false
set_option linter.unusedSimpArgs false
namespace Go.Proofs.YtekipcaifckffaaGreat
open Go Go.Av
theorem BH[Syms]{P:Program}{f:FuncId}{H':Heap}{nx':Nat}(hf:Vw P f)(h:ZF P f [] [] 0 (.bool true) H' nx'):Xr P f [] [] 0 fun v H _=>v= .bool true∧H=[]:=by
 refine⟨hf,fun ι w vs hv hH hb=>(h ι w vs hv hH hb).mono ?_⟩
 rintro e w' ⟨r,κ,he,hr,hH',hst,hb'⟩
 have hl:=hst.l (Nat.le_refl 0)
 exact⟨.bool true,[],nx',r,κ,⟨rfl,rfl⟩,he,hr,hH'.sub (fun n b h=>by rw[Heap.get_nil]at h;cases h),{hl with own:=fun g ⟨n,b,L,h1,_⟩=>by rw[Heap.get_nil]at h1;cases h1},hb',Nat.zero_le _⟩
def S_known21:SpecI:=fun args K=>args=[]∧K (.bool true)
theorem Bw[Syms]:Z8 Tryz.prog 5 S_known21:=by
 rintro args K ⟨rfl,hk⟩
 obtain⟨H',nx',hc⟩:=B0 (Mo LN QC Qz QV 300) (args:=[]) Ee
 exact⟨rfl,_,rfl,hk,BH (Qz.fnOk (f:=5) rfl) hc⟩
structure Fd where
 name:List UInt8
 rep:Int
 kind:Int
 kids:Int
 deriving Inhabited
structure Lf where
 field:Int
 r:Int
 d:Int
 kind:Int
 deriving Inhabited
def encF(f:Fd):List AVal:=[.str f.name,.int .i64 f.rep,.int .i64 f.kind,.int .i64 f.kids]
def encI(p:Int):List AVal:=[.int .i64 p]
def QQ(l:Lf):List AVal:=[.int .i64 l.field,.int .i64 l.r,.int .i64 l.d,.int .i64 l.kind]
def encG(p:Int×Int):List AVal:=[.int .i64 p.1,.int .i64 p.2]
abbrev vF(fs:List Fd):AVal:=vT 4 encF default fs
abbrev vI(l:List Int):AVal:=vT 1 encI 0 l
abbrev vL(l:List Lf):AVal:=vT 4 QQ default l
theorem fF(l:List Fd):Qg (l.map encF):=X1 (fun a x hx=>by simp[encF]at hx;rcases hx with rfl|rfl|rfl|rfl<;>rfl) l
theorem fI(l:List Int):Qg (l.map encI):=X1 (fun a x hx=>by simp[encI]at hx;subst hx;rfl) l
theorem fL(l:List Lf):Qg (l.map QQ):=X1 (fun a x hx=>by simp[QQ]at hx;rcases hx with rfl|rfl|rfl|rfl<;>rfl) l
theorem fG(l:List (Int×Int)):Qg (l.map encG):=X1 (fun a x hx=>by simp[encG]at hx;rcases hx with rfl|rfl<;>rfl) l
theorem Ut{α:Type}{enc:α→List AVal}{z:Nat}(h:∀a,(enc a).length=z)(l:List α)(a b:Nat):FE z (((l.map enc).drop a).take b)=true:=by
 rw[FE,List.all_eq_true]
 intro r hr
 obtain⟨x,_,rfl⟩:=List.mem_map.1 (List.mem_of_mem_drop (List.mem_of_mem_take hr))
 rw[h];exact Nat.beq_refl z
theorem aI(l:List Int)(a b:Nat):FE 1 (((l.map encI).drop a).take b)=true:=Ut (enc:=encI) (z:=1) (fun _=>rfl) l a b
abbrev Stk:=List (Int×Int)
def Xs:Stk→Stk
 |[]=>[]
 |(a,k)::t=>if k≤0 then Xs t else(a,k)::t
def VS:Stk→Int
 |[]=>-1
 |(a,_)::_=>a
def WB:Stk→Stk
 |[]=>[]
 |(a,k)::t=>(a,k-1)::t
def W7(i:Nat)(f:Fd)(st:Stk):Stk:=if f.kind=0 then((i:Int),f.kids)::st else st
def V4:List Fd→Nat→Stk→List (Int×Int)
 |[],_,_=>[]
 |f::fs,i,st=>(VS (Xs st),((Xs st).length:Int))::V4 fs (i+1) (W7 i f (WB (Xs st)))
def Q6(fs:List Fd):List Int:=(V4 fs 0 []).map (·.1)
theorem W3:∀(fs:List Fd) (i:Nat) (st:Stk),(V4 fs i st).length=fs.length
 |[],_,_=>rfl
 |f::fs,i,st=>by simp[V4,W3 fs]
section
set_option maxRecDepth 100000
set_option maxHeartbeats 2000000
end
section
set_option maxRecDepth 100000
set_option maxHeartbeats 4000000
abbrev tB[Syms](c ci:CallT):CallT:=HZ c ci (QW fns) (QP tys) (Z1 plt) 100
def wE(fs:List Fd)(i:Nat)(l:AVal):Env:=[(0,vF fs),(1,.func 115 [.ptr 0 0 0]),(4,.bool false),(5,l),(12,vF fs),(13,.int .i64 fs.length),(14,.int .i64 i)]
def wO(n:Nat):AVal:=.slice 1 0 n 1 none
def wL(st:Stk):AVal:=.slice 2 0 st.length 2 none
def wA(fs:List Fd):St:=⟨wE fs 0 .nils,[(0,some (.cells [[.nils]] false))],1⟩
def wB(fs:List Fd)(i:Nat)(out:List Int):St:=⟨wE fs i .nils,[(0,some (.cells [[wO i]] false)),(1,some (.cells (out.map encI) false))],2⟩
def wC(fs:List Fd)(i:Nat)(st:Stk)(out:List Int)(junk:List (List AVal)):St:=⟨wE fs i (wL st),[(0,some (.cells [[wO i]] false)),(1,some (.cells (out.map encI) false)),(2,some (.cells (st.reverse.map encG++junk) false))],3⟩
def wSt(fs:List Fd)(i:Nat)(st:Stk)(out:List Int)(s:St):Prop:=
 (i=0∧st=[]∧out=[]∧s=wA fs)∨(st=[]∧s=wB fs i out)∨(∃junk,Qg junk∧s=wC fs i st out junk)
def OS(fs:List Fd)(n:Nat)(s:St):Prop:=∃(i:Nat) (st:Stk) (out:List Int),(i≤fs.length∧n=fs.length-i∧out.length=i∧out++(V4 (fs.drop i) i st).map (·.1)=Q6 fs∧(∀p∈st,p.2≤9223372036854775807)∧st.length≤i)∧wSt fs i st out s
def wCi(fs:List Fd)(i n:Nat)(out:List Int)(R:List (List AVal)):St:=⟨[(0,vF fs),(1,.func 115 [.ptr 0 0 0]),(4,.bool false),(5,.slice 2 0 n 2 none),(6,.int .i64 i),(7,.ptr 3 0 0),(12,vF fs),(13,.int .i64 fs.length),(14,.int .i64 i),(15,.bool (decide ((i:Int)<fs.length)))],[(0,some (.cells [[wO i]] false)),(1,some (.cells (out.map encI) false)),(2,some (.cells R false)),(3,some (.cells [encF (fs.getD i default)] false))],5⟩
theorem CF{α:Type}[Inhabited α]{l:List α}{i:Nat}(h:i<l.length):l.drop i=l.getD i default::l.drop (i+1):=by
 rw[List.drop_eq_getElem_cons h];simp[h]
theorem Ie{fs:List Fd}{i:Nat}{st:Stk}(h:i<fs.length):V4 (fs.drop i) i st=(VS (Xs st),((Xs st).length:Int))::V4 (fs.drop (i+1)) (i+1) (W7 i (fs.getD i default) (WB (Xs st))):=by
 rw[CF h];rfl
theorem Y8{fs:List Fd}{i:Nat}{st st':Stk}{out:List Int}(h:i<fs.length)(hw:out++(V4 (fs.drop i) i st).map (·.1)=Q6 fs)(hs:st'=W7 i (fs.getD i default) (WB (Xs st))):
 (out++[VS (Xs st)])++(V4 (fs.drop (i+1)) (i+1) st').map (·.1)=Q6 fs:=by
 rw[←hw,Ie h,hs];simp
theorem E7[Syms](fs:List Fd)(hl:fs.length<1000)(hk:∀i,(fs.getD i default).kids≤9223372036854775807):
 fnT Ql (Qu 114 (tB Ql (Qu 115 (tB Ql Ql) Ql)) (Qu 116 (tB Ql Ql) Ql)) (QW fns) (QP tys) (Z1 plt) 100 76 [vF fs] [] 0 (fun v H _=>v=vI (Q6 fs)∧H=[]):=by
 refine⟨OS fs,⟨_,wA fs,?_,0,[],[],⟨by omega,rfl,rfl,rfl,by simp,by simp⟩,.inl ⟨rfl,rfl,rfl,rfl⟩⟩,?_⟩
 ·exact .refl _ _ _
 rintro n s ⟨i,st,out,⟨hi,rfl,ho,hw,hb,hsl⟩,(⟨rfl,rfl,rfl,rfl⟩|⟨rfl,rfl⟩|⟨junk,hj,rfl⟩)⟩
 · repeat' first|refine And.intro ?_ ?_|(intro h;try simp only[decide_eq_true_eq,decide_eq_false_iff_not,Int.not_lt,Int.not_le,Int.toNat_natCast,↓reduceIte,Nat.reduceAdd,reduceCtorEq,Int.reduceLT,Int.lt_irrefl,gt_iff_lt,not_true_eq_false,not_false_eq_true,Bool.not_true,Bool.not_false,decide_false,decide_true,Int.reduceLE,Int.reduceSub,Bool.false_eq_true,Bool.true_eq_false,Nat.reduceEqDiff,Nat.one_ne_zero,Nat.reduceLT,and_self,and_true,true_and,Int.natCast_zero,Int.cast_ofNat_Int,List.length_nil,ne_eq,Decidable.not_not]at h)
   all_goals(try first|exact PlanIs.mk (by kernel_rfl)|omega|(show(_:Int)*((32:Nat):Int)≤_;omega)|(show(_:Int)*((8:Nat):Int)≤_;omega)|(show(_:Int)*((24:Nat):Int)≤_;omega)|exact rfl|exact Nat.le_of_ble_eq_true rfl|(show(_:Nat)≤(_:Nat);simp;done)|(show(_:Nat)≤(_:Nat);simp;omega))
   ·refine Xo ?_
    repeat' first|refine And.intro ?_ ?_|(intro h;try simp only[decide_eq_true_eq,decide_eq_false_iff_not,Int.not_lt,Int.not_le,Int.toNat_natCast,↓reduceIte,Nat.reduceAdd,reduceCtorEq,Int.reduceLT,Int.lt_irrefl,gt_iff_lt,not_true_eq_false,not_false_eq_true,Bool.not_true,Bool.not_false,decide_false,decide_true,Int.reduceLE,Int.reduceSub,Bool.false_eq_true,Bool.true_eq_false,Nat.reduceEqDiff,Nat.one_ne_zero,Nat.reduceLT,and_self,and_true,true_and,Int.natCast_zero,Int.cast_ofNat_Int,List.length_nil,ne_eq,Decidable.not_not]at h)
    all_goals(try first|exact PlanIs.mk (by kernel_rfl)|omega|(show(_:Int)*((32:Nat):Int)≤_;omega)|(show(_:Int)*((8:Nat):Int)≤_;omega)|(show(_:Int)*((24:Nat):Int)≤_;omega)|exact rfl|exact Nat.le_of_ble_eq_true rfl|(show(_:Nat)≤(_:Nat);simp;done)|(show(_:Nat)≤(_:Nat);simp;omega))
    refine⟨_,.refl _ _ _,_,rfl,?_⟩
    repeat' first|refine And.intro ?_ ?_|(intro h;try simp only[decide_eq_true_eq,decide_eq_false_iff_not,Int.not_lt,Int.not_le,Int.toNat_natCast,↓reduceIte,Nat.reduceAdd,reduceCtorEq,Int.reduceLT,Int.lt_irrefl,gt_iff_lt,not_true_eq_false,not_false_eq_true,Bool.not_true,Bool.not_false,decide_false,decide_true,Int.reduceLE,Int.reduceSub,Bool.false_eq_true,Bool.true_eq_false,Nat.reduceEqDiff,Nat.one_ne_zero,Nat.reduceLT,and_self,and_true,true_and,Int.natCast_zero,Int.cast_ofNat_Int,List.length_nil,ne_eq,Decidable.not_not]at h)
    all_goals(try first|exact PlanIs.mk (by kernel_rfl)|omega|(show(_:Int)*((32:Nat):Int)≤_;omega)|(show(_:Int)*((8:Nat):Int)≤_;omega)|(show(_:Int)*((24:Nat):Int)≤_;omega)|exact rfl|exact Nat.le_of_ble_eq_true rfl|(show(_:Nat)≤(_:Nat);simp;done)|(show(_:Nat)≤(_:Nat);simp;omega))
    ·refine⟨_,wC fs 1 [(0,(fs.getD 0 default).kids)] [-1] [],Q0 [0,4,7] rfl ?_ ?_,⟨1,_,[-1],⟨by omega,rfl,rfl,Y8 (st:=[]) (by omega) hw (by rw[W7,if_pos (show(fs.getD 0 default).kind=0 from ‹_›)];rfl),?_,by simp⟩,.inr (.inr ⟨[],by simp[Qg],rfl⟩)⟩,by omega⟩
     ·exact⟨.refl _,.refl _,.refl _,.refl _,.refl _,.refl _,.refl _,trivial⟩
     ·exact⟨⟨by decide,_,rfl,.refl _⟩,⟨by decide,_,rfl,.refl _⟩,⟨by decide,_,rfl,Q1 rfl (QI (fG _) QX)⟩,trivial⟩
     ·intro p hp;simp at hp;subst hp;exact hk 0
    ·refine⟨_,wB fs 1 [-1],Q0 [0,4] rfl ?_ ?_,⟨1,_,[-1],⟨by omega,rfl,rfl,Y8 (st:=[]) (by omega) hw (by rw[W7,if_neg (show ¬(fs.getD 0 default).kind=0 from ‹_›)];rfl),?_,by simp⟩,.inr (.inl ⟨rfl,rfl⟩)⟩,by omega⟩
     ·exact⟨.refl _,.refl _,.refl _,.refl _,.refl _,.refl _,.refl _,trivial⟩
     ·exact⟨⟨by decide,_,rfl,.refl _⟩,⟨by decide,_,rfl,.refl _⟩,trivial⟩
     ·intro p hp;simp at hp
   ·refine Xo ?_
    repeat' first|refine And.intro ?_ ?_|(intro h;try simp only[decide_eq_true_eq,decide_eq_false_iff_not,Int.not_lt,Int.not_le,Int.toNat_natCast,↓reduceIte,Nat.reduceAdd,reduceCtorEq,Int.reduceLT,Int.lt_irrefl,gt_iff_lt,not_true_eq_false,not_false_eq_true,Bool.not_true,Bool.not_false,decide_false,decide_true,Int.reduceLE,Int.reduceSub,Bool.false_eq_true,Bool.true_eq_false,Nat.reduceEqDiff,Nat.one_ne_zero,Nat.reduceLT,and_self,and_true,true_and,Int.natCast_zero,Int.cast_ofNat_Int,List.length_nil,ne_eq,Decidable.not_not]at h)
    all_goals(try first|exact PlanIs.mk (by kernel_rfl)|omega|(show(_:Int)*((32:Nat):Int)≤_;omega)|(show(_:Int)*((8:Nat):Int)≤_;omega)|(show(_:Int)*((24:Nat):Int)≤_;omega)|exact rfl|exact Nat.le_of_ble_eq_true rfl|(show(_:Nat)≤(_:Nat);simp;done)|(show(_:Nat)≤(_:Nat);simp;omega))
    refine⟨_,.refl _ _ _,_,rfl,?_⟩
    repeat' first|refine And.intro ?_ ?_|(intro h;try simp only[decide_eq_true_eq,decide_eq_false_iff_not,Int.not_lt,Int.not_le,Int.toNat_natCast,↓reduceIte,Nat.reduceAdd,reduceCtorEq,Int.reduceLT,Int.lt_irrefl,gt_iff_lt,not_true_eq_false,not_false_eq_true,Bool.not_true,Bool.not_false,decide_false,decide_true,Int.reduceLE,Int.reduceSub,Bool.false_eq_true,Bool.true_eq_false,Nat.reduceEqDiff,Nat.one_ne_zero,Nat.reduceLT,and_self,and_true,true_and,Int.natCast_zero,Int.cast_ofNat_Int,List.length_nil,ne_eq,Decidable.not_not]at h)
    all_goals(try first|exact PlanIs.mk (by kernel_rfl)|omega|(show(_:Int)*((32:Nat):Int)≤_;omega)|(show(_:Int)*((8:Nat):Int)≤_;omega)|(show(_:Int)*((24:Nat):Int)≤_;omega)|exact rfl|exact Nat.le_of_ble_eq_true rfl|(show(_:Nat)≤(_:Nat);simp;done)|(show(_:Nat)≤(_:Nat);simp;omega))
    refine⟨_,.refl _ _ _,_,rfl,?_⟩
    refine⟨_,WN (k:=2) 1 encI 0 rfl,_,rfl,?_,rfl⟩
    have h0:fs=[]:=List.eq_nil_of_length_eq_zero (by omega)
    subst h0
    rfl
 · repeat' first|refine And.intro ?_ ?_|(intro h;try simp only[decide_eq_true_eq,decide_eq_false_iff_not,Int.not_lt,Int.not_le,Int.toNat_natCast,↓reduceIte,Nat.reduceAdd,reduceCtorEq,Int.reduceLT,Int.lt_irrefl,gt_iff_lt,not_true_eq_false,not_false_eq_true,Bool.not_true,Bool.not_false,decide_false,decide_true,Int.reduceLE,Int.reduceSub,Bool.false_eq_true,Bool.true_eq_false,Nat.reduceEqDiff,Nat.one_ne_zero,Nat.reduceLT,and_self,and_true,true_and,Int.natCast_zero,Int.cast_ofNat_Int,List.length_nil,ne_eq,Decidable.not_not]at h)
   all_goals(try first|exact PlanIs.mk (by kernel_rfl)|omega|(show(_:Int)*((32:Nat):Int)≤_;omega)|(show(_:Int)*((8:Nat):Int)≤_;omega)|(show(_:Int)*((24:Nat):Int)≤_;omega)|exact rfl|exact Nat.le_of_ble_eq_true rfl|(show(_:Nat)≤(_:Nat);simp;done)|(show(_:Nat)≤(_:Nat);simp;omega))
   ·refine Xo ?_
    repeat' first|refine And.intro ?_ ?_|(intro h;try simp only[decide_eq_true_eq,decide_eq_false_iff_not,Int.not_lt,Int.not_le,Int.toNat_natCast,↓reduceIte,Nat.reduceAdd,reduceCtorEq,Int.reduceLT,Int.lt_irrefl,gt_iff_lt,not_true_eq_false,not_false_eq_true,Bool.not_true,Bool.not_false,decide_false,decide_true,Int.reduceLE,Int.reduceSub,Bool.false_eq_true,Bool.true_eq_false,Nat.reduceEqDiff,Nat.one_ne_zero,Nat.reduceLT,and_self,and_true,true_and,Int.natCast_zero,Int.cast_ofNat_Int,List.length_nil,ne_eq,Decidable.not_not]at h)
    all_goals(try first|exact PlanIs.mk (by kernel_rfl)|omega|(show(_:Int)*((32:Nat):Int)≤_;omega)|(show(_:Int)*((8:Nat):Int)≤_;omega)|(show(_:Int)*((24:Nat):Int)≤_;omega)|exact rfl|exact Nat.le_of_ble_eq_true rfl|(show(_:Nat)≤(_:Nat);simp;done)|(show(_:Nat)≤(_:Nat);simp;omega))
    refine⟨_,.refl _ _ _,_,rfl,?_⟩
    repeat' first|refine And.intro ?_ ?_|(intro h;try simp only[decide_eq_true_eq,decide_eq_false_iff_not,Int.not_lt,Int.not_le,Int.toNat_natCast,↓reduceIte,Nat.reduceAdd,reduceCtorEq,Int.reduceLT,Int.lt_irrefl,gt_iff_lt,not_true_eq_false,not_false_eq_true,Bool.not_true,Bool.not_false,decide_false,decide_true,Int.reduceLE,Int.reduceSub,Bool.false_eq_true,Bool.true_eq_false,Nat.reduceEqDiff,Nat.one_ne_zero,Nat.reduceLT,and_self,and_true,true_and,Int.natCast_zero,Int.cast_ofNat_Int,List.length_nil,ne_eq,Decidable.not_not]at h)
    all_goals(try first|exact PlanIs.mk (by kernel_rfl)|omega|(show(_:Int)*((32:Nat):Int)≤_;omega)|(show(_:Int)*((8:Nat):Int)≤_;omega)|(show(_:Int)*((24:Nat):Int)≤_;omega)|exact rfl|exact Nat.le_of_ble_eq_true rfl|(show(_:Nat)≤(_:Nat);simp;done)|(show(_:Nat)≤(_:Nat);simp;omega))
    ·refine⟨_,wC fs (i+1) [(i,(fs.getD i default).kids)] (out++[-1]) [],Q0 [0,5,8] rfl ?_ ?_,⟨i+1,_,_,⟨by omega,rfl,by simp[ho],Y8 (st:=[]) (by omega) hw (by rw[W7,if_pos (show(fs.getD i default).kind=0 from ‹_›)];rfl),?_,by simp⟩,.inr (.inr ⟨[],by simp[Qg],rfl⟩)⟩,by omega⟩
     ·exact⟨.refl _,.refl _,.refl _,.refl _,.refl _,.refl _,.refl _,trivial⟩
     ·exact⟨⟨by decide,_,rfl,.refl _⟩,⟨by decide,_,rfl,Q1 (by show List.take i (List.drop 0 (out.map encI))++[[.int .i64 (-1)]]=_;rw[←ho];simp[encI];exact List.take_of_length_le (by simp)) (fI _)⟩,⟨by decide,_,rfl,Q1 rfl (QI (fG _) QX)⟩,trivial⟩
     ·intro p hp;simp at hp;subst hp;exact hk i
    ·refine⟨_,wB fs (i+1) (out++[-1]),Q0 [0,5] rfl ?_ ?_,⟨i+1,_,_,⟨by omega,rfl,by simp[ho],Y8 (st:=[]) (by omega) hw (by rw[W7,if_neg (show ¬(fs.getD i default).kind=0 from ‹_›)];rfl),?_,by simp⟩,.inr (.inl ⟨rfl,rfl⟩)⟩,by omega⟩
     ·exact⟨.refl _,.refl _,.refl _,.refl _,.refl _,.refl _,.refl _,trivial⟩
     ·exact⟨⟨by decide,_,rfl,.refl _⟩,⟨by decide,_,rfl,Q1 (by show List.take i (List.drop 0 (out.map encI))++[[.int .i64 (-1)]]=_;rw[←ho];simp[encI];exact List.take_of_length_le (by simp)) (fI _)⟩,trivial⟩
     ·intro p hp;simp at hp
   ·refine Xo ?_
    repeat' first|refine And.intro ?_ ?_|(intro h;try simp only[decide_eq_true_eq,decide_eq_false_iff_not,Int.not_lt,Int.not_le,Int.toNat_natCast,↓reduceIte,Nat.reduceAdd,reduceCtorEq,Int.reduceLT,Int.lt_irrefl,gt_iff_lt,not_true_eq_false,not_false_eq_true,Bool.not_true,Bool.not_false,decide_false,decide_true,Int.reduceLE,Int.reduceSub,Bool.false_eq_true,Bool.true_eq_false,Nat.reduceEqDiff,Nat.one_ne_zero,Nat.reduceLT,and_self,and_true,true_and,Int.natCast_zero,Int.cast_ofNat_Int,List.length_nil,ne_eq,Decidable.not_not]at h)
    all_goals(try first|exact PlanIs.mk (by kernel_rfl)|omega|(show(_:Int)*((32:Nat):Int)≤_;omega)|(show(_:Int)*((8:Nat):Int)≤_;omega)|(show(_:Int)*((24:Nat):Int)≤_;omega)|exact rfl|exact Nat.le_of_ble_eq_true rfl|(show(_:Nat)≤(_:Nat);simp;done)|(show(_:Nat)≤(_:Nat);simp;omega))
    refine⟨_,.refl _ _ _,_,rfl,?_⟩
    repeat' first|refine And.intro ?_ ?_|(intro h;try simp only[decide_eq_true_eq,decide_eq_false_iff_not,Int.not_lt,Int.not_le,Int.toNat_natCast,↓reduceIte,Nat.reduceAdd,reduceCtorEq,Int.reduceLT,Int.lt_irrefl,gt_iff_lt,not_true_eq_false,not_false_eq_true,Bool.not_true,Bool.not_false,decide_false,decide_true,Int.reduceLE,Int.reduceSub,Bool.false_eq_true,Bool.true_eq_false,Nat.reduceEqDiff,Nat.one_ne_zero,Nat.reduceLT,and_self,and_true,true_and,Int.natCast_zero,Int.cast_ofNat_Int,List.length_nil,ne_eq,Decidable.not_not]at h)
    all_goals(try first|exact PlanIs.mk (by kernel_rfl)|omega|(show(_:Int)*((32:Nat):Int)≤_;omega)|(show(_:Int)*((8:Nat):Int)≤_;omega)|(show(_:Int)*((24:Nat):Int)≤_;omega)|exact rfl|exact Nat.le_of_ble_eq_true rfl|(show(_:Nat)≤(_:Nat);simp;done)|(show(_:Nat)≤(_:Nat);simp;omega))
    ·exact aI _ _ _
    ·refine⟨_,.refl _ _ _,_,rfl,?_⟩
     refine⟨_,WN (k:=2) 1 encI 0 rfl,_,rfl,?_,rfl⟩
     have h0:fs=[]:=List.eq_nil_of_length_eq_zero (by omega)
     subst h0
     rfl
    ·refine⟨_,.refl _ _ _,_,rfl,?_⟩
     refine⟨_,Xy (enc:=encI) (k:=2) 0 (l:=out) rfl rfl (QI QX (KE (fI _))) ?_ ?_,_,rfl,?_,rfl⟩
     ·show List.take (0+i) ([]++List.take i (List.drop 0 (out.map encI)))=_
      rw[←ho,List.nil_append,List.drop_zero,Nat.zero_add,List.take_take,Nat.min_self]
      exact List.take_of_length_le (Nat.le_of_eq (List.length_map ..))
     ·show 0+i≤([]++List.take i (List.drop 0 (out.map encI))).length
      simp
      omega
     ·rw[List.drop_of_length_le (by omega)]at hw
      simp[V4]at hw
      exact congrArg vI hw
 · repeat' first|refine And.intro ?_ ?_|(intro h;try simp only[decide_eq_true_eq,decide_eq_false_iff_not,Int.not_lt,Int.not_le,Int.toNat_natCast,↓reduceIte,Nat.reduceAdd,reduceCtorEq,Int.reduceLT,Int.lt_irrefl,gt_iff_lt,not_true_eq_false,not_false_eq_true,Bool.not_true,Bool.not_false,decide_false,decide_true,Int.reduceLE,Int.reduceSub,Bool.false_eq_true,Bool.true_eq_false,Nat.reduceEqDiff,Nat.one_ne_zero,Nat.reduceLT,and_self,and_true,true_and,Int.natCast_zero,Int.cast_ofNat_Int,List.length_nil,ne_eq,Decidable.not_not]at h)
   all_goals(try first|exact PlanIs.mk (by kernel_rfl)|omega|(show(_:Int)*((32:Nat):Int)≤_;omega)|(show(_:Int)*((8:Nat):Int)≤_;omega)|(show(_:Int)*((24:Nat):Int)≤_;omega)|exact rfl|exact Nat.le_of_ble_eq_true rfl|(show(_:Nat)≤(_:Nat);simp;done)|(show(_:Nat)≤(_:Nat);simp;omega))
   ·refine⟨fun n s=>∃(st1:Stk) (junk1:List (List AVal)) (m:Nat),(n=m∧m=st1.length∧Xs st1=Xs st∧st1.reverse.map encG++junk1=st.reverse.map encG++junk∧Qg junk1∧(∀p∈st1,p.2≤9223372036854775807)∧st1.length≤st.length)∧s=wCi fs i m out (st.reverse.map encG++junk),⟨_,wCi fs i st.length out (st.reverse.map encG++junk),.refl _ _ _,st,junk,st.length,⟨rfl,rfl,rfl,rfl,hj,hb,Nat.le_refl _⟩,rfl⟩,?_⟩
    rintro n s ⟨st1,junk1,m,⟨rfl,hm,hp1,hR,hj1,hb1,hl1⟩,rfl⟩
    generalize st.reverse.map encG++junk=R at hR ⊢
    cases st1 with
    |nil=>
     obtain rfl:n=0:=hm
     have hst:Xs st=[]:=hp1.symm
     have hRf:Qg R:=hR▸QI (fG []) hj1
     repeat' first|refine And.intro ?_ ?_|(intro h;try simp only[decide_eq_true_eq,decide_eq_false_iff_not,Int.not_lt,Int.not_le,Int.toNat_natCast,↓reduceIte,Nat.reduceAdd,reduceCtorEq,Int.reduceLT,Int.lt_irrefl,gt_iff_lt,not_true_eq_false,not_false_eq_true,Bool.not_true,Bool.not_false,decide_false,decide_true,Int.reduceLE,Int.reduceSub,Bool.false_eq_true,Bool.true_eq_false,Nat.reduceEqDiff,Nat.one_ne_zero,Nat.reduceLT,and_self,and_true,true_and,Int.natCast_zero,Int.cast_ofNat_Int,List.length_nil,ne_eq,Decidable.not_not]at h)
     all_goals(try first|exact PlanIs.mk (by kernel_rfl)|omega|(show(_:Int)*((32:Nat):Int)≤_;omega)|(show(_:Int)*((8:Nat):Int)≤_;omega)|(show(_:Int)*((24:Nat):Int)≤_;omega)|exact rfl|exact Nat.le_of_ble_eq_true rfl|(show(_:Nat)≤(_:Nat);simp;done)|(show(_:Nat)≤(_:Nat);simp;omega))
     refine⟨_,.refl _ _ _,_,rfl,?_⟩
     repeat' first|refine And.intro ?_ ?_|(intro h;try simp only[decide_eq_true_eq,decide_eq_false_iff_not,Int.not_lt,Int.not_le,Int.toNat_natCast,↓reduceIte,Nat.reduceAdd,reduceCtorEq,Int.reduceLT,Int.lt_irrefl,gt_iff_lt,not_true_eq_false,not_false_eq_true,Bool.not_true,Bool.not_false,decide_false,decide_true,Int.reduceLE,Int.reduceSub,Bool.false_eq_true,Bool.true_eq_false,Nat.reduceEqDiff,Nat.one_ne_zero,Nat.reduceLT,and_self,and_true,true_and,Int.natCast_zero,Int.cast_ofNat_Int,List.length_nil,ne_eq,Decidable.not_not]at h)
     all_goals(try first|exact PlanIs.mk (by kernel_rfl)|omega|(show(_:Int)*((32:Nat):Int)≤_;omega)|(show(_:Int)*((8:Nat):Int)≤_;omega)|(show(_:Int)*((24:Nat):Int)≤_;omega)|exact rfl|exact Nat.le_of_ble_eq_true rfl|(show(_:Nat)≤(_:Nat);simp;done)|(show(_:Nat)≤(_:Nat);simp;omega))
     ·refine⟨_,wC fs (i+1) [(i,(fs.getD i default).kids)] (out++[-1]) [],Q0 [0,6,9] rfl ?_ ?_,⟨i+1,_,_,⟨by omega,rfl,by simp[ho],by have:=Y8 (st:=st) (st':=[(i,(fs.getD i default).kids)]) (by omega) hw (by rw[hst,W7,if_pos (show(fs.getD i default).kind=0 from ‹_›)];rfl);rw[hst]at this;exact this,?_,by simp⟩,.inr (.inr ⟨[],QX,rfl⟩)⟩,by omega⟩
      ·exact⟨.refl _,.refl _,.refl _,.refl _,.refl _,.refl _,.refl _,trivial⟩
      ·exact⟨⟨by decide,_,rfl,.refl _⟩,⟨by decide,_,rfl,Q1 (by show List.take i (List.drop 0 (out.map encI))++[[.int .i64 (-1)]]=_;rw[←ho];simp[encI];exact List.take_of_length_le (by simp)) (fI _)⟩,⟨by decide,_,rfl,Q1 rfl (QI (fG _) QX)⟩,trivial⟩
      ·intro p hp;simp at hp;subst hp;exact hk i
     ·refine⟨_,wC fs (i+1) [] (out++[-1]) R,Q0 [0,6,2] rfl ?_ ?_,⟨i+1,_,_,⟨by omega,rfl,by simp[ho],by have:=Y8 (st:=st) (st':=[]) (by omega) hw (by rw[hst,W7,if_neg (show ¬(fs.getD i default).kind=0 from ‹_›)];rfl);rw[hst]at this;exact this,?_,by simp⟩,.inr (.inr ⟨R,hRf,rfl⟩)⟩,by omega⟩
      ·exact⟨.refl _,.refl _,.refl _,.refl _,.refl _,.refl _,.refl _,trivial⟩
      ·exact⟨⟨by decide,_,rfl,.refl _⟩,⟨by decide,_,rfl,Q1 (by show List.take i (List.drop 0 (out.map encI))++[[.int .i64 (-1)]]=_;rw[←ho];simp[encI];exact List.take_of_length_le (by simp)) (fI _)⟩,⟨by decide,_,rfl,Q1 rfl (QI (fG _) hRf)⟩,trivial⟩
      ·intro p hp;simp at hp
    |cons q t=>
     obtain⟨a,k⟩:=q
     obtain rfl:n=t.length+1:=hm
     have hx1:0+((↑(t.length+1):Int)-1).toNat=t.length:=by omega
     have hx2:R.getD t.length []=encG (a,k):=by rw[←hR];simp[List.getElem?_append,List.getElem?_map]
     have hRl:t.length<R.length:=by rw[←hR];simp
     have hRf:Qg R:=hR▸QI (fG _) hj1
     have hkb:k≤9223372036854775807:=hb1 (a,k) (List.mem_cons_self ..)
     have htl:t.length+1≤st.length:=hl1
     have hset:∀x,R.set t.length (encG x)=(x::t).reverse.map encG++junk1:=fun x=>by rw[←hR];simp[List.set_append]
     repeat' first|refine And.intro ?_ ?_|(intro h;try simp only[decide_eq_true_eq,decide_eq_false_iff_not,Int.not_lt,Int.not_le,Int.toNat_natCast,↓reduceIte,Nat.reduceAdd,reduceCtorEq,Int.reduceLT,Int.lt_irrefl,gt_iff_lt,not_true_eq_false,not_false_eq_true,Bool.not_true,Bool.not_false,decide_false,decide_true,Int.reduceLE,Int.reduceSub,Bool.false_eq_true,Bool.true_eq_false,Nat.reduceEqDiff,Nat.one_ne_zero,Nat.reduceLT,and_self,and_true,true_and,Int.natCast_zero,Int.cast_ofNat_Int,List.length_nil,ne_eq,Decidable.not_not,hx1,hx2]at h)
     all_goals(try first|exact PlanIs.mk (by kernel_rfl)|omega|exact rfl|exact Nat.le_of_ble_eq_true rfl|(show(_:Nat)≤(_:Nat);simp;done)|(show(_:Nat)≤(_:Nat);simp;omega)|(rw[hx1,hx2];exact rfl)|(rw[hx1,hx2];show(-9223372036854775808:Int)≤k-1;have hk0:(0:Int)<k:=‹_›;omega)|(rw[hx1,hx2];show k-1≤(9223372036854775807:Int);omega)|(show(_:Nat)≤(_:Nat);rw[hx1,hx2];exact Nat.le_of_ble_eq_true rfl))
     ·refine⟨t.length,wCi fs i t.length out R,Q0 [0,1,2,3,4] rfl ?_ ?_,⟨t,encG (a,k)::junk1,t.length,⟨rfl,rfl,?_,?_,?_,fun p hp=>hb1 p (List.mem_cons_of_mem _ hp),by omega⟩,rfl⟩,by omega⟩
      ·refine⟨.refl _,.refl _,.refl _,?_,.refl _,.refl _,.refl _,.refl _,.refl _,.refl _,trivial⟩
       show WkV (.slice 2 (0+0) (((↑(t.length+1):Int)-1).toNat-0) 2 none) _
       rw[show((↑(t.length+1):Int)-1).toNat-0=t.length by omega]
       exact .refl _
      ·exact⟨⟨by decide,_,rfl,.refl _⟩,⟨by decide,_,rfl,Qo (fI _)⟩,⟨by decide,_,rfl,Qo hRf⟩,⟨by decide,_,rfl,.refl _⟩,trivial⟩
      ·rw[←hp1,Xs,if_pos (show k≤0 from ‹_›)]
      ·rw[←hR];simp
      ·exact Wz (fun x hx=>by simp[encG]at hx;rcases hx with rfl|rfl<;>rfl) hj1
     ·have hk0:(0:Int)<k:=‹_›
      have hpz:Xs st=(a,k)::t:=by rw[←hp1,Xs,if_neg (by omega)]
      refine⟨_,.refl _ _ _,_,rfl,?_⟩
      repeat' first|refine And.intro ?_ ?_|(intro h;try simp only[decide_eq_true_eq,decide_eq_false_iff_not,Int.not_lt,Int.not_le,Int.toNat_natCast,↓reduceIte,Nat.reduceAdd,reduceCtorEq,Int.reduceLT,Int.lt_irrefl,gt_iff_lt,not_true_eq_false,not_false_eq_true,Bool.not_true,Bool.not_false,decide_false,decide_true,Int.reduceLE,Int.reduceSub,Bool.false_eq_true,Bool.true_eq_false,Nat.reduceEqDiff,Nat.one_ne_zero,Nat.reduceLT,and_self,and_true,true_and,Int.natCast_zero,Int.cast_ofNat_Int,List.length_nil,ne_eq,Decidable.not_not,hx1,hx2]at h)
      all_goals(try first|exact PlanIs.mk (by kernel_rfl)|omega|exact rfl|exact Nat.le_of_ble_eq_true rfl|(show(_:Nat)≤(_:Nat);simp;done)|(show(_:Nat)≤(_:Nat);simp;omega)|(rw[hx1,hx2];exact rfl)|(rw[hx1,hx2];show(-9223372036854775808:Int)≤k-1;have hk0:(0:Int)<k:=‹_›;omega)|(rw[hx1,hx2];show k-1≤(9223372036854775807:Int);omega)|(show(_:Nat)≤(_:Nat);rw[hx1,hx2];exact Nat.le_of_ble_eq_true rfl))
      ·refine⟨_,wC fs (i+1) ((i,(fs.getD i default).kids)::(a,k-1)::t) (out++[a]) [],Q0 [0,7,10] rfl ?_ ?_,⟨i+1,_,_,⟨by omega,rfl,by simp[ho],by have:=Y8 (st:=st) (st':=(i,(fs.getD i default).kids)::(a,k-1)::t) (by omega) hw (by rw[hpz,W7,if_pos (show(fs.getD i default).kind=0 from ‹_›)];rfl);rw[hpz]at this;exact this,?_,by simp;omega⟩,.inr (.inr ⟨[],QX,rfl⟩)⟩,by omega⟩
       ·exact⟨.refl _,.refl _,.refl _,.refl _,.refl _,.refl _,.refl _,trivial⟩
       ·refine⟨⟨by decide,_,rfl,.refl _⟩,⟨by decide,_,rfl,Q1 ?_ (fI _)⟩,⟨by decide,_,rfl,Q1 ?_ (QI (fG _) QX)⟩,trivial⟩
        ·show List.take i (List.drop 0 (out.map encI))++[[.int .i64 (asI ((R.getD (0+((↑(t.length+1):Int)-1).toNat) []).getD (0+0) .any))]]=_
         rw[hx1,hx2,←ho];simp[encI,encG,asI];exact List.take_of_length_le (by simp)
        ·show List.take (t.length+1) (List.drop 0 (R.set (0+((↑(t.length+1):Int)-1).toNat) (Qr (R.getD (0+((↑(t.length+1):Int)-1).toNat) []) (0+1) [.int .i64 (asI ((R.getD (0+((↑(t.length+1):Int)-1).toNat) []).getD (0+1) .any)-1)])))++[encG (i,(fs.getD i default).kids)]=_
         rw[hx1,hx2,show Qr (encG (a,k)) (0+1) [.int .i64 (asI ((encG (a,k)).getD (0+1) .any)-1)]=encG (a,k-1) from rfl,hset]
         have htk:List.take (t.length+1) (((a,k-1)::t).reverse.map encG++junk1)=((a,k-1)::t).reverse.map encG:=by
          rw[show t.length+1=(((a,k-1)::t).reverse.map encG).length by simp];exact List.take_left
         rw[List.drop_zero,htk]
         simp
       ·intro p hp
        simp at hp
        rcases hp with rfl|rfl|hp
        ·exact hk i
        ·show k-1≤_;omega
        ·exact hb1 p (List.mem_cons_of_mem _ hp)
      ·refine⟨_,wC fs (i+1) ((a,k-1)::t) (out++[a]) junk1,Q0 [0,7,2] rfl ?_ ?_,⟨i+1,_,_,⟨by omega,rfl,by simp[ho],by have:=Y8 (st:=st) (st':=(a,k-1)::t) (by omega) hw (by rw[hpz,W7,if_neg (show ¬(fs.getD i default).kind=0 from ‹_›)];rfl);rw[hpz]at this;exact this,?_,by simp;omega⟩,.inr (.inr ⟨junk1,hj1,rfl⟩)⟩,by omega⟩
       ·exact⟨.refl _,.refl _,.refl _,.refl _,.refl _,.refl _,.refl _,trivial⟩
       ·refine⟨⟨by decide,_,rfl,.refl _⟩,⟨by decide,_,rfl,Q1 ?_ (fI _)⟩,⟨by decide,_,rfl,Q1 ?_ (QI (fG _) hj1)⟩,trivial⟩
        ·show List.take i (List.drop 0 (out.map encI))++[[.int .i64 (asI ((R.getD (0+((↑(t.length+1):Int)-1).toNat) []).getD (0+0) .any))]]=_
         rw[hx1,hx2,←ho];simp[encI,encG,asI];exact List.take_of_length_le (by simp)
        ·show R.set (0+((↑(t.length+1):Int)-1).toNat) (Qr (R.getD (0+((↑(t.length+1):Int)-1).toNat) []) (0+1) [.int .i64 (asI ((R.getD (0+((↑(t.length+1):Int)-1).toNat) []).getD (0+1) .any)-1)])=_
         rw[hx1,hx2,show Qr (encG (a,k)) (0+1) [.int .i64 (asI ((encG (a,k)).getD (0+1) .any)-1)]=encG (a,k-1) from rfl,hset]
       ·intro p hp
        simp at hp
        rcases hp with rfl|hp
        ·show k-1≤_;omega
        ·exact hb1 p (List.mem_cons_of_mem _ hp)
   ·refine⟨fun n s=>∃(j:Nat) (b:Bool),(j≤st.length∧n=st.length-j)∧s=⟨[(4,.bool b),(74,wL st),(75,.int .i64 st.length),(76,.int .i64 j)],[(0,some (.cells [[wO i]] false)),(1,some (.cells (out.map encI) false)),(2,some (.cells (st.reverse.map encG++junk) false))],3⟩,⟨_,_,VB [4,74,75,76],0,false,⟨by omega,rfl⟩,rfl⟩,?_⟩
    rintro n s ⟨j,b,⟨hj0,rfl⟩,rfl⟩
    generalize hR:st.reverse.map encG++junk=R
    have hRl:st.length≤R.length:=by rw[←hR];simp
    have hRf:Qg R:=hR▸QI (fG _) hj
    have hx2:(j:Int)<st.length→ ∃q,R.getD j []=encG q:=fun h=>by
     have h':j<(st.reverse.map encG).length:=by simp;omega
     refine⟨st.reverse.getD j default,?_⟩
     rw[←hR,List.getD_eq_getElem?_getD,List.getElem?_append_left h',←List.getD_eq_getElem?_getD]
     exact U4 encG default (by simp;omega)
    repeat' first|refine And.intro ?_ ?_|(intro h;try simp only[decide_eq_true_eq,decide_eq_false_iff_not,Int.not_lt,Int.not_le,Int.toNat_natCast,↓reduceIte,Nat.reduceAdd,reduceCtorEq,Int.reduceLT,Int.lt_irrefl,gt_iff_lt,not_true_eq_false,not_false_eq_true,Bool.not_true,Bool.not_false,decide_false,decide_true,Int.reduceLE,Int.reduceSub,Bool.false_eq_true,Bool.true_eq_false,Nat.reduceEqDiff,Nat.one_ne_zero,Nat.reduceLT,and_self,and_true,true_and,Int.natCast_zero,Int.cast_ofNat_Int,List.length_nil,ne_eq,Decidable.not_not]at h)
    all_goals(try first|exact PlanIs.mk (by kernel_rfl)|omega|(show(_:Int)*((32:Nat):Int)≤_;omega)|(show(_:Int)*((8:Nat):Int)≤_;omega)|(show(_:Int)*((24:Nat):Int)≤_;omega)|exact rfl|exact Nat.le_of_ble_eq_true rfl|(show(_:Nat)≤(_:Nat);simp;done)|(show(_:Nat)≤(_:Nat);simp;omega))
    ·rename_i h
     obtain⟨q,hq⟩:=hx2 h
     rw[show 0+(j:Int).toNat=j by simp,hq]
     rfl
    ·refine⟨_,⟨[(4,.bool true),(74,wL st),(75,.int .i64 st.length),(76,.int .i64 ((j+1:Nat):Int))],[(0,some (.cells [[wO i]] false)),(1,some (.cells (out.map encI) false)),(2,some (.cells R false))],3⟩,Q0 [0,1,2] rfl ⟨.refl _,.refl _,.refl _,.refl _,trivial⟩ ⟨⟨by decide,_,rfl,.refl _⟩,⟨by decide,_,rfl,Qo (fI _)⟩,⟨by decide,_,rfl,Qo hRf⟩,trivial⟩,⟨j+1,_,⟨by omega,rfl⟩,rfl⟩,by omega⟩
    ·refine⟨_,⟨[(4,.bool _),(74,wL st),(75,.int .i64 st.length),(76,.int .i64 ((j+1:Nat):Int))],[(0,some (.cells [[wO i]] false)),(1,some (.cells (out.map encI) false)),(2,some (.cells R false))],3⟩,Q0 [0,1,2] rfl ⟨.refl _,.refl _,.refl _,.refl _,trivial⟩ ⟨⟨by decide,_,rfl,.refl _⟩,⟨by decide,_,rfl,Qo (fI _)⟩,⟨by decide,_,rfl,Qo hRf⟩,trivial⟩,⟨j+1,_,⟨by omega,rfl⟩,rfl⟩,by omega⟩
    ·refine⟨_,.refl _ _ _,_,rfl,?_⟩
     repeat' first|refine And.intro ?_ ?_|(intro h;try simp only[decide_eq_true_eq,decide_eq_false_iff_not,Int.not_lt,Int.not_le,Int.toNat_natCast,↓reduceIte,Nat.reduceAdd,reduceCtorEq,Int.reduceLT,Int.lt_irrefl,gt_iff_lt,not_true_eq_false,not_false_eq_true,Bool.not_true,Bool.not_false,decide_false,decide_true,Int.reduceLE,Int.reduceSub,Bool.false_eq_true,Bool.true_eq_false,Nat.reduceEqDiff,Nat.one_ne_zero,Nat.reduceLT,and_self,and_true,true_and,Int.natCast_zero,Int.cast_ofNat_Int,List.length_nil,ne_eq,Decidable.not_not]at h)
     all_goals(try first|exact PlanIs.mk (by kernel_rfl)|omega|(show(_:Int)*((32:Nat):Int)≤_;omega)|(show(_:Int)*((8:Nat):Int)≤_;omega)|(show(_:Int)*((24:Nat):Int)≤_;omega)|exact rfl|exact Nat.le_of_ble_eq_true rfl|(show(_:Nat)≤(_:Nat);simp;done)|(show(_:Nat)≤(_:Nat);simp;omega))
     ·exact aI _ _ _
     ·refine⟨_,.refl _ _ _,_,rfl,?_⟩
      refine⟨_,WN (k:=2) 1 encI 0 rfl,_,rfl,?_,rfl⟩
      have h0:fs=[]:=List.eq_nil_of_length_eq_zero (by omega)
      subst h0
      rfl
     ·refine⟨_,.refl _ _ _,_,rfl,?_⟩
      refine⟨_,Xy (enc:=encI) (k:=2) 0 (l:=out) rfl rfl (QI QX (KE (fI _))) ?_ ?_,_,rfl,?_,rfl⟩
      ·show List.take (0+i) ([]++List.take i (List.drop 0 (out.map encI)))=_
       rw[←ho,List.nil_append,List.drop_zero,Nat.zero_add,List.take_take,Nat.min_self]
       exact List.take_of_length_le (Nat.le_of_eq (List.length_map ..))
      ·show 0+i≤([]++List.take i (List.drop 0 (out.map encI))).length
       simp
       omega
      ·rw[List.drop_of_length_le (by omega)]at hw
       simp[V4]at hw
       exact congrArg vI hw
end
section
set_option maxRecDepth 100000
set_option maxHeartbeats 4000000
theorem De{st:Stk}{p:Int×Int}(h:p∈Xs st):p∈st:=by
 induction st with
 |nil=>simp[Xs]at h
 |cons q t ih=>
  obtain⟨a,k⟩:=q
  rw[Xs]at h
  split at h
  ·exact List.mem_cons_of_mem _ (ih h)
  ·exact h
theorem C0:∀(fs:List Fd) (i:Nat) (st:Stk),(∀p∈st,0≤p.1∧p.1<i)→ ∀j,j<fs.length→ -1≤((V4 fs i st).map (·.1)).getD j 0∧((V4 fs i st).map (·.1)).getD j 0<i+j
 |[],_,_,_,j,h=>by simp at h
 |f::fs,i,st,hst,j,h=>by
  cases j with
  |zero=>
   show -1≤VS (Xs st)∧VS (Xs st)<_
   cases hp:Xs st with
   |nil=>simp only[VS];omega
   |cons q t=>
    have:=hst q (De (by rw[hp];exact List.mem_cons_self ..))
    simp only[VS];omega
  |succ j=>
   have:=C0 fs (i+1) (W7 i f (WB (Xs st))) (fun p hp=>?_) j (by simpa using h)
   ·simp only[V4,List.map_cons,List.getD_cons_succ]
    omega
   ·have hd:p∈WB (Xs st)→0≤p.1∧p.1<((i+1:Nat):Int):=by
     intro hp
     cases hq:Xs st with
     |nil=>rw[hq]at hp;simp[WB]at hp
     |cons q t=>
      rw[hq]at hp
      have hall:∀r∈q::t,0≤r.1∧r.1<(i:Int):=fun r hr=>hst r (De (by rw[hq];exact hr))
      simp only[WB,List.mem_cons]at hp
      rcases hp with rfl|hp
      ·have:=hall q (List.mem_cons_self ..);exact⟨this.1,by have:=this.2;show q.1<_;omega⟩
      ·have:=hall p (List.mem_cons_of_mem _ hp);exact⟨this.1,by omega⟩
    unfold W7 at hp
    split at hp
    ·rcases List.mem_cons.1 hp with rfl|hp
     ·exact⟨by show(0:Int)≤(i:Int);omega,by show(i:Int)<_;omega⟩
     ·exact hd hp
    ·exact hd hp
theorem XB(fs:List Fd):(Q6 fs).length=fs.length:=by simp[Q6,W3]
theorem Uc(fs:List Fd)(j:Nat)(h:j<fs.length):-1≤(Q6 fs).getD j 0∧(Q6 fs).getD j 0<j:=by
 have:=C0 fs 0 [] (by simp) j h
 simp only[Q6]
 omega
def upK(fs:List Fd)(ps:List Int):Nat→Int→List UInt8→List UInt8
 |0,_,out=>out
 |n+1,k,out=>if 0<k then upK fs ps n (ps.getD k.toNat 0) ((fs.getD k.toNat default).name++[46]++out)else out
theorem C5{fs:List Fd}{ps:List Int}{m:Nat}{k:Int}{out:List UInt8}(h:k≤0):upK fs ps m k out=out:=by
 cases m with
 |zero=>rfl
 |succ m=>rw[upK,if_neg (by omega)]
def Zc(fs:List Fd)(ps:List Int)(field:Int):List UInt8:=
 if field≤0∨fs.length≤field then[]else upK fs ps fs.length (ps.getD field.toNat 0) (fs.getD field.toNat default).name
structure FsOk(fs:List Fd):Prop where
 len:fs.length<1000
 kids:∀i,(fs.getD i default).kids≤9223372036854775807
 name:∀i,(fs.getD i default).name.length≤1000
def S_par:SpecI:=fun args K=>∃fs,args=[vF fs]∧FsOk fs∧K (vI (Q6 fs))
theorem MZ[Syms]:Z8 Tryz.prog 76 S_par:=by
 rintro args K ⟨fs,rfl,h,hk⟩
 exact⟨rfl,_,rfl,hk,fnI QC Qz Qe (Wv (Vv QC Qz Qe (Wv (Vv QC Qz Qe Qk QV) Qk) QV) (Wv (Vv QC Qz Qe Qk QV) Qk)) QV (E7 fs h.len h.kids)⟩
abbrev OB:CallT:=Qu 76 (ZJ S_par) Ql
theorem L9[Syms]:OB.ok Tryz.prog:=Q8 MZ Qk
end
section
set_option maxRecDepth 100000
set_option maxHeartbeats 4000000
def Kq(fs:List Fd):Nat→List Int→List Int
 |k+1,a::b::t=>if 0<(fs.getD a.toNat default).kids then Kq fs k (b::t)else a::b::t
 |_,op=>op
def Xj(fs:List Fd)(a:Nat):List Fd:=fs.set a {fs.getD a default with kids:=(fs.getD a default).kids+1}
def YP(op:List Int)(x:Int):Int:=if 4<op.length∧(wi x 8).tmod 5=0 then 2 else(wi x 8).tmod 5
def nmM(i:Nat):List UInt8:=[UInt8.ofNat (97+i)]
def Hz(op:List Int)(i:Nat)(x:Int):Fd:=⟨nmM i,wi (wr .i64 (x.tdiv 8)) 3,YP op x,0⟩
def Zt(op:List Int):Int:=op.headD 0
def YF(fs:List Fd)(op:List Int)(i:Nat)(x:Int):List Fd×List Int:=
 let o:=Kq fs (wi (wr .i64 (x.tdiv 64)) 3).toNat op
 let f:=Hz o i x
 (Xj fs (Zt o).toNat++[f],if f.kind=0 then(fs.length:Int)::o else o)
def X8(ns:List Int):Nat→Nat→List Fd→List Int→List Fd×List Int
 |0,_,fs,op=>(fs,op)
 |n+1,i,fs,op=>if i<ns.length∧i<12 then let r:=YF fs op i (ns.getD i 0);X8 ns n (i+1) r.1 r.2 else(fs,op)
def Yu(fs:List Fd)(op:List Int):List Fd:=
 if(fs.getD (Zt op).toNat default).kids=0 then Xj fs (Zt op).toNat++[⟨[122],0,4,0⟩]else fs
def Qs(ns:List Int):List Fd:=let r:=X8 ns 12 0 [⟨[109],0,0,0⟩] [0];Yu r.1 r.2
abbrev fs0:List Fd:=[⟨[109],0,0,0⟩]
theorem VT:∀i,i<12→ZV [[.int .u8 (wr .u8 (97+(i:Nat)))]]=nmM i:=by decide
theorem Qb(fs:List Fd)(a:Nat):(Xj fs a).length=fs.length:=by simp[Xj]
theorem ZI{fs:List Fd}{a:Nat}(h:a<fs.length):(fs.map encF).set a [.str (fs.getD a default).name,.int .i64 (fs.getD a default).rep,.int .i64 (fs.getD a default).kind,.int .i64 ((fs.getD a default).kids+1)]=(Xj fs a).map encF:=by simp[Xj,encF,List.map_set]
theorem Eh{fs:List Fd}{a:Nat}{i:Nat}(h:∀f∈fs,0≤f.kids∧f.kids≤i)(ha:a<fs.length):∀f∈Xj fs a,0≤f.kids∧f.kids≤(i+1:Nat):=by
 intro f hf
 rcases List.mem_or_eq_of_mem_set hf with hf|rfl
 ·have:=h f hf;omega
 ·have:=h (fs.getD a default) (by simp[List.getD_eq_getElem?_getD,ha])
  simp only;omega
theorem Xd{ns:List Int}{i:Nat}{fs:List Fd}{op:List Int}{k0:Nat}{a:Int}{t:List Int}(hrun:X8 ns (12-i) i fs op=X8 ns 12 0 fs0 [0])(hlen:fs.length=i+1)
 (hkid:∀f∈fs,0≤f.kids∧f.kids≤i) (hin:(i:Int)<ns.length) (h12:(i:Int)<12) (hk0:wi (wr .i64 ((ns.getD i 0).tdiv 64)) 3=(k0:Int)) (hp:Kq fs k0 op=a::t)
 (hop1:∀p∈a::t,0≤p∧p<fs.length) (hol2:t.length+1≤i+1) (kd:Int) (hkd:YP (a::t) (ns.getD i 0)=kd) (op':List Int) (hop':op'=if kd=0 then(fs.length:Int)::a::t else a::t)
 (fs':List Fd) (hfs':fs'=Xj fs a.toNat++[⟨nmM i,wi (wr .i64 ((ns.getD i 0).tdiv 8)) 3,kd,0⟩]):
 X8 ns (12-(i+1)) (i+1) fs' op'=X8 ns 12 0 fs0 [0]∧fs'.length=i+1+1∧op'≠[]∧(∀p∈op',0≤p∧p<fs'.length)∧(∀f∈fs',0≤f.kids∧f.kids≤(i+1:Nat))∧op'.length≤i+1+1:=by
 have ha:=hop1 a (List.mem_cons_self ..)
 have hl':fs'.length=i+1+1:=by rw[hfs'];simp[Qb,hlen]
 refine⟨?_,hl',?_,?_,?_,?_⟩
 ·rw[←hrun,show 12-i=12-(i+1)+1 by omega,X8,if_pos (by omega)]
  simp only[YF,hk0,Int.toNat_natCast,hp,Zt,List.headD_cons,Hz,hkd,←hfs',←hop']
 ·rw[hop'];split<;>simp
 ·intro p hp'
  rw[hl']
  have:p=(fs.length:Int)∨p∈a::t:=by
   rw[hop']at hp'
   split at hp'
   ·exact List.mem_cons.1 hp'
   ·exact .inr hp'
  rcases this with rfl|h
  ·omega
  ·have:=hop1 p h;omega
 ·intro f hf
  rw[hfs']at hf
  rcases List.mem_append.1 hf with hf|hf
  ·exact Eh hkid (by omega) f hf
  ·simp only[List.mem_singleton]at hf;subst hf;simp only;omega
 ·rw[hop'];split<;>simp only[List.length_cons]<;>omega
theorem Vy{ns:List Int}{n i:Nat}{fs:List Fd}{op:List Int}(h:¬(i<ns.length∧i<12)):X8 ns n i fs op=(fs,op):=by
 cases n with
 |zero=>rfl
 |succ n=>simp only[X8,h,if_false]
end
structure Nam(fs:List Fd):Prop where
 pos:0<fs.length
 le:fs.length≤14
 root:(fs.getD 0 default).name=[109]
 at':∀j,1≤j→j<fs.length→(fs.getD j default).name=nmM (j-1)∧j≤12∨((fs.getD j default).name=[122]∧j+1=fs.length)
theorem VF(fs:List Fd)(a j:Nat):((Xj fs a).getD j default).name=(fs.getD j default).name:=by
 unfold Xj
 rw[List.getD_eq_getElem?_getD,List.getD_eq_getElem?_getD,List.getElem?_set]
 split
 ·rename_i h;subst h
  split
  ·rename_i h;simp[h]
  ·rename_i h;simp[Nat.le_of_not_lt h]
 ·rfl
theorem UM{fs:List Fd}{a:Nat}{m:Int}(h:∀j,(fs.getD j default).kids≤m)(j:Nat):((Xj fs a).getD j default).kids≤m+1:=by
 unfold Xj
 rw[List.getD_eq_getElem?_getD,List.getElem?_set]
 have hj:=h j
 rw[List.getD_eq_getElem?_getD]at hj
 split
 ·rename_i e;subst e
  split
  ·have:=h a;simp;omega
  ·rename_i hh;simp[Nat.le_of_not_lt hh]at hj ⊢;omega
 ·omega
theorem QY{α:Type}{l:List α}{x d:α}{j:Nat}(h:j<l.length):(l++[x]).getD j d=l.getD j d:=by
 simp[List.getD_eq_getElem?_getD,List.getElem?_append_left h]
theorem Zn{α:Type}{l:List α}{x d:α}:(l++[x]).getD l.length d=x:=by
 simp[List.getD_eq_getElem?_getD]
structure MkI(i:Nat)(fs:List Fd)(op:List Int):Prop where
 len:fs.length=i+1
 root:(fs.getD 0 default).name=[109]
 nm:∀j,1≤j→j<fs.length→(fs.getD j default).name=nmM (j-1)
 kids:∀j,(fs.getD j default).kids≤i
 rep:∀f∈fs,0≤f.rep∧f.rep≤2∧0≤f.kind∧f.kind≤4
theorem Dv{fs:List Fd}{a:Nat}{f:Fd}(h:∀f∈fs,0≤f.rep∧f.rep≤2∧0≤f.kind∧f.kind≤4)(hf:f∈Xj fs a):0≤f.rep∧f.rep≤2∧0≤f.kind∧f.kind≤4:=by
 rcases List.mem_or_eq_of_mem_set hf with hf|rfl
 ·exact h f hf
 ·by_cases ha:a<fs.length
  ·exact h (fs.getD a default) (by simp[List.getD_eq_getElem?_getD,ha])
  ·simp[List.getD_eq_getElem?_getD,Nat.le_of_not_lt ha]
   decide
theorem Dt(op:List Int)(x:Int):0≤YP op x∧YP op x≤4:=by
 obtain⟨h1,h2⟩:=Zs (a:=x) (n:=8) (by decide)
 have h3:(wi x 8).tmod 5=wi x 8%5:=Int.tmod_eq_emod_of_nonneg h1
 unfold YP
 split<;>omega
theorem Hf{ns:List Int}{i:Nat}{fs:List Fd}{op:List Int}(h:MkI i fs op)(x:Int):MkI (i+1) (YF fs op i x).1 (YF fs op i x).2:=by
 have hl:=h.len
 obtain⟨w1,w2⟩:=Zs (a:=wr .i64 (x.tdiv 8)) (n:=3) (by decide)
 refine⟨by simp[YF,Qb,hl],?_,?_,?_,?_⟩
 ·simp only[YF]
  rw[QY (by rw[Qb];omega),VF];exact h.root
 ·intro j h1 h2
  simp only[YF]at h2 ⊢
  simp[Qb]at h2
  by_cases hj:j<fs.length
  ·rw[QY (by rw[Qb];exact hj),VF];exact h.nm j h1 hj
  ·obtain rfl:j=fs.length:=by omega
   rw[←Qb fs (Zt (Kq fs (wi (wr .i64 (x.tdiv 64)) 3).toNat op)).toNat,Zn]
   simp only[Hz,Qb,hl];rfl
 ·intro j
  simp only[YF]
  by_cases hj:j<fs.length
  ·rw[QY (by rw[Qb];exact hj)]
   have:=UM (a:=(Zt (Kq fs (wi (wr .i64 (x.tdiv 64)) 3).toNat op)).toNat) h.kids j
   omega
  ·by_cases hj':j=fs.length
   ·subst hj'
    rw[←Qb fs (Zt (Kq fs (wi (wr .i64 (x.tdiv 64)) 3).toNat op)).toNat,Zn]
    simp only[Hz];omega
   ·rw[List.getD_eq_getElem?_getD,List.getElem?_eq_none (by simp[Qb];omega)]
    show(0:Int)≤_;omega
 ·intro f hf
  simp only[YF]at hf
  rcases List.mem_append.1 hf with hf|hf
  ·exact Dv h.rep hf
  ·simp only[List.mem_singleton]at hf;subst hf
   have:=Dt (Kq fs (wi (wr .i64 (x.tdiv 64)) 3).toNat op) x
   simp only[Hz];omega
theorem Cv{ns:List Int}:∀(n i:Nat) (fs:List Fd) (op:List Int),MkI i fs op→n+i=12→ ∃m,m≤12∧MkI m (X8 ns n i fs op).1 (X8 ns n i fs op).2
 |0,i,fs,op,h,hn=>⟨i,by omega,h⟩
 |n+1,i,fs,op,h,hn=>by
  rw[X8]
  split
  ·exact Cv n (i+1) _ _ (Hf (ns:=ns) h _) (by omega)
  ·exact⟨i,by omega,h⟩
theorem F3(ns:List Int):∃m,m≤12∧MkI m (X8 ns 12 0 fs0 [0]).1 (X8 ns 12 0 fs0 [0]).2:=by
 refine Cv 12 0 _ _ ⟨rfl,rfl,fun j h1 h2=>?_,fun j=>?_,?_⟩ rfl
 ·simp at h2;omega
 ·match j with
  |0=>exact Int.le_refl _
  |j+1=>exact Int.le_refl _
 ·intro f hf;simp only[List.mem_singleton]at hf;subst hf;decide
theorem YO(ns:List Int):Nam (Qs ns):=by
 obtain⟨m,hm,h⟩:=F3 ns
 have hl:=h.len
 simp only[Qs]
 generalize(X8 ns 12 0 fs0 [0]).1=fs at *
 generalize(X8 ns 12 0 fs0 [0]).2=op at *
 unfold Yu
 split
 ·refine⟨by simp,by simp[Qb];omega,by rw[QY (by rw[Qb];omega),VF];exact h.root,fun j h1 h2=>?_⟩
  simp[Qb]at h2
  by_cases hj:j<fs.length
  ·left
   rw[QY (by rw[Qb];exact hj),VF];exact⟨h.nm j h1 hj,by omega⟩
  ·right
   obtain rfl:j=fs.length:=by omega
   refine⟨?_,by simp[Qb]⟩
   rw[←Qb fs (Zt op).toNat,Zn]
 ·exact⟨by omega,by omega,h.root,fun j h1 h2=>.inl ⟨h.nm j h1 h2,by omega⟩⟩
theorem Dl(ns:List Int):∀f∈Qs ns,0≤f.rep∧f.rep≤2∧0≤f.kind∧f.kind≤4:=by
 obtain⟨m,hm,h⟩:=F3 ns
 simp only[Qs]
 generalize(X8 ns 12 0 fs0 [0]).1=fs at *
 generalize(X8 ns 12 0 fs0 [0]).2=op at *
 unfold Yu
 split
 ·intro f hf
  rcases List.mem_append.1 hf with hf|hf
  ·exact Dv h.rep hf
  ·simp only[List.mem_singleton]at hf;subst hf;decide
 ·exact h.rep
theorem Ea(ns:List Int)(j:Nat):((Qs ns).getD j default).kids≤13:=by
 obtain⟨m,hm,h⟩:=F3 ns
 simp only[Qs]
 generalize(X8 ns 12 0 fs0 [0]).1=fs at *
 generalize(X8 ns 12 0 fs0 [0]).2=op at *
 unfold Yu
 split
 ·by_cases hj:j<fs.length
  ·rw[QY (by rw[Qb];exact hj)]
   have:=UM (a:=(Zt op).toNat) h.kids j
   omega
  ·by_cases hj':j=fs.length
   ·subst hj'
    rw[←Qb fs (Zt op).toNat,Zn]
    decide
   ·rw[List.getD_eq_getElem?_getD,List.getElem?_eq_none (by simp[Qb];omega)]
    decide
 ·have:=h.kids j;omega
theorem Nam.len1{fs:List Fd}(h:Nam fs)(j:Nat):(fs.getD j default).name.length≤1:=by
 by_cases hj:j<fs.length
 ·by_cases h0:j=0
  ·subst h0;rw[h.root];decide
  ·rcases h.at' j (by omega) hj with⟨e,_⟩|⟨e,_⟩<;>rw[e]<;>simp[nmM]
 ·rw[List.getD_eq_getElem?_getD,List.getElem?_eq_none (by omega)]
  decide
theorem IK(ns:List Int):FsOk (Qs ns):=by
 have h:=YO ns
 exact⟨by have:=h.le;omega,fun i=>by have:=Ea ns i;omega,fun i=>by have:=h.len1 i;omega⟩
theorem IE:∀i,i<12→ ∀k,k<12→nmM i=nmM k→i=k:=by decide
theorem Lx:∀i,i<12→nmM i≠[122]:=by decide
theorem Nam.inj{fs:List Fd}(h:Nam fs){i k:Nat}(h1:1≤i)(h2:i<fs.length)(h3:1≤k)(h4:k<fs.length)(e:(fs.getD i default).name=(fs.getD k default).name):i=k:=by
 rcases h.at' i h1 h2 with⟨a,a'⟩|⟨a,a'⟩<;>rcases h.at' k h3 h4 with⟨b,b'⟩|⟨b,b'⟩
 ·rw[a,b]at e
  have:=IE _ (by omega) _ (by omega) e
  omega
 ·rw[a,b]at e;exact absurd e (Lx _ (by omega))
 ·rw[a,b]at e;exact absurd e.symm (Lx _ (by omega))
 ·omega
theorem Nam.one{fs:List Fd}(h:Nam fs){i:Nat}(h1:1≤i)(h2:i<fs.length):∃b,(fs.getD i default).name=[b]:=by
 rcases h.at' i h1 h2 with⟨a,_⟩|⟨a,_⟩
 ·exact⟨_,a⟩
 ·exact⟨_,a⟩
theorem C6(fs:List Fd)(ps:List Int):∀(n:Nat) (k:Int) (out:List UInt8),∃p,upK fs ps n k out=p++out
 |0,k,out=>⟨[],rfl⟩
 |n+1,k,out=>by
  rw[upK]
  split
  ·obtain⟨p,hp⟩:=C6 fs ps n (ps.getD k.toNat 0) ((fs.getD k.toNat default).name++[46]++out)
   exact⟨p++(fs.getD k.toNat default).name++[46],by rw[hp];simp⟩
  ·exact⟨[],rfl⟩
theorem M7{fs:List Fd}{ps:List Int}{i:Nat}(h1:1≤i)(h2:i<fs.length):∃p,Zc fs ps i=p++(fs.getD i default).name:=by
 rw[Zc,if_neg (by omega)]
 obtain⟨p,hp⟩:=C6 fs ps fs.length (ps.getD (i:Int).toNat 0) (fs.getD (i:Int).toNat default).name
 exact⟨p,hp⟩
theorem E5{fs:List Fd}{ps:List Int}{i:Int}(h:i≤0∨fs.length≤i):Zc fs ps i=[]:=by
 rw[Zc,if_pos h]
theorem J0{fs:List Fd}{ps:List Int}(h:Nam fs){i k:Nat}(h1:1≤i)(h2:i<fs.length)(h3:k<i):Zc fs ps i≠Zc fs ps k:=by
 obtain⟨p,hp⟩:=M7 (ps:=ps) h1 h2
 obtain⟨b,hb⟩:=h.one h1 h2
 rw[hp,hb]
 by_cases hk:k=0
 ·subst hk;rw[E5 (.inl (by simp))];simp
 ·obtain⟨q,hq⟩:=M7 (ps:=ps) (fs:=fs) (i:=k) (by omega) (by omega)
  obtain⟨c,hc⟩:=h.one (i:=k) (by omega) (by omega)
  rw[hq,hc]
  intro e
  have:=List.append_inj_right' e rfl
  rw[←hb,←hc]at this
  have:=h.inj h1 h2 (by omega) (by omega) this
  omega
def lf0:Lf:=⟨0,0,0,0⟩
def Yr(L:List Lf)(p:Int):Lf:=if 0≤p then L.getD p.toNat default else lf0
def mkL(fs:List Fd)(ps:List Int)(L:List Lf)(i:Nat):Lf:=
 let f:=fs.getD i default
 let b:=Yr L (ps.getD i 0)
 ⟨i,if f.rep=2 then b.r+1 else b.r,if f.rep≠0 then b.d+1 else b.d,f.kind⟩
def Qd(fs:List Fd)(ps:List Int):Nat→List Lf
 |0=>[]
 |i+1=>Qd fs ps i++[mkL fs ps (Qd fs ps i) i]
def F9(l:Lf):Bool:=decide (l.kind≠0)
def QF(fs:List Fd)(ps:List Int)(i:Nat):List Lf:=(Qd fs ps i).filter F9
def Q2(fs:List Fd):List Lf:=QF fs (Q6 fs) fs.length
theorem QS(fs:List Fd)(ps:List Int):∀i,(Qd fs ps i).length=i
 |0=>rfl
 |i+1=>by simp[Qd,QS fs ps i]
theorem Ya(fs:List Fd)(ps:List Int){j:Nat}:∀{i:Nat},j<i→(Qd fs ps i).getD j default=mkL fs ps (Qd fs ps j) j
 |0,h=>by omega
 |i+1,h=>by
  by_cases hj:j<i
  ·rw[Qd,QY (by rw[QS];exact hj)];exact Ya fs ps hj
  ·obtain rfl:j=i:=by omega
   have:=Zn (l:=Qd fs ps j) (x:=mkL fs ps (Qd fs ps j) j) (d:=default)
   rw[QS]at this
   exact this
theorem Uf(fs:List Fd)(ps:List Int){j i k:Nat}(h1:j<i)(h2:j<k):(Qd fs ps i).getD j default=(Qd fs ps k).getD j default:=by rw[Ya fs ps h1,Ya fs ps h2]
theorem Q4(fs:List Fd)(ps:List Int)(i:Nat):QF fs ps (i+1)=if(fs.getD i default).kind≠0 then QF fs ps i++[mkL fs ps (Qd fs ps i) i]else QF fs ps i:=by
 unfold QF
 rw[Qd,List.filter_append]
 by_cases h:(fs.getD i default).kind≠0
 ·have hl:F9 (mkL fs ps (Qd fs ps i) i)=true:=decide_eq_true h
  rw[if_pos h,List.filter_cons,if_pos hl];rfl
 ·have hl:F9 (mkL fs ps (Qd fs ps i) i)=false:=decide_eq_false h
  rw[if_neg h,List.filter_cons,if_neg (by rw[hl];decide)];simp
theorem ZE(fs:List Fd)(ps:List Int)(i:Nat):(QF fs ps i).length≤i:=by
 have:=List.length_filter_le F9 (Qd fs ps i)
 rw[QS]at this
 exact this
def CU(ps:List Int)(n:Nat):Prop:=∀j,j<n→ -1≤ps.getD j 0∧ps.getD j 0<j
theorem VR(fs:List Fd):CU (Q6 fs) fs.length:=fun j h=>Uc fs j h
theorem Wx{fs:List Fd}{ps:List Int}{n:Nat}(ha:CU ps n):∀i,i≤n→ ∀j,j<i→0≤((Qd fs ps i).getD j default).r∧((Qd fs ps i).getD j default).r≤((Qd fs ps i).getD j default).d∧((Qd fs ps i).getD j default).d≤j+1
 |0,_,j,h=>by omega
 |i+1,hi,j,h=>by
  by_cases hj:j<i
  ·rw[Uf fs ps h hj];exact Wx ha i (by omega) j hj
  ·obtain rfl:j=i:=by omega
   rw[Ya fs ps h]
   have hp:=ha j (by omega)
   have hb:0≤(Yr (Qd fs ps j) (ps.getD j 0)).r∧(Yr (Qd fs ps j) (ps.getD j 0)).r≤(Yr (Qd fs ps j) (ps.getD j 0)).d∧(Yr (Qd fs ps j) (ps.getD j 0)).d≤j:=by
    unfold Yr
    split
    ·have:=Wx (fs:=fs) ha j (by omega) (ps.getD j 0).toNat (by omega)
     omega
    ·simp[lf0]
   simp only[mkL]
   split<;>split<;>omega
def upR(fs:List Fd)(ps:List Int)(n:Nat)(k:Int):Int:=if 0≤k then((Qd fs ps n).getD k.toNat default).r else 0
def upD(fs:List Fd)(ps:List Int)(n:Nat)(k:Int):Int:=if 0≤k then((Qd fs ps n).getD k.toNat default).d else 0
theorem FY{fs:List Fd}{ps:List Int}{n k:Nat}(ha:CU ps n)(hk:k<n):upR fs ps n k=upR fs ps n (ps.getD k 0)+(if(fs.getD k default).rep=2 then 1 else 0):=by
 have hp:=ha k hk
 unfold upR
 rw[if_pos (by omega),Int.toNat_natCast,Ya fs ps hk]
 simp only[mkL,Yr]
 by_cases h:0≤ps.getD k 0
 ·rw[if_pos h,if_pos h,Uf fs ps (i:=k) (k:=n) (by omega) (by omega)]
  split<;>omega
 ·rw[if_neg h,if_neg h]
  simp only[lf0];split<;>rfl
theorem FZ{fs:List Fd}{ps:List Int}{n k:Nat}(ha:CU ps n)(hk:k<n):upD fs ps n k=upD fs ps n (ps.getD k 0)+(if(fs.getD k default).rep≠0 then 1 else 0):=by
 have hp:=ha k hk
 unfold upD
 rw[if_pos (by omega),Int.toNat_natCast,Ya fs ps hk]
 simp only[mkL,Yr]
 by_cases h:0≤ps.getD k 0
 ·rw[if_pos h,if_pos h,Uf fs ps (i:=k) (k:=n) (by omega) (by omega)]
  split<;>omega
 ·rw[if_neg h,if_neg h]
  simp only[lf0];split<;>rfl
theorem Dn{fs:List Fd}{ps:List Int}{i:Nat}:∀{n:Nat},i<n→(fs.getD i default).kind≠0→(QF fs ps n).getD (QF fs ps i).length default=mkL fs ps (Qd fs ps i) i∧(QF fs ps i).length<(QF fs ps n).length
 |0,h,_=>by omega
 |n+1,h,hk=>by
  by_cases hi:i<n
  ·obtain⟨h1,h2⟩:=Dn (ps:=ps) hi hk
   rw[Q4]
   split
   ·refine⟨?_,by simp;omega⟩
    rw[QY h2];exact h1
   ·exact⟨h1,h2⟩
  ·obtain rfl:i=n:=by omega
   rw[Q4,if_pos hk]
   exact⟨Zn,by simp⟩
structure LastI(fs:List Fd)(op:List Int):Prop where
 pos:0<fs.length
 last:(fs.getD (fs.length-1) default).kind=0→Zt op=((fs.length-1:Nat):Int)∧(fs.getD (fs.length-1) default).kids=0
theorem Bv{fs:List Fd}{op:List Int}(h:LastI fs op)(i:Nat)(x:Int):LastI (YF fs op i x).1 (YF fs op i x).2:=by
 have hp:=h.pos
 refine⟨by simp[YF],fun hk=>?_⟩
 simp only[YF]at hk ⊢
 have hl:∀a y,(Xj fs a++[y]).length-1=(Xj fs a).length:=fun a y=>by simp
 rw[hl]at hk ⊢
 rw[Zn]at hk
 rw[Zn,if_pos hk]
 exact⟨by simp[Zt,Qb],rfl⟩
theorem Mh{ns:List Int}:∀(n i:Nat) (fs:List Fd) (op:List Int),LastI fs op→LastI (X8 ns n i fs op).1 (X8 ns n i fs op).2
 |0,i,fs,op,h=>h
 |n+1,i,fs,op,h=>by
  rw[X8]
  split
  ·exact Mh n (i+1) _ _ (Bv h _ _)
  ·exact h
theorem E9(ns:List Int):((Qs ns).getD ((Qs ns).length-1) default).kind≠0:=by
 have h:LastI (X8 ns 12 0 fs0 [0]).1 (X8 ns 12 0 fs0 [0]).2:=Mh 12 0 _ _ ⟨by decide,fun _=>⟨rfl,rfl⟩⟩
 simp only[Qs]
 generalize(X8 ns 12 0 fs0 [0]).1=fs at *
 generalize(X8 ns 12 0 fs0 [0]).2=op at *
 unfold Yu
 split
 ·rw[show(Xj fs (Zt op).toNat++[(⟨[122],0,4,0⟩:Fd)]).length-1=(Xj fs (Zt op).toNat).length by simp,Zn]
  decide
 ·rename_i h0
  intro hk
  obtain⟨h1,h2⟩:=h.last hk
  rw[h1,Int.toNat_natCast]at h0
  exact h0 h2
theorem J3(ns:List Int):0<(Q2 (Qs ns)).length:=by
 have hn:=(YO ns).pos
 have:=(Dn (ps:=Q6 (Qs ns)) (n:=(Qs ns).length) (by omega) (E9 ns)).2
 unfold Q2
 omega
inductive Tr where
 |mk (kids:List (List Tr)) (n:Int) (s:List UInt8)
instance:Inhabited Tr:=⟨.mk [] 0 []⟩
mutual
def encT:Tr→List AVal
 | .mk ks n s=>[.int .i64 n,.str s,.vs 1 (HG ks)]
def HG:List (List Tr)→List (List AVal)
 |[]=>[]
 |l::ks=>[.vs 3 (DH l)]::HG ks
def DH:List Tr→List (List AVal)
 |[]=>[]
 |t::l=>encT t::DH l
end
theorem Mt:∀l:List Tr,DH l=l.map encT
 |[]=>by rw[DH];rfl
 |t::l=>by rw[DH,Mt l];rfl
theorem DI:∀l:List (List Tr),HG l=l.map fun x=>[.vs 3 (x.map encT)]
 |[]=>by rw[HG];rfl
 |t::l=>by rw[HG,DI l,Mt];rfl
theorem QL(ks:List (List Tr))(n:Int)(s:List UInt8):encT (.mk ks n s)=[.int .i64 n,.str s,.vs 1 (ks.map fun x=>[.vs 3 (x.map encT)])]:=by rw[encT,DI]
def Zd(ns:List Int)(a:Nat):Int×Nat:=if a<ns.length then(ns.getD a 0,a+1)else(0,a)
def OK:List UInt8:=[97,98,99,97,98,99,97,98,99,97,98,99]
def Mg(k x:Int):Tr:=if k=1 then .mk [] (wi x 2) []else if k=2 then .mk [] (wi x 300-100) []else if k=3 then .mk [] x []else .mk [] 0 (OK.take (wi x 9).toNat)
def Fr(ns:List Int)(f:Fd)(a:Nat):Nat×Nat:=if f.rep=1 then((wi (Zd ns a).1 2).toNat,(Zd ns a).2)else if f.rep=2 then((wi (Zd ns a).1 4).toNat,(Zd ns a).2)else(1,a)
def XO(val:Nat→Tr×Nat):Nat→Nat→List Tr→List Tr×Nat
 |0,a,l=>(l,a)
 |k+1,a,l=>XO val k (val a).2 (l++[(val a).1])
def UL(fs:List Fd)(ps ns:List Int)(i:Nat)(val:Nat→Nat→Tr×Nat):Nat→Nat→Nat→List (List Tr)→List (List Tr)×Nat
 |0,_,a,ks=>(ks,a)
 |c+1,j,a,ks=>if ps.getD j 0=i then
   let k:=Fr ns (fs.getD j default) a
   let l:=XO (val j) k.1 k.2 []
   UL fs ps ns i val c (j+1) l.2 (ks++[l.1])
  else UL fs ps ns i val c (j+1) a ks
def ZQ(fs:List Fd)(ps ns:List Int):Nat→Nat→Nat→Tr×Nat
 |0,_,a=>(default,a)
 |f+1,i,a=>
  if(fs.getD i default).kind≠0 then(Mg (fs.getD i default).kind (Zd ns a).1,(Zd ns a).2)
  else
   let q:=UL fs ps ns i (ZQ fs ps ns f) (fs.length-(i+1)) (i+1) (Zd ns a).2 []
   (.mk q.1 0 [],q.2)
theorem VC(ns:List Int){a:Nat}(h:a≤ns.length):(Zd ns a).2≤ns.length:=by
 unfold Zd
 split
 ·exact ‹_›
 ·exact h
theorem L2(ns:List Int)(f:Fd){a:Nat}(h:a≤ns.length):(Fr ns f a).2≤ns.length:=by
 unfold Fr
 split
 ·exact VC ns h
 ·split
  ·exact VC ns h
  ·exact h
theorem Ck{m:Nat}{val:Nat→Tr×Nat}(hv:∀a,a≤m→(val a).2≤m):∀(k a:Nat) (l:List Tr),a≤m→(XO val k a l).2≤m
 |0,a,l,h=>h
 |k+1,a,l,h=>Ck hv k _ _ (hv a h)
theorem G9(fs:List Fd)(ps ns:List Int)(i:Nat){val:Nat→Nat→Tr×Nat}(hv:∀j a,a≤ns.length→(val j a).2≤ns.length):∀(c j a:Nat) (ks:List (List Tr)),a≤ns.length→(UL fs ps ns i val c j a ks).2≤ns.length
 |0,_,a,ks,h=>h
 |c+1,j,a,ks,h=>by
  rw[UL]
  split
  ·exact G9 fs ps ns i hv c _ _ _ (Ck (hv j) _ _ _ (L2 ns _ h))
  ·exact G9 fs ps ns i hv c _ _ _ h
theorem WG(fs:List Fd)(ps ns:List Int):∀(f i a:Nat),a≤ns.length→(ZQ fs ps ns f i a).2≤ns.length
 |0,_,a,h=>h
 |f+1,i,a,h=>by
  rw[ZQ]
  split
  ·exact VC ns h
  ·exact G9 fs ps ns i (fun j a=>WG fs ps ns f j a) _ _ _ _ (VC ns h)
def J4(fs:List Fd)(ns:List Int):Tr:=(ZQ fs (Q6 fs) ns fs.length 0 0).1
section
set_option maxRecDepth 100000
set_option maxHeartbeats 4000000
def G_within:List AVal→(AVal→Prop)→Prop:=fun args K=>∃a n,args=[.int .i64 a,.int .i64 n]∧(0<n∧n≤4611686018427387904)∧K (.int .i64 (wi a n))
theorem GQ[Syms]:MF Tryz.prog 15 G_within:=by
 rintro args K ⟨a,n,rfl,⟨h1,h2⟩,hk⟩
 refine⟨JG,_,hk,fun ι w vs hv=>?_⟩
 obtain⟨v0,vs0,rfl,hv0,hv⟩:=hv.uncons
 obtain⟨v1,vs1,rfl,hv1,hv⟩:=hv.uncons
 obtain rfl:=hv.unnil
 obtain rfl:=hv0.of_int
 obtain rfl:=hv1.of_int
 refine(UA a n h1 h2 w).mono ?_
 rintro e w' ⟨rfl,rfl⟩
 exact⟨_,rfl,.int _ _,rfl⟩
abbrev cWi:CallT:=Qu 15 (FW G_within) Ql
theorem L7[Syms]:cWi.det Tryz.prog:=Kr GQ Qe
theorem Ns[Syms]:cWi.ok Tryz.prog:=XA GQ Qk
theorem Q5(k:IntKind)(n:Int):asI (.int k n)=n:=rfl
theorem Qc(a:Int):(encI a).getD 0 .any= .int .i64 a:=rfl
theorem Qv(f:Fd):(encF f).getD 3 .any= .int .i64 f.kids:=rfl
theorem Qi(f:Fd):(encF f).getD (0+3) .any= .int .i64 f.kids:=rfl
theorem Qx(f:Fd):(encF f).length=4:=rfl
theorem E4{fs:List Fd}{n:Nat}{a:Int}{t:List Int}(h:n=0∨t=[]∨ ¬0<(fs.getD a.toNat default).kids):Kq fs n (a::t)=a::t:=by
 cases n with
 |zero=>rfl
 |succ n=>cases t with
  |nil=>rfl
  |cons b t2=>rcases h with h|h|h
              ·exact absurd h (by omega)
              ·exact absurd h (by simp)
              ·simp only[Kq,h,if_false]
theorem Qa{k:IntKind}{a b:Int}(h:a=b):WkV (.int k a) (.int k b):=h▸ .refl _
theorem Q3{n off l l' sz:Nat}{c:Option Nat}(h:l=l'):WkV (.slice n off l sz c) (.slice n off l' sz none):=h▸ .cap _ _ _ _ _
def pSt(ns:List Int)(i:Nat)(fs:List Fd)(m:Nat)(R:List (List AVal))(k:Nat):St:=
 ⟨[(0,vI ns),(3,.slice 0 0 fs.length 4 none),(4,.slice 1 0 m 1 none),(5,.int .i64 i),(6,.int .i64 k)],[(0,some (.cells (fs.map encF) false)),(1,some (.cells R false))],2⟩
def mSt(ns:List Int)(i:Nat)(fs:List Fd)(m:Nat)(R:List (List AVal)):St:=
 ⟨[(0,vI ns),(3,.slice 0 0 fs.length 4 none),(4,.slice 1 0 m 1 none),(5,.int .i64 i)],[(0,some (.cells (fs.map encF) false)),(1,some (.cells R false))],2⟩
theorem LX[Syms](ns:List Int)(hn:ns.length≤9223372036854775807):
 fnT cWi cWi (QW fns) (QP tys) (Z1 plt) 100 6 [vI ns] [] 0 (fun v H _=>v=vF (Qs ns)∧H=[]):=by
 refine⟨fun n s=>∃(i:Nat) (fs:List Fd) (op:List Int) (m:Nat) (junk R:List (List AVal)),(n=12-i∧i≤12∧X8 ns (12-i) i fs op=X8 ns 12 0 [⟨[109],0,0,0⟩] [0]∧fs.length=i+1∧m=op.length∧op≠[]∧(∀p∈op,0≤p∧p<fs.length)∧(∀f∈fs,0≤f.kids∧f.kids≤i)∧op.length≤i+1∧R=op.reverse.map encI++junk∧Qg junk)∧s=mSt ns i fs m R,
  ⟨_,mSt ns 0 [⟨[109],0,0,0⟩] 1 [[.int .i64 0]],Q0 [0,1] rfl ?_ ?_,0,_,[0],_,[],_,⟨rfl,by omega,rfl,rfl,rfl,by simp,by simp,by simp,by simp,rfl,QX⟩,rfl⟩,?_⟩
 ·exact⟨.refl _,.cap _ _ _ _ _,.cap _ _ _ _ _,.refl _,trivial⟩
 ·exact⟨⟨by decide,_,rfl,Q1 rfl (fF [⟨[109],0,0,0⟩])⟩,⟨by decide,_,rfl,.refl _⟩,trivial⟩
 rintro n s ⟨i,fs,op,m,junk,R,⟨rfl,hi,hrun,hlen,rfl,hne,hop,hkid,hol0,hR,hj⟩,rfl⟩
 have hop0:0≤Zt op∧Zt op<fs.length:=by
  cases op with
  |nil=>exact absurd rfl hne
  |cons a t=>exact hop a (List.mem_cons_self ..)
 have hx1:(0:Nat)+0=0:=rfl
 have hx2:R.getD (0+((↑op.length:Int)-1).toNat) []=encI (Zt op):=by
  obtain⟨a,t,rfl⟩:∃a t,op=a::t:=by cases op with|nil=>exact absurd rfl hne|cons a t=>exact⟨a,t,rfl⟩
  rw[show 0+((↑(a::t).length:Int)-1).toNat=t.length by rw[List.length_cons];omega,hR];simp[List.getElem?_append,List.getElem?_map,Zt]
 have hx3:(fs.map encF).getD (0+(Zt op).toNat) []=encF (fs.getD (Zt op).toNat default):=by rw[Nat.zero_add];exact U4 encF default (by omega)
 have hRl:R.length=op.length+junk.length:=by rw[hR];simp
 have hkb:0≤(fs.getD (Zt op).toNat default).kids∧(fs.getD (Zt op).toNat default).kids≤i:=by
  have hlt:(Zt op).toNat<fs.length:=by omega
  have:fs.getD (Zt op).toNat default=fs[(Zt op).toNat]:=by simp[List.getD_eq_getElem?_getD,hlt]
  rw[this];exact hkid _ (List.getElem_mem hlt)
 have hol1:0<op.length:=List.length_pos_iff.2 hne
 repeat' first|refine And.intro ?_ ?_|(intro h;try simp only[decide_eq_true_eq,decide_eq_false_iff_not,Int.not_lt,Int.not_le,Int.toNat_natCast,↓reduceIte,Nat.reduceAdd,reduceCtorEq,Int.reduceLT,Int.lt_irrefl,gt_iff_lt,not_true_eq_false,not_false_eq_true,Bool.not_true,Bool.not_false,decide_false,decide_true,Int.reduceLE,Int.reduceSub,Bool.false_eq_true,Bool.true_eq_false,Nat.reduceEqDiff,Nat.one_ne_zero,Nat.reduceLT,and_self,and_true,true_and,Int.natCast_zero,Int.cast_ofNat_Int,List.length_nil,ne_eq,Decidable.not_not,hx1,hx2,hx3,Q5,Qc,Qv,Qi]at h)
 all_goals(try first|exact PlanIs.mk (by kernel_rfl)|omega|exact rfl|exact Nat.le_of_ble_eq_true rfl|(show(_:Int)≤(_:Int);simp only[hx1,hx2,hx3,Q5,Qc,Qv,Qi,Qx,List.length_set,List.length_map,hRl];omega)|(show(_:Int)<(_:Int);simp only[hx1,hx2,hx3,Q5,Qc,Qv,Qi,Qx,List.length_set,List.length_map,hRl];omega)|(show(_:Nat)≤(_:Nat);simp only[hx1,hx2,hx3,Q5,Qc,Qv,Qi,Qx,List.length_set,List.length_map,hRl];omega)|(show isC _ _ _=true;simp only[hx1,hx2,hx3,Q5,Qc,Qv,Qi,Qx,List.length_set,List.length_map,hRl];exact rfl))
 ·refine⟨_,3,rfl,by omega,?_⟩
  obtain⟨hw1,hw2⟩:=Zs (a:=wr .i64 ((ns.getD i 0).tdiv 64)) (n:=3) (by omega)
  generalize hk0:wi (wr .i64 ((ns.getD i 0).tdiv 64)) 3=k0 at hw1 hw2
  obtain⟨k0,rfl⟩:=Int.eq_ofNat_of_zero_le hw1
  have hfF:Qg (fs.map encF):=fF fs
  have hfR:Qg R:=by rw[hR];exact QI (fI _) hj
  refine⟨fun n s=>∃(kk:Nat) (o:List Int) (j1:List (List AVal)),(n=kk∧kk≤3∧Kq fs kk o=Kq fs k0 op∧R=o.reverse.map encI++j1∧Qg j1∧o≠[]∧(∀p∈o,0≤p∧p<fs.length)∧o.length≤op.length)∧s=pSt ns i fs o.length R kk,⟨_,pSt ns i fs op.length R k0,Q0 [0,1] rfl ?_ ?_,k0,op,junk,⟨rfl,by omega,rfl,hR,hj,hne,hop,Nat.le_refl _⟩,rfl⟩,?_⟩
  ·exact⟨.refl _,.cap _ _ _ _ _,.cap _ _ _ _ _,.refl _,Qa hk0,trivial⟩
  ·exact⟨⟨by decide,_,rfl,Q1 rfl hfF⟩,⟨by decide,_,rfl,Q1 rfl hfR⟩,trivial⟩
  rintro n s ⟨kk,o,j1,⟨rfl,hk3,hpop,hR1,hj1,ho,hop1,hol⟩,rfl⟩
  obtain⟨a,t,rfl⟩:∃a t,o=a::t:=by cases o with|nil=>exact absurd rfl ho|cons a t=>exact⟨a,t,rfl⟩
  have hol2:t.length+1≤i+1:=by rw[List.length_cons]at hol;omega
  have ha:=hop1 a (List.mem_cons_self ..)
  have hx1:0+((↑(t.length+1):Int)-1).toNat=t.length:=by omega
  have hx2:R.getD t.length []=encI a:=by rw[hR1];simp[List.getElem?_append,List.getElem?_map]
  have hc1:isC (Ly 1) (.int .i64 0) ((R.getD (0+((↑(t.length+1):Int)-1).toNat) []).getD 0 .any)=true:=by rw[hx1,hx2];exact rfl
  have hx3:(fs.map encF).getD (0+a.toNat) []=encF (fs.getD a.toNat default):=by rw[Nat.zero_add];exact U4 encF default (by omega)
  have hRl:R.length=t.length+1+j1.length:=by rw[hR1];simp;omega
  have hkb:0≤(fs.getD a.toNat default).kids∧(fs.getD a.toNat default).kids≤i:=by
   have hlt:a.toNat<fs.length:=by omega
   have:fs.getD a.toNat default=fs[a.toNat]:=by simp[List.getD_eq_getElem?_getD,hlt]
   rw[this];exact hkid _ (List.getElem_mem hlt)
  rw[List.length_cons]
  repeat' first|refine And.intro ?_ ?_|(intro h;try simp only[decide_eq_true_eq,decide_eq_false_iff_not,Int.not_lt,Int.not_le,Int.toNat_natCast,↓reduceIte,Nat.reduceAdd,reduceCtorEq,Int.reduceLT,Int.lt_irrefl,gt_iff_lt,not_true_eq_false,not_false_eq_true,Bool.not_true,Bool.not_false,decide_false,decide_true,Int.reduceLE,Int.reduceSub,Bool.false_eq_true,Bool.true_eq_false,Nat.reduceEqDiff,Nat.one_ne_zero,Nat.reduceLT,and_self,and_true,true_and,Int.natCast_zero,Int.cast_ofNat_Int,List.length_nil,ne_eq,Decidable.not_not,hx1,hx2,hx3,Q5,Qc,Qv,Qi]at h)
  all_goals(try first|exact PlanIs.mk (by kernel_rfl)|omega|exact rfl|exact Nat.le_of_ble_eq_true rfl|(show(_:Int)≤(_:Int);simp only[hx1,hx2,hx3,Q5,Qc,Qv,Qi,Qx,List.length_set,List.length_map,hRl];omega)|(show(_:Int)<(_:Int);simp only[hx1,hx2,hx3,Q5,Qc,Qv,Qi,Qx,List.length_set,List.length_map,hRl];omega)|(show(_:Nat)≤(_:Nat);simp only[hx1,hx2,hx3,Q5,Qc,Qv,Qi,Qx,List.length_set,List.length_map,hRl];omega)|(show isC _ _ _=true;simp only[hx1,hx2,hx3,Q5,Qc,Qv,Qi,Qx,List.length_set,List.length_map,hRl];exact rfl))
  ·have h':0<(fs.getD a.toNat default).kids:=by assumption
   obtain⟨b,t2,rfl⟩:∃b t2,t=b::t2:=by
    cases t with
    |nil=>simp only[List.length_nil]at *;omega
    |cons b t2=>exact⟨b,t2,rfl⟩
   have hn0:0<n:=by omega
   refine⟨n-1,pSt ns i fs (b::t2).length R (n-1),Q0 [0,1] rfl ?_ ?_,⟨n-1,b::t2,encI a::j1,⟨rfl,by omega,?_,?_,Wz (by simp[encI];rfl) hj1,by simp,fun p hp=>hop1 p (List.mem_cons_of_mem _ hp),by simp only[List.length_cons]at *;omega⟩,rfl⟩,by omega⟩
   ·exact⟨.refl _,.cap _ _ _ _ _,Q3 (by simp only[List.length_cons];omega),.refl _,Qa (by omega),trivial⟩
   ·exact⟨⟨by decide,_,rfl,Q1 rfl hfF⟩,⟨by decide,_,rfl,Q1 rfl hfR⟩,trivial⟩
   ·rw[←hpop]
    obtain⟨n',rfl⟩:∃n',n=n'+1:=⟨n-1,by omega⟩
    simp only[Kq,h',if_true,Nat.add_sub_cancel]
   ·rw[hR1];simp
  all_goals
   have hp:Kq fs k0 op=a::t:=by
    rw[←hpop]
    refine E4 ?_
    first
    |exact Or.inr (Or.inr (Int.not_lt.2 (by assumption)))
    |exact Or.inl (by omega)
    |exact Or.inr (Or.inl (List.length_eq_zero_iff.1 (by omega)))
   refine⟨_,3,rfl,by omega,?_⟩
  ·skip
   repeat' first|refine And.intro ?_ ?_|(intro h;try simp only[decide_eq_true_eq,decide_eq_false_iff_not,Int.not_lt,Int.not_le,Int.toNat_natCast,↓reduceIte,Nat.reduceAdd,reduceCtorEq,Int.reduceLT,Int.lt_irrefl,gt_iff_lt,not_true_eq_false,not_false_eq_true,Bool.not_true,Bool.not_false,decide_false,decide_true,Int.reduceLE,Int.reduceSub,Bool.false_eq_true,Bool.true_eq_false,Nat.reduceEqDiff,Nat.one_ne_zero,Nat.reduceLT,and_self,and_true,true_and,Int.natCast_zero,Int.cast_ofNat_Int,List.length_nil,ne_eq,Decidable.not_not,hx1,hx2,hx3,Q5,Qc,Qv,Qi]at h)
   all_goals(try first|exact PlanIs.mk (by kernel_rfl)|omega|exact rfl|exact Nat.le_of_ble_eq_true rfl|(show(_:Int)≤(_:Int);simp only[hx1,hx2,hx3,Q5,Qc,Qv,Qi,Qx,List.length_set,List.length_map,hRl];omega)|(show(_:Int)<(_:Int);simp only[hx1,hx2,hx3,Q5,Qc,Qv,Qi,Qx,List.length_set,List.length_map,hRl];omega)|(show(_:Nat)≤(_:Nat);simp only[hx1,hx2,hx3,Q5,Qc,Qv,Qi,Qx,List.length_set,List.length_map,hRl];omega)|(show isC _ _ _=true;simp only[hx1,hx2,hx3,Q5,Qc,Qv,Qi,Qx,List.length_set,List.length_map,hRl];exact rfl))
   all_goals refine⟨_,8,rfl,by omega,?_⟩
   repeat' first|refine And.intro ?_ ?_|(intro h;try simp only[decide_eq_true_eq,decide_eq_false_iff_not,Int.not_lt,Int.not_le,Int.toNat_natCast,↓reduceIte,Nat.reduceAdd,reduceCtorEq,Int.reduceLT,Int.lt_irrefl,gt_iff_lt,not_true_eq_false,not_false_eq_true,Bool.not_true,Bool.not_false,decide_false,decide_true,Int.reduceLE,Int.reduceSub,Bool.false_eq_true,Bool.true_eq_false,Nat.reduceEqDiff,Nat.one_ne_zero,Nat.reduceLT,and_self,and_true,true_and,Int.natCast_zero,Int.cast_ofNat_Int,List.length_nil,ne_eq,Decidable.not_not,hx1,hx2,hx3,Q5,Qc,Qv,Qi]at h)
   all_goals(try first|exact PlanIs.mk (by kernel_rfl)|omega|exact rfl|exact Nat.le_of_ble_eq_true rfl|(show(_:Int)≤(_:Int);simp only[hx1,hx2,hx3,Q5,Qc,Qv,Qi,Qx,List.length_set,List.length_map,hRl];omega)|(show(_:Int)<(_:Int);simp only[hx1,hx2,hx3,Q5,Qc,Qv,Qi,Qx,List.length_set,List.length_map,hRl];omega)|(show(_:Nat)≤(_:Nat);simp only[hx1,hx2,hx3,Q5,Qc,Qv,Qi,Qx,List.length_set,List.length_map,hRl];omega)|(show isC _ _ _=true;simp only[hx1,hx2,hx3,Q5,Qc,Qv,Qi,Qx,List.length_set,List.length_map,hRl];exact rfl))
   ·exact absurd (show(2:Int)=0 from by assumption) (by decide)
   ·have hq:(wi (ns.getD i 0) 8).tmod 5=0:=by assumption
    obtain⟨g1,g2,g3,g4,g5,g6⟩:=Xd hrun hlen hkid (by omega) (by omega) hk0 hp hop1 hol2 2 (by rw[YP,if_pos ⟨by rw[List.length_cons];omega,hq⟩]) (a::t) (by first|rfl|(rw[if_neg ‹_›])) _ rfl
    refine⟨_,mSt ns (i+1) (Xj fs a.toNat++[⟨nmM i,wi (wr .i64 ((ns.getD i 0).tdiv 8)) 3,2,0⟩]) (a::t).length (R),Q0 [2+19*RR+4,1] (by kernel_rfl) ?_ ?_,⟨i+1,_,a::t,_,j1,_,⟨rfl,by omega,g1,g2,rfl,g3,g4,g5,g6,hR1,hj1⟩,rfl⟩,by omega⟩
    ·exact⟨.refl _,Q3 (by rw[g2,hlen]),Q3 rfl,Qa (by omega),trivial⟩
    ·refine⟨⟨by decide,_,rfl,Q1 ?_ (fF _)⟩,⟨by decide,_,rfl,Q1 ?_ hfR⟩,trivial⟩
     ·show List.take fs.length (List.drop 0 ((fs.map encF).set (0+(asI ((R.getD (0+((↑(t.length+1):Int)-1).toNat) []).getD 0 .any)).toNat) (Qr ((fs.map encF).getD (0+(asI ((R.getD (0+((↑(t.length+1):Int)-1).toNat) []).getD 0 .any)).toNat) []) (0+3) [.int .i64 (asI (((fs.map encF).getD (0+(asI ((R.getD (0+((↑(t.length+1):Int)-1).toNat) []).getD 0 .any)).toNat) []).getD (0+3) .any)+1)])))++[[.str (ZV [[.int .u8 (wr .u8 (97+(i:Int)))]]),.int .i64 (wi (wr .i64 ((ns.getD i 0).tdiv 8)) 3),.int .i64 (2),.int .i64 0]]=_
      simp only[hx1,hx2,Qc,Q5]
      rw[hx3,VT i (by omega),show Qr (encF (fs.getD a.toNat default)) (0+3) [.int .i64 (asI ((encF (fs.getD a.toNat default)).getD (0+3) .any)+1)]=[.str (fs.getD a.toNat default).name,.int .i64 (fs.getD a.toNat default).rep,.int .i64 (fs.getD a.toNat default).kind,.int .i64 ((fs.getD a.toNat default).kids+1)] from rfl,Nat.zero_add,ZI (by omega),List.drop_zero,List.take_of_length_le (by simp[Qb])]
      simp[encF]
     ·rfl
   ·have hq:¬(wi (ns.getD i 0) 8).tmod 5=0:=by assumption
    obtain⟨g1,g2,g3,g4,g5,g6⟩:=Xd hrun hlen hkid (by omega) (by omega) hk0 hp hop1 hol2 ((wi (ns.getD i 0) 8).tmod 5) (by rw[YP,if_neg (fun h=>hq h.2)]) (a::t) (by rw[if_neg hq]) _ rfl
    refine⟨_,mSt ns (i+1) (Xj fs a.toNat++[⟨nmM i,wi (wr .i64 ((ns.getD i 0).tdiv 8)) 3,(wi (ns.getD i 0) 8).tmod 5,0⟩]) (a::t).length (R),Q0 [2+19*RR+3,1] (by kernel_rfl) ?_ ?_,⟨i+1,_,a::t,_,j1,_,⟨rfl,by omega,g1,g2,rfl,g3,g4,g5,g6,hR1,hj1⟩,rfl⟩,by omega⟩
    ·exact⟨.refl _,Q3 (by rw[g2,hlen]),Q3 rfl,Qa (by omega),trivial⟩
    ·refine⟨⟨by decide,_,rfl,Q1 ?_ (fF _)⟩,⟨by decide,_,rfl,Q1 ?_ hfR⟩,trivial⟩
     ·show List.take fs.length (List.drop 0 ((fs.map encF).set (0+(asI ((R.getD (0+((↑(t.length+1):Int)-1).toNat) []).getD 0 .any)).toNat) (Qr ((fs.map encF).getD (0+(asI ((R.getD (0+((↑(t.length+1):Int)-1).toNat) []).getD 0 .any)).toNat) []) (0+3) [.int .i64 (asI (((fs.map encF).getD (0+(asI ((R.getD (0+((↑(t.length+1):Int)-1).toNat) []).getD 0 .any)).toNat) []).getD (0+3) .any)+1)])))++[[.str (ZV [[.int .u8 (wr .u8 (97+(i:Int)))]]),.int .i64 (wi (wr .i64 ((ns.getD i 0).tdiv 8)) 3),.int .i64 ((wi (ns.getD i 0) 8).tmod 5),.int .i64 0]]=_
      simp only[hx1,hx2,Qc,Q5]
      rw[hx3,VT i (by omega),show Qr (encF (fs.getD a.toNat default)) (0+3) [.int .i64 (asI ((encF (fs.getD a.toNat default)).getD (0+3) .any)+1)]=[.str (fs.getD a.toNat default).name,.int .i64 (fs.getD a.toNat default).rep,.int .i64 (fs.getD a.toNat default).kind,.int .i64 ((fs.getD a.toNat default).kids+1)] from rfl,Nat.zero_add,ZI (by omega),List.drop_zero,List.take_of_length_le (by simp[Qb])]
      simp[encF]
     ·rfl
   ·have hq:(wi (ns.getD i 0) 8).tmod 5=0:=by assumption
    obtain⟨g1,g2,g3,g4,g5,g6⟩:=Xd hrun hlen hkid (by omega) (by omega) hk0 hp hop1 hol2 ((wi (ns.getD i 0) 8).tmod 5) (by rw[YP,if_neg (fun h=>by simp only[List.length_cons]at h;omega)]) ((fs.length:Int)::a::t) (by rw[if_pos hq]) _ rfl
    refine⟨_,mSt ns (i+1) (Xj fs a.toNat++[⟨nmM i,wi (wr .i64 ((ns.getD i 0).tdiv 8)) 3,(wi (ns.getD i 0) 8).tmod 5,0⟩]) ((fs.length:Int)::a::t).length (((fs.length:Int)::a::t).reverse.map encI),Q0 [2+19*RR+3,2+19*RR+5] (by kernel_rfl) ?_ ?_,⟨i+1,_,(fs.length:Int)::a::t,_,[],_,⟨rfl,by omega,g1,g2,rfl,g3,g4,g5,g6,by simp,QX⟩,rfl⟩,by omega⟩
    ·exact⟨.refl _,Q3 (by rw[g2,hlen]),Q3 rfl,Qa (by omega),trivial⟩
    ·refine⟨⟨by decide,_,rfl,Q1 ?_ (fF _)⟩,⟨by decide,_,rfl,Q1 ?_ (fI _)⟩,trivial⟩
     ·show List.take fs.length (List.drop 0 ((fs.map encF).set (0+(asI ((R.getD (0+((↑(t.length+1):Int)-1).toNat) []).getD 0 .any)).toNat) (Qr ((fs.map encF).getD (0+(asI ((R.getD (0+((↑(t.length+1):Int)-1).toNat) []).getD 0 .any)).toNat) []) (0+3) [.int .i64 (asI (((fs.map encF).getD (0+(asI ((R.getD (0+((↑(t.length+1):Int)-1).toNat) []).getD 0 .any)).toNat) []).getD (0+3) .any)+1)])))++[[.str (ZV [[.int .u8 (wr .u8 (97+(i:Int)))]]),.int .i64 (wi (wr .i64 ((ns.getD i 0).tdiv 8)) 3),.int .i64 ((wi (ns.getD i 0) 8).tmod 5),.int .i64 0]]=_
      simp only[hx1,hx2,Qc,Q5]
      rw[hx3,VT i (by omega),show Qr (encF (fs.getD a.toNat default)) (0+3) [.int .i64 (asI ((encF (fs.getD a.toNat default)).getD (0+3) .any)+1)]=[.str (fs.getD a.toNat default).name,.int .i64 (fs.getD a.toNat default).rep,.int .i64 (fs.getD a.toNat default).kind,.int .i64 ((fs.getD a.toNat default).kids+1)] from rfl,Nat.zero_add,ZI (by omega),List.drop_zero,List.take_of_length_le (by simp[Qb])]
      simp[encF]
     ·show List.take (t.length+1) (List.drop 0 R)++[[.int .i64 (↑(fs.length+1)-1)]]=_
      rw[hR1,List.drop_zero,show t.length+1=((a::t).reverse.map encI).length by simp,List.take_left]
      simp[encI]
   ·have hq:¬(wi (ns.getD i 0) 8).tmod 5=0:=by assumption
    obtain⟨g1,g2,g3,g4,g5,g6⟩:=Xd hrun hlen hkid (by omega) (by omega) hk0 hp hop1 hol2 ((wi (ns.getD i 0) 8).tmod 5) (by rw[YP,if_neg (fun h=>hq h.2)]) (a::t) (by rw[if_neg hq]) _ rfl
    refine⟨_,mSt ns (i+1) (Xj fs a.toNat++[⟨nmM i,wi (wr .i64 ((ns.getD i 0).tdiv 8)) 3,(wi (ns.getD i 0) 8).tmod 5,0⟩]) (a::t).length (R),Q0 [2+19*RR+3,1] (by kernel_rfl) ?_ ?_,⟨i+1,_,a::t,_,j1,_,⟨rfl,by omega,g1,g2,rfl,g3,g4,g5,g6,hR1,hj1⟩,rfl⟩,by omega⟩
    ·exact⟨.refl _,Q3 (by rw[g2,hlen]),Q3 rfl,Qa (by omega),trivial⟩
    ·refine⟨⟨by decide,_,rfl,Q1 ?_ (fF _)⟩,⟨by decide,_,rfl,Q1 ?_ hfR⟩,trivial⟩
     ·show List.take fs.length (List.drop 0 ((fs.map encF).set (0+(asI ((R.getD (0+((↑(t.length+1):Int)-1).toNat) []).getD 0 .any)).toNat) (Qr ((fs.map encF).getD (0+(asI ((R.getD (0+((↑(t.length+1):Int)-1).toNat) []).getD 0 .any)).toNat) []) (0+3) [.int .i64 (asI (((fs.map encF).getD (0+(asI ((R.getD (0+((↑(t.length+1):Int)-1).toNat) []).getD 0 .any)).toNat) []).getD (0+3) .any)+1)])))++[[.str (ZV [[.int .u8 (wr .u8 (97+(i:Int)))]]),.int .i64 (wi (wr .i64 ((ns.getD i 0).tdiv 8)) 3),.int .i64 ((wi (ns.getD i 0) 8).tmod 5),.int .i64 0]]=_
      simp only[hx1,hx2,Qc,Q5]
      rw[hx3,VT i (by omega),show Qr (encF (fs.getD a.toNat default)) (0+3) [.int .i64 (asI ((encF (fs.getD a.toNat default)).getD (0+3) .any)+1)]=[.str (fs.getD a.toNat default).name,.int .i64 (fs.getD a.toNat default).rep,.int .i64 (fs.getD a.toNat default).kind,.int .i64 ((fs.getD a.toNat default).kids+1)] from rfl,Nat.zero_add,ZI (by omega),List.drop_zero,List.take_of_length_le (by simp[Qb])]
      simp[encF]
     ·rfl
  ·skip
   repeat' first|refine And.intro ?_ ?_|(intro h;try simp only[decide_eq_true_eq,decide_eq_false_iff_not,Int.not_lt,Int.not_le,Int.toNat_natCast,↓reduceIte,Nat.reduceAdd,reduceCtorEq,Int.reduceLT,Int.lt_irrefl,gt_iff_lt,not_true_eq_false,not_false_eq_true,Bool.not_true,Bool.not_false,decide_false,decide_true,Int.reduceLE,Int.reduceSub,Bool.false_eq_true,Bool.true_eq_false,Nat.reduceEqDiff,Nat.one_ne_zero,Nat.reduceLT,and_self,and_true,true_and,Int.natCast_zero,Int.cast_ofNat_Int,List.length_nil,ne_eq,Decidable.not_not,hx1,hx2,hx3,Q5,Qc,Qv,Qi]at h)
   all_goals(try first|exact PlanIs.mk (by kernel_rfl)|omega|exact rfl|exact Nat.le_of_ble_eq_true rfl|(show(_:Int)≤(_:Int);simp only[hx1,hx2,hx3,Q5,Qc,Qv,Qi,Qx,List.length_set,List.length_map,hRl];omega)|(show(_:Int)<(_:Int);simp only[hx1,hx2,hx3,Q5,Qc,Qv,Qi,Qx,List.length_set,List.length_map,hRl];omega)|(show(_:Nat)≤(_:Nat);simp only[hx1,hx2,hx3,Q5,Qc,Qv,Qi,Qx,List.length_set,List.length_map,hRl];omega)|(show isC _ _ _=true;simp only[hx1,hx2,hx3,Q5,Qc,Qv,Qi,Qx,List.length_set,List.length_map,hRl];exact rfl))
   all_goals refine⟨_,8,rfl,by omega,?_⟩
   repeat' first|refine And.intro ?_ ?_|(intro h;try simp only[decide_eq_true_eq,decide_eq_false_iff_not,Int.not_lt,Int.not_le,Int.toNat_natCast,↓reduceIte,Nat.reduceAdd,reduceCtorEq,Int.reduceLT,Int.lt_irrefl,gt_iff_lt,not_true_eq_false,not_false_eq_true,Bool.not_true,Bool.not_false,decide_false,decide_true,Int.reduceLE,Int.reduceSub,Bool.false_eq_true,Bool.true_eq_false,Nat.reduceEqDiff,Nat.one_ne_zero,Nat.reduceLT,and_self,and_true,true_and,Int.natCast_zero,Int.cast_ofNat_Int,List.length_nil,ne_eq,Decidable.not_not,hx1,hx2,hx3,Q5,Qc,Qv,Qi]at h)
   all_goals(try first|exact PlanIs.mk (by kernel_rfl)|omega|exact rfl|exact Nat.le_of_ble_eq_true rfl|(show(_:Int)≤(_:Int);simp only[hx1,hx2,hx3,Q5,Qc,Qv,Qi,Qx,List.length_set,List.length_map,hRl];omega)|(show(_:Int)<(_:Int);simp only[hx1,hx2,hx3,Q5,Qc,Qv,Qi,Qx,List.length_set,List.length_map,hRl];omega)|(show(_:Nat)≤(_:Nat);simp only[hx1,hx2,hx3,Q5,Qc,Qv,Qi,Qx,List.length_set,List.length_map,hRl];omega)|(show isC _ _ _=true;simp only[hx1,hx2,hx3,Q5,Qc,Qv,Qi,Qx,List.length_set,List.length_map,hRl];exact rfl))
   ·have hq:(wi (ns.getD i 0) 8).tmod 5=0:=by first|assumption|exact of_decide_eq_true (by assumption)
    obtain⟨g1,g2,g3,g4,g5,g6⟩:=Xd hrun hlen hkid (by omega) (by omega) hk0 hp hop1 hol2 ((wi (ns.getD i 0) 8).tmod 5) (by rw[YP,if_neg (fun h=>by simp only[List.length_cons]at h;omega)]) ((fs.length:Int)::a::t) (by rw[if_pos hq]) _ rfl
    refine⟨_,mSt ns (i+1) (Xj fs a.toNat++[⟨nmM i,wi (wr .i64 ((ns.getD i 0).tdiv 8)) 3,(wi (ns.getD i 0) 8).tmod 5,0⟩]) ((fs.length:Int)::a::t).length (((fs.length:Int)::a::t).reverse.map encI),Q0 [2+19*RR+3,2+19*RR+5] (by kernel_rfl) ?_ ?_,⟨i+1,_,(fs.length:Int)::a::t,_,[],_,⟨rfl,by omega,g1,g2,rfl,g3,g4,g5,g6,by simp,QX⟩,rfl⟩,by omega⟩
    ·exact⟨.refl _,Q3 (by rw[g2,hlen]),Q3 rfl,Qa (by omega),trivial⟩
    ·refine⟨⟨by decide,_,rfl,Q1 ?_ (fF _)⟩,⟨by decide,_,rfl,Q1 ?_ (fI _)⟩,trivial⟩
     ·show List.take fs.length (List.drop 0 ((fs.map encF).set (0+(asI ((R.getD (0+((↑(t.length+1):Int)-1).toNat) []).getD 0 .any)).toNat) (Qr ((fs.map encF).getD (0+(asI ((R.getD (0+((↑(t.length+1):Int)-1).toNat) []).getD 0 .any)).toNat) []) (0+3) [.int .i64 (asI (((fs.map encF).getD (0+(asI ((R.getD (0+((↑(t.length+1):Int)-1).toNat) []).getD 0 .any)).toNat) []).getD (0+3) .any)+1)])))++[[.str (ZV [[.int .u8 (wr .u8 (97+(i:Int)))]]),.int .i64 (wi (wr .i64 ((ns.getD i 0).tdiv 8)) 3),.int .i64 ((wi (ns.getD i 0) 8).tmod 5),.int .i64 0]]=_
      simp only[hx1,hx2,Qc,Q5]
      rw[hx3,VT i (by omega),show Qr (encF (fs.getD a.toNat default)) (0+3) [.int .i64 (asI ((encF (fs.getD a.toNat default)).getD (0+3) .any)+1)]=[.str (fs.getD a.toNat default).name,.int .i64 (fs.getD a.toNat default).rep,.int .i64 (fs.getD a.toNat default).kind,.int .i64 ((fs.getD a.toNat default).kids+1)] from rfl,Nat.zero_add,ZI (by omega),List.drop_zero,List.take_of_length_le (by simp[Qb])]
      simp[encF]
     ·show List.take (t.length+1) (List.drop 0 R)++[[.int .i64 (↑(fs.length+1)-1)]]=_
      rw[hR1,List.drop_zero,show t.length+1=((a::t).reverse.map encI).length by simp,List.take_left]
      simp[encI]
   ·have hq:¬(wi (ns.getD i 0) 8).tmod 5=0:=by first|assumption|exact of_decide_eq_false (by assumption)|exact fun h=>absurd (decide_eq_true h) (by assumption)
    obtain⟨g1,g2,g3,g4,g5,g6⟩:=Xd hrun hlen hkid (by omega) (by omega) hk0 hp hop1 hol2 ((wi (ns.getD i 0) 8).tmod 5) (by rw[YP,if_neg (fun h=>hq h.2)]) (a::t) (by rw[if_neg hq]) _ rfl
    refine⟨_,mSt ns (i+1) (Xj fs a.toNat++[⟨nmM i,wi (wr .i64 ((ns.getD i 0).tdiv 8)) 3,(wi (ns.getD i 0) 8).tmod 5,0⟩]) (a::t).length (R),Q0 [2+19*RR+3,1] (by kernel_rfl) ?_ ?_,⟨i+1,_,a::t,_,j1,_,⟨rfl,by omega,g1,g2,rfl,g3,g4,g5,g6,hR1,hj1⟩,rfl⟩,by omega⟩
    ·exact⟨.refl _,Q3 (by rw[g2,hlen]),Q3 rfl,Qa (by omega),trivial⟩
    ·refine⟨⟨by decide,_,rfl,Q1 ?_ (fF _)⟩,⟨by decide,_,rfl,Q1 ?_ hfR⟩,trivial⟩
     ·show List.take fs.length (List.drop 0 ((fs.map encF).set (0+(asI ((R.getD (0+((↑(t.length+1):Int)-1).toNat) []).getD 0 .any)).toNat) (Qr ((fs.map encF).getD (0+(asI ((R.getD (0+((↑(t.length+1):Int)-1).toNat) []).getD 0 .any)).toNat) []) (0+3) [.int .i64 (asI (((fs.map encF).getD (0+(asI ((R.getD (0+((↑(t.length+1):Int)-1).toNat) []).getD 0 .any)).toNat) []).getD (0+3) .any)+1)])))++[[.str (ZV [[.int .u8 (wr .u8 (97+(i:Int)))]]),.int .i64 (wi (wr .i64 ((ns.getD i 0).tdiv 8)) 3),.int .i64 ((wi (ns.getD i 0) 8).tmod 5),.int .i64 0]]=_
      simp only[hx1,hx2,Qc,Q5]
      rw[hx3,VT i (by omega),show Qr (encF (fs.getD a.toNat default)) (0+3) [.int .i64 (asI ((encF (fs.getD a.toNat default)).getD (0+3) .any)+1)]=[.str (fs.getD a.toNat default).name,.int .i64 (fs.getD a.toNat default).rep,.int .i64 (fs.getD a.toNat default).kind,.int .i64 ((fs.getD a.toNat default).kids+1)] from rfl,Nat.zero_add,ZI (by omega),List.drop_zero,List.take_of_length_le (by simp[Qb])]
      simp[encF]
     ·rfl
  ·skip
   repeat' first|refine And.intro ?_ ?_|(intro h;try simp only[decide_eq_true_eq,decide_eq_false_iff_not,Int.not_lt,Int.not_le,Int.toNat_natCast,↓reduceIte,Nat.reduceAdd,reduceCtorEq,Int.reduceLT,Int.lt_irrefl,gt_iff_lt,not_true_eq_false,not_false_eq_true,Bool.not_true,Bool.not_false,decide_false,decide_true,Int.reduceLE,Int.reduceSub,Bool.false_eq_true,Bool.true_eq_false,Nat.reduceEqDiff,Nat.one_ne_zero,Nat.reduceLT,and_self,and_true,true_and,Int.natCast_zero,Int.cast_ofNat_Int,List.length_nil,ne_eq,Decidable.not_not,hx1,hx2,hx3,Q5,Qc,Qv,Qi]at h)
   all_goals(try first|exact PlanIs.mk (by kernel_rfl)|omega|exact rfl|exact Nat.le_of_ble_eq_true rfl|(show(_:Int)≤(_:Int);simp only[hx1,hx2,hx3,Q5,Qc,Qv,Qi,Qx,List.length_set,List.length_map,hRl];omega)|(show(_:Int)<(_:Int);simp only[hx1,hx2,hx3,Q5,Qc,Qv,Qi,Qx,List.length_set,List.length_map,hRl];omega)|(show(_:Nat)≤(_:Nat);simp only[hx1,hx2,hx3,Q5,Qc,Qv,Qi,Qx,List.length_set,List.length_map,hRl];omega)|(show isC _ _ _=true;simp only[hx1,hx2,hx3,Q5,Qc,Qv,Qi,Qx,List.length_set,List.length_map,hRl];exact rfl))
   all_goals refine⟨_,8,rfl,by omega,?_⟩
   repeat' first|refine And.intro ?_ ?_|(intro h;try simp only[decide_eq_true_eq,decide_eq_false_iff_not,Int.not_lt,Int.not_le,Int.toNat_natCast,↓reduceIte,Nat.reduceAdd,reduceCtorEq,Int.reduceLT,Int.lt_irrefl,gt_iff_lt,not_true_eq_false,not_false_eq_true,Bool.not_true,Bool.not_false,decide_false,decide_true,Int.reduceLE,Int.reduceSub,Bool.false_eq_true,Bool.true_eq_false,Nat.reduceEqDiff,Nat.one_ne_zero,Nat.reduceLT,and_self,and_true,true_and,Int.natCast_zero,Int.cast_ofNat_Int,List.length_nil,ne_eq,Decidable.not_not,hx1,hx2,hx3,Q5,Qc,Qv,Qi]at h)
   all_goals(try first|exact PlanIs.mk (by kernel_rfl)|omega|exact rfl|exact Nat.le_of_ble_eq_true rfl|(show(_:Int)≤(_:Int);simp only[hx1,hx2,hx3,Q5,Qc,Qv,Qi,Qx,List.length_set,List.length_map,hRl];omega)|(show(_:Int)<(_:Int);simp only[hx1,hx2,hx3,Q5,Qc,Qv,Qi,Qx,List.length_set,List.length_map,hRl];omega)|(show(_:Nat)≤(_:Nat);simp only[hx1,hx2,hx3,Q5,Qc,Qv,Qi,Qx,List.length_set,List.length_map,hRl];omega)|(show isC _ _ _=true;simp only[hx1,hx2,hx3,Q5,Qc,Qv,Qi,Qx,List.length_set,List.length_map,hRl];exact rfl))
   ·exact absurd (show(2:Int)=0 from by assumption) (by decide)
   ·have hq:(wi (ns.getD i 0) 8).tmod 5=0:=by first|assumption|exact of_decide_eq_true (by assumption)
    obtain⟨g1,g2,g3,g4,g5,g6⟩:=Xd hrun hlen hkid (by omega) (by omega) hk0 hp hop1 hol2 2 (by rw[YP,if_pos ⟨by rw[List.length_cons];omega,hq⟩]) (a::t) (by first|rfl|(rw[if_neg ‹_›])) _ rfl
    refine⟨_,mSt ns (i+1) (Xj fs a.toNat++[⟨nmM i,wi (wr .i64 ((ns.getD i 0).tdiv 8)) 3,2,0⟩]) (a::t).length (R),Q0 [2+19*RR+4,1] (by kernel_rfl) ?_ ?_,⟨i+1,_,a::t,_,j1,_,⟨rfl,by omega,g1,g2,rfl,g3,g4,g5,g6,hR1,hj1⟩,rfl⟩,by omega⟩
    ·exact⟨.refl _,Q3 (by rw[g2,hlen]),Q3 rfl,Qa (by omega),trivial⟩
    ·refine⟨⟨by decide,_,rfl,Q1 ?_ (fF _)⟩,⟨by decide,_,rfl,Q1 ?_ hfR⟩,trivial⟩
     ·show List.take fs.length (List.drop 0 ((fs.map encF).set (0+(asI ((R.getD (0+((↑(t.length+1):Int)-1).toNat) []).getD 0 .any)).toNat) (Qr ((fs.map encF).getD (0+(asI ((R.getD (0+((↑(t.length+1):Int)-1).toNat) []).getD 0 .any)).toNat) []) (0+3) [.int .i64 (asI (((fs.map encF).getD (0+(asI ((R.getD (0+((↑(t.length+1):Int)-1).toNat) []).getD 0 .any)).toNat) []).getD (0+3) .any)+1)])))++[[.str (ZV [[.int .u8 (wr .u8 (97+(i:Int)))]]),.int .i64 (wi (wr .i64 ((ns.getD i 0).tdiv 8)) 3),.int .i64 (2),.int .i64 0]]=_
      simp only[hx1,hx2,Qc,Q5]
      rw[hx3,VT i (by omega),show Qr (encF (fs.getD a.toNat default)) (0+3) [.int .i64 (asI ((encF (fs.getD a.toNat default)).getD (0+3) .any)+1)]=[.str (fs.getD a.toNat default).name,.int .i64 (fs.getD a.toNat default).rep,.int .i64 (fs.getD a.toNat default).kind,.int .i64 ((fs.getD a.toNat default).kids+1)] from rfl,Nat.zero_add,ZI (by omega),List.drop_zero,List.take_of_length_le (by simp[Qb])]
      simp[encF]
     ·rfl
   ·exact absurd (of_decide_eq_true (p:=(wi (ns.getD i 0) 8).tmod 5=0) (by assumption)) (of_decide_eq_false (p:=(wi (ns.getD i 0) 8).tmod 5=0) (by assumption))
   ·have hq:¬(wi (ns.getD i 0) 8).tmod 5=0:=by first|assumption|exact of_decide_eq_false (by assumption)|exact fun h=>absurd (decide_eq_true h) (by assumption)
    obtain⟨g1,g2,g3,g4,g5,g6⟩:=Xd hrun hlen hkid (by omega) (by omega) hk0 hp hop1 hol2 ((wi (ns.getD i 0) 8).tmod 5) (by rw[YP,if_neg (fun h=>hq h.2)]) (a::t) (by rw[if_neg hq]) _ rfl
    refine⟨_,mSt ns (i+1) (Xj fs a.toNat++[⟨nmM i,wi (wr .i64 ((ns.getD i 0).tdiv 8)) 3,(wi (ns.getD i 0) 8).tmod 5,0⟩]) (a::t).length (R),Q0 [2+19*RR+3,1] (by kernel_rfl) ?_ ?_,⟨i+1,_,a::t,_,j1,_,⟨rfl,by omega,g1,g2,rfl,g3,g4,g5,g6,hR1,hj1⟩,rfl⟩,by omega⟩
    ·exact⟨.refl _,Q3 (by rw[g2,hlen]),Q3 rfl,Qa (by omega),trivial⟩
    ·refine⟨⟨by decide,_,rfl,Q1 ?_ (fF _)⟩,⟨by decide,_,rfl,Q1 ?_ hfR⟩,trivial⟩
     ·show List.take fs.length (List.drop 0 ((fs.map encF).set (0+(asI ((R.getD (0+((↑(t.length+1):Int)-1).toNat) []).getD 0 .any)).toNat) (Qr ((fs.map encF).getD (0+(asI ((R.getD (0+((↑(t.length+1):Int)-1).toNat) []).getD 0 .any)).toNat) []) (0+3) [.int .i64 (asI (((fs.map encF).getD (0+(asI ((R.getD (0+((↑(t.length+1):Int)-1).toNat) []).getD 0 .any)).toNat) []).getD (0+3) .any)+1)])))++[[.str (ZV [[.int .u8 (wr .u8 (97+(i:Int)))]]),.int .i64 (wi (wr .i64 ((ns.getD i 0).tdiv 8)) 3),.int .i64 ((wi (ns.getD i 0) 8).tmod 5),.int .i64 0]]=_
      simp only[hx1,hx2,Qc,Q5]
      rw[hx3,VT i (by omega),show Qr (encF (fs.getD a.toNat default)) (0+3) [.int .i64 (asI ((encF (fs.getD a.toNat default)).getD (0+3) .any)+1)]=[.str (fs.getD a.toNat default).name,.int .i64 (fs.getD a.toNat default).rep,.int .i64 (fs.getD a.toNat default).kind,.int .i64 ((fs.getD a.toNat default).kids+1)] from rfl,Nat.zero_add,ZI (by omega),List.drop_zero,List.take_of_length_le (by simp[Qb])]
      simp[encF]
     ·rfl
   ·have hq:(wi (ns.getD i 0) 8).tmod 5=0:=by first|assumption|exact of_decide_eq_true (by assumption)
    obtain⟨g1,g2,g3,g4,g5,g6⟩:=Xd hrun hlen hkid (by omega) (by omega) hk0 hp hop1 hol2 ((wi (ns.getD i 0) 8).tmod 5) (by rw[YP,if_neg (fun h=>by simp only[List.length_cons]at h;omega)]) ((fs.length:Int)::a::t) (by rw[if_pos hq]) _ rfl
    refine⟨_,mSt ns (i+1) (Xj fs a.toNat++[⟨nmM i,wi (wr .i64 ((ns.getD i 0).tdiv 8)) 3,(wi (ns.getD i 0) 8).tmod 5,0⟩]) ((fs.length:Int)::a::t).length (((fs.length:Int)::a::t).reverse.map encI),Q0 [2+19*RR+3,2+19*RR+5] (by kernel_rfl) ?_ ?_,⟨i+1,_,(fs.length:Int)::a::t,_,[],_,⟨rfl,by omega,g1,g2,rfl,g3,g4,g5,g6,by simp,QX⟩,rfl⟩,by omega⟩
    ·exact⟨.refl _,Q3 (by rw[g2,hlen]),Q3 rfl,Qa (by omega),trivial⟩
    ·refine⟨⟨by decide,_,rfl,Q1 ?_ (fF _)⟩,⟨by decide,_,rfl,Q1 ?_ (fI _)⟩,trivial⟩
     ·show List.take fs.length (List.drop 0 ((fs.map encF).set (0+(asI ((R.getD (0+((↑(t.length+1):Int)-1).toNat) []).getD 0 .any)).toNat) (Qr ((fs.map encF).getD (0+(asI ((R.getD (0+((↑(t.length+1):Int)-1).toNat) []).getD 0 .any)).toNat) []) (0+3) [.int .i64 (asI (((fs.map encF).getD (0+(asI ((R.getD (0+((↑(t.length+1):Int)-1).toNat) []).getD 0 .any)).toNat) []).getD (0+3) .any)+1)])))++[[.str (ZV [[.int .u8 (wr .u8 (97+(i:Int)))]]),.int .i64 (wi (wr .i64 ((ns.getD i 0).tdiv 8)) 3),.int .i64 ((wi (ns.getD i 0) 8).tmod 5),.int .i64 0]]=_
      simp only[hx1,hx2,Qc,Q5]
      rw[hx3,VT i (by omega),show Qr (encF (fs.getD a.toNat default)) (0+3) [.int .i64 (asI ((encF (fs.getD a.toNat default)).getD (0+3) .any)+1)]=[.str (fs.getD a.toNat default).name,.int .i64 (fs.getD a.toNat default).rep,.int .i64 (fs.getD a.toNat default).kind,.int .i64 ((fs.getD a.toNat default).kids+1)] from rfl,Nat.zero_add,ZI (by omega),List.drop_zero,List.take_of_length_le (by simp[Qb])]
      simp[encF]
     ·show List.take (t.length+1) (List.drop 0 R)++[[.int .i64 (↑(fs.length+1)-1)]]=_
      rw[hR1,List.drop_zero,show t.length+1=((a::t).reverse.map encI).length by simp,List.take_left]
      simp[encI]
   ·have hq:¬(wi (ns.getD i 0) 8).tmod 5=0:=by first|assumption|exact of_decide_eq_false (by assumption)|exact fun h=>absurd (decide_eq_true h) (by assumption)
    obtain⟨g1,g2,g3,g4,g5,g6⟩:=Xd hrun hlen hkid (by omega) (by omega) hk0 hp hop1 hol2 ((wi (ns.getD i 0) 8).tmod 5) (by rw[YP,if_neg (fun h=>hq h.2)]) (a::t) (by rw[if_neg hq]) _ rfl
    refine⟨_,mSt ns (i+1) (Xj fs a.toNat++[⟨nmM i,wi (wr .i64 ((ns.getD i 0).tdiv 8)) 3,(wi (ns.getD i 0) 8).tmod 5,0⟩]) (a::t).length (R),Q0 [2+19*RR+3,1] (by kernel_rfl) ?_ ?_,⟨i+1,_,a::t,_,j1,_,⟨rfl,by omega,g1,g2,rfl,g3,g4,g5,g6,hR1,hj1⟩,rfl⟩,by omega⟩
    ·exact⟨.refl _,Q3 (by rw[g2,hlen]),Q3 rfl,Qa (by omega),trivial⟩
    ·refine⟨⟨by decide,_,rfl,Q1 ?_ (fF _)⟩,⟨by decide,_,rfl,Q1 ?_ hfR⟩,trivial⟩
     ·show List.take fs.length (List.drop 0 ((fs.map encF).set (0+(asI ((R.getD (0+((↑(t.length+1):Int)-1).toNat) []).getD 0 .any)).toNat) (Qr ((fs.map encF).getD (0+(asI ((R.getD (0+((↑(t.length+1):Int)-1).toNat) []).getD 0 .any)).toNat) []) (0+3) [.int .i64 (asI (((fs.map encF).getD (0+(asI ((R.getD (0+((↑(t.length+1):Int)-1).toNat) []).getD 0 .any)).toNat) []).getD (0+3) .any)+1)])))++[[.str (ZV [[.int .u8 (wr .u8 (97+(i:Int)))]]),.int .i64 (wi (wr .i64 ((ns.getD i 0).tdiv 8)) 3),.int .i64 ((wi (ns.getD i 0) 8).tmod 5),.int .i64 0]]=_
      simp only[hx1,hx2,Qc,Q5]
      rw[hx3,VT i (by omega),show Qr (encF (fs.getD a.toNat default)) (0+3) [.int .i64 (asI ((encF (fs.getD a.toNat default)).getD (0+3) .any)+1)]=[.str (fs.getD a.toNat default).name,.int .i64 (fs.getD a.toNat default).rep,.int .i64 (fs.getD a.toNat default).kind,.int .i64 ((fs.getD a.toNat default).kids+1)] from rfl,Nat.zero_add,ZI (by omega),List.drop_zero,List.take_of_length_le (by simp[Qb])]
      simp[encF]
     ·rfl
 ·have hend:Qs ns=Yu fs op:=by rw[Qs,←hrun,Vy (by omega)]
  have h0:(fs.getD (Zt op).toNat default).kids=0:=by assumption
  have hE:Yu fs op=Xj fs (Zt op).toNat++[⟨[122],0,4,0⟩]:=by rw[Yu,if_pos h0]
  have hl:(Yu fs op).length=fs.length+1:=by rw[hE];simp[Qb]
  have heq:List.take fs.length (List.drop 0 ((fs.map encF).set (0+(asI ((R.getD (0+((↑op.length:Int)-1).toNat) []).getD 0 .any)).toNat) (Qr ((fs.map encF).getD (0+(asI ((R.getD (0+((↑op.length:Int)-1).toNat) []).getD 0 .any)).toNat) []) (0+3) [.int .i64 (asI (((fs.map encF).getD (0+(asI ((R.getD (0+((↑op.length:Int)-1).toNat) []).getD 0 .any)).toNat) []).getD (0+3) .any)+1)])))++[[.str [122],.int .i64 0,.int .i64 4,.int .i64 0]]=(Yu fs op).map encF:=by
   rw[hE,hx2]
   simp only[Qc,Q5]
   rw[hx3,show Qr (encF (fs.getD (Zt op).toNat default)) (0+3) [.int .i64 (asI ((encF (fs.getD (Zt op).toNat default)).getD (0+3) .any)+1)]=[.str (fs.getD (Zt op).toNat default).name,.int .i64 (fs.getD (Zt op).toNat default).rep,.int .i64 (fs.getD (Zt op).toNat default).kind,.int .i64 ((fs.getD (Zt op).toNat default).kids+1)] from rfl,Nat.zero_add,ZI (by omega),List.drop_zero,List.take_of_length_le (by simp[Qb])]
   simp[encF]
  refine⟨_,Xy (enc:=encF) (k:=2) (rows:=List.take fs.length (List.drop 0 ((fs.map encF).set (0+(asI ((R.getD (0+((↑op.length:Int)-1).toNat) []).getD 0 .any)).toNat) (Qr ((fs.map encF).getD (0+(asI ((R.getD (0+((↑op.length:Int)-1).toNat) []).getD 0 .any)).toNat) []) (0+3) [.int .i64 (asI (((fs.map encF).getD (0+(asI ((R.getD (0+((↑op.length:Int)-1).toNat) []).getD 0 .any)).toNat) []).getD (0+3) .any)+1)])))++[[.str [122],.int .i64 0,.int .i64 4,.int .i64 0]]) default (l:=Yu fs op) rfl rfl (by rw[heq];exact fF _) ?_ ?_,_,rfl,?_,rfl⟩
  ·rw[heq];show List.take (fs.length+1) _=_;exact List.take_of_length_le (by simp[hl])
  ·rw[heq];show fs.length+1≤_;simp[hl]
  ·rw[hend];rfl
 ·have hend:Qs ns=Yu fs op:=by rw[Qs,←hrun,Vy (by omega)]
  have h0:¬(fs.getD (Zt op).toNat default).kids=0:=by assumption
  have hE:Yu fs op=fs:=by rw[Yu,if_neg h0]
  refine⟨_,Xy (enc:=encF) (k:=2) (rows:=fs.map encF) default (l:=fs) rfl rfl (fF fs) ?_ ?_,_,rfl,?_,rfl⟩
  ·show List.take fs.length _=_;exact List.take_of_length_le (by simp)
  ·show fs.length≤_;simp
  ·rw[hend,hE];rfl
 ·have hend:Qs ns=Yu fs op:=by rw[Qs,←hrun,Vy (by omega)]
  have h0:(fs.getD (Zt op).toNat default).kids=0:=by assumption
  have hE:Yu fs op=Xj fs (Zt op).toNat++[⟨[122],0,4,0⟩]:=by rw[Yu,if_pos h0]
  have hl:(Yu fs op).length=fs.length+1:=by rw[hE];simp[Qb]
  have heq:List.take fs.length (List.drop 0 ((fs.map encF).set (0+(asI ((R.getD (0+((↑op.length:Int)-1).toNat) []).getD 0 .any)).toNat) (Qr ((fs.map encF).getD (0+(asI ((R.getD (0+((↑op.length:Int)-1).toNat) []).getD 0 .any)).toNat) []) (0+3) [.int .i64 (asI (((fs.map encF).getD (0+(asI ((R.getD (0+((↑op.length:Int)-1).toNat) []).getD 0 .any)).toNat) []).getD (0+3) .any)+1)])))++[[.str [122],.int .i64 0,.int .i64 4,.int .i64 0]]=(Yu fs op).map encF:=by
   rw[hE,hx2]
   simp only[Qc,Q5]
   rw[hx3,show Qr (encF (fs.getD (Zt op).toNat default)) (0+3) [.int .i64 (asI ((encF (fs.getD (Zt op).toNat default)).getD (0+3) .any)+1)]=[.str (fs.getD (Zt op).toNat default).name,.int .i64 (fs.getD (Zt op).toNat default).rep,.int .i64 (fs.getD (Zt op).toNat default).kind,.int .i64 ((fs.getD (Zt op).toNat default).kids+1)] from rfl,Nat.zero_add,ZI (by omega),List.drop_zero,List.take_of_length_le (by simp[Qb])]
   simp[encF]
  refine⟨_,Xy (enc:=encF) (k:=2) (rows:=List.take fs.length (List.drop 0 ((fs.map encF).set (0+(asI ((R.getD (0+((↑op.length:Int)-1).toNat) []).getD 0 .any)).toNat) (Qr ((fs.map encF).getD (0+(asI ((R.getD (0+((↑op.length:Int)-1).toNat) []).getD 0 .any)).toNat) []) (0+3) [.int .i64 (asI (((fs.map encF).getD (0+(asI ((R.getD (0+((↑op.length:Int)-1).toNat) []).getD 0 .any)).toNat) []).getD (0+3) .any)+1)])))++[[.str [122],.int .i64 0,.int .i64 4,.int .i64 0]]) default (l:=Yu fs op) rfl rfl (by rw[heq];exact fF _) ?_ ?_,_,rfl,?_,rfl⟩
  ·rw[heq];show List.take (fs.length+1) _=_;exact List.take_of_length_le (by simp[hl])
  ·rw[heq];show fs.length+1≤_;simp[hl]
  ·rw[hend];rfl
 ·have hend:Qs ns=Yu fs op:=by rw[Qs,←hrun,Vy (by omega)]
  have h0:¬(fs.getD (Zt op).toNat default).kids=0:=by assumption
  have hE:Yu fs op=fs:=by rw[Yu,if_neg h0]
  refine⟨_,Xy (enc:=encF) (k:=2) (rows:=fs.map encF) default (l:=fs) rfl rfl (fF fs) ?_ ?_,_,rfl,?_,rfl⟩
  ·show List.take fs.length _=_;exact List.take_of_length_le (by simp)
  ·show fs.length≤_;simp
  ·rw[hend,hE];rfl
end
theorem Y6(s:List UInt8):asS (.str s)=s:=rfl
theorem Xe(b:Bool):asB (.bool b)=b:=rfl
theorem QM(a:Int):(encI a).getD (0+0) .any= .int .i64 a:=rfl
theorem Wo(f:Fd):(encF f).getD 0 .any= .str f.name:=rfl
theorem Wn(f:Fd):(encF f).getD 1 .any= .int .i64 f.rep:=rfl
theorem Wm(f:Fd):(encF f).getD 2 .any= .int .i64 f.kind:=rfl
theorem Y3(f:Fd):(encF f).getD (0+0) .any= .str f.name:=rfl
theorem Y2(f:Fd):(encF f).getD (0+1) .any= .int .i64 f.rep:=rfl
theorem Y1(f:Fd):(encF f).getD (0+2) .any= .int .i64 f.kind:=rfl
theorem Wl(l:Lf):(QQ l).getD 0 .any= .int .i64 l.field:=rfl
theorem Wk(l:Lf):(QQ l).getD 1 .any= .int .i64 l.r:=rfl
theorem Wj(l:Lf):(QQ l).getD 2 .any= .int .i64 l.d:=rfl
theorem Wi(l:Lf):(QQ l).getD 3 .any= .int .i64 l.kind:=rfl
theorem Y0(l:Lf):(QQ l).getD (0+0) .any= .int .i64 l.field:=rfl
theorem XZ(l:Lf):(QQ l).getD (0+1) .any= .int .i64 l.r:=rfl
theorem XY(l:Lf):(QQ l).getD (0+2) .any= .int .i64 l.d:=rfl
theorem XX(l:Lf):(QQ l).getD (0+3) .any= .int .i64 l.kind:=rfl
theorem Zz(a:Int):(encI a).length=1:=rfl
theorem sg:(∀(k:IntKind) (n:Int),asI (.int k n)=n)∧(∀s,asS (.str s)=s)∧(∀b,asB (.bool b)=b)∧(∀a,(encI a).getD 0 .any= .int .i64 a)∧(∀a,(encI a).getD (0+0) .any= .int .i64 a)∧
 (∀f,(encF f).getD 0 .any= .str f.name)∧(∀f,(encF f).getD 1 .any= .int .i64 f.rep)∧(∀f,(encF f).getD 2 .any= .int .i64 f.kind)∧(∀f,(encF f).getD 3 .any= .int .i64 f.kids)∧
 (∀f,(encF f).getD (0+0) .any= .str f.name)∧(∀f,(encF f).getD (0+1) .any= .int .i64 f.rep)∧(∀f,(encF f).getD (0+2) .any= .int .i64 f.kind)∧(∀f,(encF f).getD (0+3) .any= .int .i64 f.kids)∧
 (∀l,(QQ l).getD 0 .any= .int .i64 l.field)∧(∀l,(QQ l).getD 1 .any= .int .i64 l.r)∧(∀l,(QQ l).getD 2 .any= .int .i64 l.d)∧(∀l,(QQ l).getD 3 .any= .int .i64 l.kind)∧
 (∀l,(QQ l).getD (0+0) .any= .int .i64 l.field)∧(∀l,(QQ l).getD (0+1) .any= .int .i64 l.r)∧(∀l,(QQ l).getD (0+2) .any= .int .i64 l.d)∧(∀l,(QQ l).getD (0+3) .any= .int .i64 l.kind)∧
 (∀n:Nat,0+n=n)∧(∀n:Nat,n+0=n)∧(∀n:Nat,((n:Nat):Int).toNat=n)∧((0:Int).toNat=0)∧
 (∀(x d:AVal) (l:List AVal),(x::l).getD 0 d=x)∧(∀(x d:AVal) (l:List AVal) (n:Nat),(x::l).getD (n+1) d=l.getD n d)∧(∀(x d:List AVal) (l:List (List AVal)),(x::l).getD 0 d=x)∧(∀(x d:List AVal) (l:List (List AVal)) (n:Nat),(x::l).getD (n+1) d=l.getD n d):=
 ⟨fun _ _=>rfl,fun _=>rfl,fun _=>rfl,fun _=>rfl,fun _=>rfl,fun _=>rfl,fun _=>rfl,fun _=>rfl,fun _=>rfl,fun _=>rfl,fun _=>rfl,fun _=>rfl,fun _=>rfl,fun _=>rfl,fun _=>rfl,fun _=>rfl,fun _=>rfl,fun _=>rfl,fun _=>rfl,fun _=>rfl,fun _=>rfl,
  Nat.zero_add,Nat.add_zero,Int.toNat_natCast,Int.toNat_zero,fun _ _ _=>rfl,fun _ _ _ _=>rfl,fun _ _ _=>rfl,fun _ _ _ _=>rfl⟩
theorem sx:(∀(p:Prop) [Decidable p],(decide p=true)=p)∧(∀(p:Prop) [Decidable p],(decide p=false)= ¬p)∧(∀a b:Int,(¬a<b)=(b≤a))∧(∀a b:Int,(¬a≤b)=(b<a))∧(∀n:Nat,((n:Nat):Int).toNat=n)∧(∀a:Int,(a<a)=False)∧
 (∀a b:Int,(a>b)=(b<a))∧(∀a b:Nat,(a>b)=(b<a))∧((¬True)=False)∧((¬False)=True)∧((!true)=false)∧((!false)=true)∧(decide False=false)∧(decide True=true)∧((false=true)=False)∧((true=false)=False)∧((1:Nat)=0)=False∧
 (∀p:Prop,(p∧p)=p)∧(∀p:Prop,(p∧True)=p)∧(∀p:Prop,(True∧p)=p)∧(((0:Nat):Int)=0)∧(∀α:Type,([]:List α).length=0)∧(∀(α:Type) (a b:α),(a≠b)= ¬(a=b))∧(∀(p:Prop) [Decidable p],(¬¬p)=p)∧
 (∀b:Bool,((!b)=true)=(b=false))∧(∀b:Bool,((!b)=false)=(b=true))∧(∀(α β:Type) (f:α→β) (l:List α),(l.map f).length=l.length):=by
 refine⟨fun p _=>decide_eq_true_eq,fun p _=>propext decide_eq_false_iff_not,fun a b=>propext Int.not_lt,fun a b=>propext Int.not_le,Int.toNat_natCast,fun a=>eq_false (Int.lt_irrefl a),fun a b=>rfl,fun a b=>rfl,not_true_eq_false,not_false_eq_true,rfl,rfl,rfl,rfl,by simp,by simp,by simp,and_self,and_true,true_and,rfl,fun _=>rfl,fun _ _ _=>rfl,fun p _=>propext Decidable.not_not,fun b=>by cases b<;>simp,fun b=>by cases b<;>simp,fun _ _ f l=>List.length_map ..⟩
theorem cz{P:Prop}(h:P:=by first|((with_reducible refine PlanIs.mk ?_);kernel_rfl)|((with_reducible refine NoSel.mk ?_);kernel_rfl)|((with_reducible refine Apart.mk ?_);kernel_rfl)|((with_reducible first|show(_:Nat)≤_|show(_:Nat)<_);first|omega|(simp only[sg,List.length_map];omega)|exact Nat.le_of_ble_eq_true rfl)|((with_reducible first|show(_:Int)≤_|show(_:Int)<_);first|omega|(simp only[sg,List.length_map];omega))|((with_reducible show _=_);exact rfl)):P:=h
theorem nz{p q:Prop}(h:p)(k:¬p:=by omega):q:=absurd h k
theorem dz{q:Prop}(e:q:=by(try first|replace h:=of_decide_eq_true h|replace h:=of_decide_eq_false h);(try simp only[sg]at h);(try simp only[sx,↓reduceIte,Nat.reduceAdd,reduceCtorEq,Int.reduceLT,Int.reduceLE,Int.reduceSub,Nat.reduceEqDiff,Nat.reduceLT]at h);first|done|exact nz h):q:=e
theorem cv{q:Prop}(e:q:=by(try first|replace h:=of_decide_eq_true h|replace h:=of_decide_eq_false h);(try simp only[sg]at h);(try simp only[sx,↓reduceIte,Nat.reduceAdd,reduceCtorEq,Int.reduceLT,Int.reduceLE,Int.reduceSub,Nat.reduceEqDiff,Nat.reduceLT]at h);exact h):q:=e
theorem dzh{q:Prop}(e:q:=by(try first|replace h:=of_decide_eq_true h|replace h:=of_decide_eq_false h);(try simp only[sg,hx1]at h);(try simp only[sx,↓reduceIte,Nat.reduceAdd,reduceCtorEq,Int.reduceLT,Int.reduceLE,Int.reduceSub,Nat.reduceEqDiff,Nat.reduceLT]at h);first|done|exact nz h):q:=e
theorem cvh{q:Prop}(e:q:=by(try first|replace h:=of_decide_eq_true h|replace h:=of_decide_eq_false h);(try simp only[sg,hx1]at h);(try simp only[sx,↓reduceIte,Nat.reduceAdd,reduceCtorEq,Int.reduceLT,Int.reduceLE,Int.reduceSub,Nat.reduceEqDiff,Nat.reduceLT]at h);exact h):q:=e
theorem dzi{q:Prop}(e:q:=by(try first|replace h:=of_decide_eq_true h|replace h:=of_decide_eq_false h);(try simp only[sg,hx1,hx2,hx3,hx4]at h);(try simp only[sx,↓reduceIte,Nat.reduceAdd,reduceCtorEq,Int.reduceLT,Int.reduceLE,Int.reduceSub,Nat.reduceEqDiff,Nat.reduceLT]at h);first|done|exact nz h):q:=e
theorem cvi{q:Prop}(e:q:=by(try first|replace h:=of_decide_eq_true h|replace h:=of_decide_eq_false h);(try simp only[sg,hx1,hx2,hx3,hx4]at h);(try simp only[sx,↓reduceIte,Nat.reduceAdd,reduceCtorEq,Int.reduceLT,Int.reduceLE,Int.reduceSub,Nat.reduceEqDiff,Nat.reduceLT]at h);exact h):q:=e
section
set_option maxRecDepth 100000
set_option maxHeartbeats 4000000
abbrev Om(fs:List Fd)(ps ns:List Int)(a:Nat):List AVal:=[vF fs,vI ps,vI ns,.int .i64 (a:Nat)]
abbrev Zj(fs:List Fd)(ps ns:List Int)(a:Nat):Option Blk:=some (.cells [Om fs ps ns a] false)
def D1(Post:AVal→Heap→Nat→Prop):AVal→Heap→Nat→Prop:=fun v H nx=>∃K:Heap,K.sub H∧Post v K nx
theorem Xr.forget[Syms]{P:Program}{f:FuncId}{args:List AVal}{H:Heap}{nx:Nat}{Post:AVal→Heap→Nat→Prop}(h:Xr P f args H nx (D1 Post)):Xr P f args H nx Post:=by
 refine⟨h.1,fun ι w vs hv hH hb=>(h.2 ι w vs hv hH hb).mono ?_⟩
 rintro e w' ⟨v,H',nx',r,κ,⟨K,hs,hp⟩,h2,h3,h4,h5,h6,h7⟩
 exact⟨v,K,nx',r,κ,hp,h2,h3,h4.sub hs,⟨h5.keep,h5.fzle,h5.os,h5.tape,h5.output,h5.size,h5.same,fun g hg=>h5.own g (hg.sub hs),h5.fzs,h5.fresh⟩,h6,h7⟩
theorem C2{ρ:Nat→Nat}{row row':List AVal}(h:Ke row' row)(hf:∀x∈row,x.flat=true):WkB (.cells [row'] false) ((Blk.cells [row] false).ren ρ):=by
 rw[K2 ρ (Wz hf QX)]
 refine .each _ _ _ rfl fun k r r' h1 h2=>?_
 cases k with
 |zero=>
  cases h1;cases h2
  exact⟨h.at.1.symm,h.at.2⟩
 |succ k=>simp at h1
theorem C8{b:Option Blk}{l:Heap}:Heap.sub [(0,b)] ((0,b)::l):=fun n c h=>by
 rw[Heap.get_cons]at h ⊢
 by_cases hz:n=0
 ·subst hz;exact h
 ·rw[QA hz]at h;rw[show(bif false then b else Heap.get [] n)=none from Heap.get_nil n]at h;cases h
theorem ZP{ρ:Nat→Nat}{row row':List AVal}(h:Ke row' (AVal.renL ρ row)):WkB (.cells [row'] false) ((Blk.cells [row] false).ren ρ):=by
 simp only[Blk.ren,List.map_cons,List.map_nil]
 refine .each _ _ _ rfl fun k r r' h1 h2=>?_
 cases k with
 |zero=>
  cases h1;cases h2
  exact⟨h.at.1.symm,h.at.2⟩
 |succ k=>simp at h1
theorem O3{x:Int}(h:-9223372036854775808≤x∧x≤9223372036854775807):wr .i64 x=x:=if_pos h
noncomputable def OX:Nat→Nat→Pl:=YK [(41,3)] (Z1 plt)
theorem IF[Syms]{Post:AVal→Heap→Nat→Prop}(fs:List Fd)(ps ns:List Int)(a:Nat)(hn:ns.length≤9223372036854775807)(ha:a≤ns.length)(hP:Post (.int .i64 (Zd ns a).1) [(0,Zj fs ps ns (Zd ns a).2)] 1):
 fnT Ql Ql (QW fns) (QP tys) OX 100 41 [.ptr 0 0 0] [(0,Zj fs ps ns a)] 1 Post:=by
 unfold Zd at hP
 by_cases h:a<ns.length
 ·rw[if_pos h]at hP
  repeat' first|refine And.intro ?_ ?_|(intro h;try first|exact dz|replace h:=cv)
  all_goals try exact cz
  refine⟨⟨[(0,.ptr 0 0 0)],[(0,Zj fs ps ns (a+1))],1⟩,Q0 [0] (by exact rfl) ⟨.refl _,trivial⟩ ⟨⟨by decide,_,rfl,ZP (row:=Om fs ps ns (a+1)) ⟨.refl _,.refl _,.refl _,Qa (k:=.i64) (show wr .i64 ((a:Int)+1)=((a+1:Nat):Int) from(O3 (by omega)).trans (Int.natCast_succ a).symm),trivial⟩⟩,trivial⟩,?_⟩
  repeat' first|refine And.intro ?_ ?_|(intro h;try first|exact dz|replace h:=cv)
  all_goals try exact cz
  exact⟨⟨[(2,.int .i64 (ns.getD a 0))],[(0,Zj fs ps ns (a+1))],1⟩,Q0 [0] (by exact rfl) ⟨Qa (by show ns.getD (((a+1:Nat):Int)-1).toNat 0=ns.getD a 0;rw[show(((a+1:Nat):Int)-1).toNat=a by omega]),trivial⟩ ⟨⟨by decide,_,rfl,.refl _⟩,trivial⟩,_,rfl,hP⟩
 ·rw[if_neg h]at hP
  repeat' first|refine And.intro ?_ ?_|(intro h;try first|exact dz|replace h:=cv)
  all_goals try exact cz
  exact⟨⟨[(2,.int .i64 0)],[(0,Zj fs ps ns a)],1⟩,Q0 [0] (by exact rfl) ⟨.refl _,trivial⟩ ⟨⟨by decide,_,rfl,.refl _⟩,trivial⟩,_,rfl,hP⟩
def CT:SpecT:=fun args H nx Post=>∃fs ps ns a,args=[.ptr 0 0 0]∧H=[(0,Zj fs ps ns a)]∧nx=1∧ns.length≤9223372036854775807∧a≤ns.length∧Post (.int .i64 (Zd ns a).1) [(0,Zj fs ps ns (Zd ns a).2)] 1
theorem Hd[Syms]:CT.ok Tryz.prog 41:=by
 rintro args H nx Post ⟨fs,ps,ns,a,rfl,rfl,rfl,hn,ha,h⟩
 exact Zr QC Qz Qe Qk QV (IF fs ps ns a hn ha h)
def G_within8:List AVal→(AVal→Prop)→Prop:=fun args K=>∃a n,args=[.int .i64 a,.int .i64 n]∧(0<n∧n≤4611686018427387904)∧K (.int .i64 (wi a n))
theorem B6[Syms]:MF Tryz.prog 42 G_within8:=by
 rintro args K ⟨a,n,rfl,⟨h1,h2⟩,hk⟩
 refine⟨JF,_,hk,fun ι w vs hv=>?_⟩
 obtain⟨v0,vs0,rfl,hv0,hv⟩:=hv.uncons
 obtain⟨v1,vs1,rfl,hv1,hv⟩:=hv.uncons
 obtain rfl:=hv.unnil
 obtain rfl:=hv0.of_int
 obtain rfl:=hv1.of_int
 refine(Uz a n h1 h2 w).mono ?_
 rintro e w' ⟨rfl,rfl⟩
 exact⟨_,rfl,.int _ _,rfl⟩
theorem Vg(ns:List Int){a:Nat}(h:a≤ns.length):(Zd ns a).2≤ns.length:=by
 unfold Zd
 split
 ·exact ‹_›
 ·exact h
end
section
set_option maxRecDepth 100000
set_option maxHeartbeats 4000000
theorem LP[Syms](fs:List Fd)(field:Int)(hF:FsOk fs):
 fnT Ql OB (QW fns) (QP tys) (Z1 plt) 100 48 [vF fs,.int .i64 field] [] 0 (fun v H _=>v= .str (Zc fs (Q6 fs) field)∧H=[]):=by
 have hl:=hF.len
 have hpl:=XB fs
 repeat' first|refine And.intro ?_ ?_|(intro h;try simp only[decide_eq_true_eq,decide_eq_false_iff_not,Int.not_lt,Int.not_le,Int.toNat_natCast,↓reduceIte,Nat.reduceAdd,reduceCtorEq,Int.reduceLT,Int.lt_irrefl,gt_iff_lt,not_true_eq_false,not_false_eq_true,Bool.not_true,Bool.not_false,decide_false,decide_true,Int.reduceLE,Int.reduceSub,Bool.false_eq_true,Bool.true_eq_false,Nat.reduceEqDiff,Nat.one_ne_zero,Nat.reduceLT,and_self,and_true,true_and,Int.natCast_zero,Int.cast_ofNat_Int,List.length_nil,ne_eq,Decidable.not_not]at h)
 all_goals(try first|exact PlanIs.mk (by kernel_rfl)|omega|(show(_:Int)*((32:Nat):Int)≤_;omega)|(show(_:Int)*((8:Nat):Int)≤_;omega)|(show(_:Int)*((24:Nat):Int)≤_;omega)|exact rfl|exact Nat.le_of_ble_eq_true rfl|(show(_:Nat)≤(_:Nat);simp;done)|(show(_:Nat)≤(_:Nat);simp;omega))
 ·refine⟨_,.refl _ _ _,_,rfl,?_,rfl⟩
  exact congrArg AVal.str (a₂:=Zc fs (Q6 fs) field) (by rw[Zc,if_pos (.inl (by omega))])
 ·refine⟨_,.refl _ _ _,_,rfl,?_,rfl⟩
  exact congrArg AVal.str (a₂:=Zc fs (Q6 fs) field) (by rw[Zc,if_pos (.inr (by omega))])
 ·rename_i h1 h2
  refine⟨fs,rfl,hF,?_⟩
  have hlt:=Uc fs
  have h3:=hlt field.toNat (by omega)
  have hn:=hF.name
  generalize Q6 fs=ps at *
  repeat' first|refine And.intro ?_ ?_|(intro h;try simp only[decide_eq_true_eq,decide_eq_false_iff_not,Int.not_lt,Int.not_le,Int.toNat_natCast,↓reduceIte,Nat.reduceAdd,reduceCtorEq,Int.reduceLT,Int.lt_irrefl,gt_iff_lt,not_true_eq_false,not_false_eq_true,Bool.not_true,Bool.not_false,decide_false,decide_true,Int.reduceLE,Int.reduceSub,Bool.false_eq_true,Bool.true_eq_false,Nat.reduceEqDiff,Nat.one_ne_zero,Nat.reduceLT,and_self,and_true,true_and,Int.natCast_zero,Int.cast_ofNat_Int,List.length_nil,ne_eq,Decidable.not_not]at h)
  all_goals(try first|exact PlanIs.mk (by kernel_rfl)|omega|(show(_:Int)*((32:Nat):Int)≤_;omega)|(show(_:Int)*((8:Nat):Int)≤_;omega)|(show(_:Int)*((24:Nat):Int)≤_;omega)|exact rfl|exact Nat.le_of_ble_eq_true rfl|(show(_:Nat)≤(_:Nat);simp;done)|(show(_:Nat)≤(_:Nat);simp;omega))
  refine⟨fun n s=>∃(k:Int) (m:Nat) (out:List UInt8),(n=(k+1).toNat∧ -1≤k∧k<fs.length∧k≤m∧upK fs ps m k out=Zc fs ps field∧out.length≤2000*(1001-k).toNat)∧s=⟨[(0,vF fs),(1,.int .i64 field),(5,vI ps),(6,.str out),(7,.int .i64 k)],[],0⟩,
   ⟨_,⟨[(0,vF fs),(1,.int .i64 field),(5,vI ps),(6,.str (fs.getD field.toNat default).name),(7,.int .i64 (ps.getD field.toNat 0))],[],0⟩,VB [0,1,5,6,7],_,fs.length,_,⟨rfl,by omega,by omega,by omega,?_,?_⟩,rfl⟩,?_⟩
  ·rw[Zc,if_neg (by omega)]
  ·have:=hn field.toNat;omega
  rintro n s ⟨k,m,out,⟨rfl,hk1,hk2,hkm,hup,hol⟩,rfl⟩
  repeat' first|refine And.intro ?_ ?_|(intro h;try simp only[decide_eq_true_eq,decide_eq_false_iff_not,Int.not_lt,Int.not_le,Int.toNat_natCast,↓reduceIte,Nat.reduceAdd,reduceCtorEq,Int.reduceLT,Int.lt_irrefl,gt_iff_lt,not_true_eq_false,not_false_eq_true,Bool.not_true,Bool.not_false,decide_false,decide_true,Int.reduceLE,Int.reduceSub,Bool.false_eq_true,Bool.true_eq_false,Nat.reduceEqDiff,Nat.one_ne_zero,Nat.reduceLT,and_self,and_true,true_and,Int.natCast_zero,Int.cast_ofNat_Int,List.length_nil,ne_eq,Decidable.not_not]at h)
  all_goals(try first|exact PlanIs.mk (by kernel_rfl)|omega|(show(_:Int)*((32:Nat):Int)≤_;omega)|(show(_:Int)*((8:Nat):Int)≤_;omega)|(show(_:Int)*((24:Nat):Int)≤_;omega)|exact rfl|exact Nat.le_of_ble_eq_true rfl|(show(_:Nat)≤(_:Nat);simp;done)|(show(_:Nat)≤(_:Nat);simp;omega))
  ·show(fs.getD k.toNat default).name.length+1≤_
   have:=hn k.toNat
   omega
  ·show((fs.getD k.toNat default).name++[46]).length+out.length≤_
   have:=hn k.toNat
   simp only[List.length_append,List.length_cons,List.length_nil]
   omega
  ·obtain⟨m,rfl⟩:∃m',m=m'+1:=⟨m-1,by omega⟩
   have hk0:0<k:=‹_›
   have h4:=hlt k.toNat (by omega)
   have h5:=hn k.toNat
   rw[upK,if_pos hk0]at hup
   refine⟨_,⟨[(0,vF fs),(1,.int .i64 field),(5,vI ps),(6,.str ((fs.getD k.toNat default).name++[46]++out)),(7,.int .i64 (ps.getD k.toNat 0))],[],0⟩,VB [0,1,5,6,7],⟨_,m,_,⟨rfl,by omega,by omega,by omega,hup,?_⟩,rfl⟩,by omega⟩
   simp only[List.length_append,List.length_cons,List.length_nil]
   omega
  ·refine⟨_,.refl _ _ _,_,rfl,?_,rfl⟩
   exact congrArg AVal.str (by rw[←hup,C5 ‹_›])
def S_path:SpecI:=fun args K=>∃fs field,args=[vF fs,.int .i64 field]∧FsOk fs∧K (.str (Zc fs (Q6 fs) field))
theorem Cp[Syms]:Z8 Tryz.prog 48 S_path:=by
 rintro args K ⟨fs,field,rfl,h,hk⟩
 exact⟨rfl,_,rfl,hk,fnI QC Qz Qe L9 QV (LP fs field h)⟩
end
end Go.Proofs.YtekipcaifckffaaGreat
