/-
  Shapes of records as plain data,and how they are laid out;what it is to walk over one. Plain. 'known' of chapter 15:run as it stands. 'twin':has a field ahead in the same group that name? 'Parents':the places of fields' groups. 'Path':a field's names,from the way's beginning;the parents' places lie ahead. 'Make':a shape,of raw numbers.
-/
import Derived.Test.YtcpikannlnmafaaSxOne
import Derived.Test.YtcpikannlnmafaaTab
import Derived.Test.YtcpikannlnmafaaWithin
set_option linter.unusedVariables false
set_option linter.unusedSimpArgs false
namespace Go.Proofs.Ytcpikannlnmafaa
open Go Go.Av
structure Fd where
 name:List UInt8
 rep:Int
 kind:Int
 kids:Int
 deriving Inhabited
structure Lf where
 field:Int
 r:Int
 d:Int
 kind:Int
 deriving Inhabited
def encF(f:Fd):List AVal:=[.str f.name,.int .i64 f.rep,.int .i64 f.kind,.int .i64 f.kids]
def encI(p:Int):List AVal:=[.int .i64 p]
def QW(l:Lf):List AVal:=[.int .i64 l.field,.int .i64 l.r,.int .i64 l.d,.int .i64 l.kind]
def encG(p:Int×Int):List AVal:=[.int .i64 p.1,.int .i64 p.2]
abbrev vF(fs:List Fd):AVal:=vT 4 encF default fs
abbrev vI(l:List Int):AVal:=vT 1 encI 0 l
abbrev vL(l:List Lf):AVal:=vT 4 QW default l
theorem fF(l:List Fd):Qe (l.map encF):=Qa (fun a x hx=>by simp[encF]at hx;rcases hx with rfl|rfl|rfl|rfl<;>rfl) l
theorem fI(l:List Int):Qe (l.map encI):=Qa (fun a x hx=>by simp[encI]at hx;subst hx;rfl) l
theorem fL(l:List Lf):Qe (l.map QW):=Qa (fun a x hx=>by simp[QW]at hx;rcases hx with rfl|rfl|rfl|rfl<;>rfl) l
theorem fG(l:List (Int×Int)):Qe (l.map encG):=Qa (fun a x hx=>by simp[encG]at hx;rcases hx with rfl|rfl<;>rfl) l
theorem VP{α:Type}{enc:α→List AVal}{z:Nat}(h:∀a,(enc a).length=z)(l:List α)(a b:Nat):Bm z (((l.map enc).drop a).take b)=true:=by
 rw[Bm,List.all_eq_true]
 intro r hr
 obtain⟨x,_,rfl⟩:=List.mem_map.1 (List.mem_of_mem_drop (List.mem_of_mem_take hr))
 rw[h];exact Nat.beq_refl z
theorem aI(l:List Int)(a b:Nat):Bm 1 (((l.map encI).drop a).take b)=true:=VP (enc:=encI) (z:=1) (fun _=>rfl) l a b
abbrev Stk:=List (Int×Int)
def Z0:Stk→Stk
 |[]=>[]
 |(a,k)::t=>if k≤0 then Z0 t else(a,k)::t
def XO:Stk→Int
 |[]=>-1
 |(a,_)::_=>a
def Yk:Stk→Stk
 |[]=>[]
 |(a,k)::t=>(a,k-1)::t
def Zs(i:Nat)(f:Fd)(st:Stk):Stk:=if f.kind=0 then((i:Int),f.kids)::st else st
def Zr:List Fd→Nat→Stk→List (Int×Int)
 |[],_,_=>[]
 |f::fs,i,st=>(XO (Z0 st),((Z0 st).length:Int))::Zr fs (i+1) (Zs i f (Yk (Z0 st)))
def Q0(fs:List Fd):List Int:=(Zr fs 0 []).map (·.1)
theorem XI:∀(fs:List Fd) (i:Nat) (st:Stk),(Zr fs i st).length=fs.length
 |[],_,_=>rfl
 |f::fs,i,st=>by simp[Zr,XI fs]
section
def Mt:CallF:=fun _ _ _ _=>none
theorem FM[Syms]:Mt.ok Try.prog:=fun _ _ _ _ _ _ _ h=>by cases h
set_option maxRecDepth 1000000 in
theorem Cc:isTrue (LW Mt (Lm 0) (Zc fns) (Z5 tys) 300 23 [] [] 0)=true:=by kernel_rfl
theorem Eu[Syms]{P:Program}{f:FuncId}{H':Heap}{nx':Nat}(hf:UI P f)(h:Y6 P f [] [] 0 (.bool true) H' nx'):YZ P f [] [] 0 fun v H _=>v= .bool true∧H=[]:=by
 refine⟨hf,fun ι w vs hv hH hb=>(h ι w vs hv hH hb).mono ?_⟩
 rintro e w' ⟨r,κ,he,hr,hH',hst,hb'⟩
 have hl:=hst.l (Nat.le_refl 0)
 exact⟨.bool true,[],nx',r,κ,⟨rfl,rfl⟩,he,hr,hH'.sub (fun n b h=>by rw[Heap.get_nil]at h;cases h),{hl with own:=fun g ⟨n,b,L,h1,_⟩=>by rw[Heap.get_nil]at h1;cases h1},hb',Nat.zero_le _⟩
def S_known15:SpecI:=fun args K=>args=[]∧K (.bool true)
theorem Eo[Syms]:X0 Try.prog 23 S_known15:=by
 rintro args K ⟨rfl,hk⟩
 have hall:=D1 (con:=Mt) (pu:=Lm 0) FM QN QO Za 300
 have h:=Cc
 obtain⟨H',nx',hc⟩:=CN hall h
 have hf:UI Try.prog 23:=by
  unfold Av.isTrue at h
  split at h
  ·rename_i b H'' nx'' hr
   exact(hall _ _ _ _ _ _ _ hr).1
  ·cases h
 exact⟨rfl,_,rfl,hk,Eu hf hc⟩
end
section
def L5(fs:List Fd)(ps:List Int)(i k:Nat):Bool:=decide (ps.getD k 0=ps.getD i 0)&&eqb (fs.getD k default).name (fs.getD i default).name
def L4(fs:List Fd)(ps:List Int)(i:Nat):Bool:=(List.range i).any (L5 fs ps i)
set_option maxRecDepth 100000
set_option maxHeartbeats 2000000
end
section
set_option maxRecDepth 100000
set_option maxHeartbeats 4000000
abbrev tB[Syms](c ci:CallT):CallT:=Dn c ci (Zc fns) (Z5 tys) (ZS plt) 100
def wE(fs:List Fd)(i:Nat)(l:AVal):Env:=[(0,vF fs),(1,.func 33 [.ptr 0 0 0]),(4,.bool false),(5,l),(12,vF fs),(13,.int .i64 fs.length),(14,.int .i64 i)]
def wO(n:Nat):AVal:=.slice 1 0 n 1 none
def wL(st:Stk):AVal:=.slice 2 0 st.length 2 none
def wA(fs:List Fd):St:=⟨wE fs 0 .nils,[(0,some (.cells [[.nils]] false))],1⟩
def wB(fs:List Fd)(i:Nat)(out:List Int):St:=⟨wE fs i .nils,[(0,some (.cells [[wO i]] false)),(1,some (.cells (out.map encI) false))],2⟩
def wC(fs:List Fd)(i:Nat)(st:Stk)(out:List Int)(junk:List (List AVal)):St:=⟨wE fs i (wL st),[(0,some (.cells [[wO i]] false)),(1,some (.cells (out.map encI) false)),(2,some (.cells (st.reverse.map encG++junk) false))],3⟩
def wSt(fs:List Fd)(i:Nat)(st:Stk)(out:List Int)(s:St):Prop:=
 (i=0∧st=[]∧out=[]∧s=wA fs)∨(st=[]∧s=wB fs i out)∨(∃junk,Qe junk∧s=wC fs i st out junk)
def R9(fs:List Fd)(n:Nat)(s:St):Prop:=∃(i:Nat) (st:Stk) (out:List Int),(i≤fs.length∧n=fs.length-i∧out.length=i∧out++(Zr (fs.drop i) i st).map (·.1)=Q0 fs∧(∀p∈st,p.2≤9223372036854775807)∧st.length≤i)∧wSt fs i st out s
def wCi(fs:List Fd)(i n:Nat)(out:List Int)(R:List (List AVal)):St:=⟨[(0,vF fs),(1,.func 33 [.ptr 0 0 0]),(4,.bool false),(5,.slice 2 0 n 2 none),(6,.int .i64 i),(7,.ptr 3 0 0),(12,vF fs),(13,.int .i64 fs.length),(14,.int .i64 i),(15,.bool (decide ((i:Int)<fs.length)))],[(0,some (.cells [[wO i]] false)),(1,some (.cells (out.map encI) false)),(2,some (.cells R false)),(3,some (.cells [encF (fs.getD i default)] false))],5⟩
theorem UB{α:Type}[Inhabited α]{l:List α}{i:Nat}(h:i<l.length):l.drop i=l.getD i default::l.drop (i+1):=by
 rw[List.drop_eq_getElem_cons h];simp[h]
theorem Ny{fs:List Fd}{i:Nat}{st:Stk}(h:i<fs.length):Zr (fs.drop i) i st=(XO (Z0 st),((Z0 st).length:Int))::Zr (fs.drop (i+1)) (i+1) (Zs i (fs.getD i default) (Yk (Z0 st))):=by
 rw[UB h];rfl
theorem YG{fs:List Fd}{i:Nat}{st st':Stk}{out:List Int}(h:i<fs.length)(hw:out++(Zr (fs.drop i) i st).map (·.1)=Q0 fs)(hs:st'=Zs i (fs.getD i default) (Yk (Z0 st))):
 (out++[XO (Z0 st)])++(Zr (fs.drop (i+1)) (i+1) st').map (·.1)=Q0 fs:=by
 rw[←hw,Ny h,hs];simp
theorem Ic[Syms](fs:List Fd)(hl:fs.length<1000)(hk:∀i,(fs.getD i default).kids≤9223372036854775807):
 fnT Qz (Qv 30 (tB Qz (Qv 33 (tB Qz Qz) Qz)) (Qv 34 (tB Qz Qz) Qz)) (Zc fns) (Z5 tys) (ZS plt) 100 15 [vF fs] [] 0 (fun v H _=>v=vI (Q0 fs)∧H=[]):=by
 refine⟨R9 fs,⟨_,wA fs,?_,0,[],[],⟨by omega,rfl,rfl,rfl,by simp,by simp⟩,.inl ⟨rfl,rfl,rfl,rfl⟩⟩,?_⟩
 ·exact .refl _ _ _
 rintro n s ⟨i,st,out,⟨hi,rfl,ho,hw,hb,hsl⟩,(⟨rfl,rfl,rfl,rfl⟩|⟨rfl,rfl⟩|⟨junk,hj,rfl⟩)⟩
 · repeat' first|refine And.intro ?_ ?_|(intro h;try simp only[decide_eq_true_eq,decide_eq_false_iff_not,Int.not_lt,Int.not_le,Int.toNat_natCast,↓reduceIte,Nat.reduceAdd,reduceCtorEq,Int.reduceLT,Int.lt_irrefl,gt_iff_lt,not_true_eq_false,not_false_eq_true,Bool.not_true,Bool.not_false,decide_false,decide_true,Int.reduceLE,Int.reduceSub,Bool.false_eq_true,Bool.true_eq_false,Nat.reduceEqDiff,Nat.one_ne_zero,Nat.reduceLT,and_self,and_true,true_and,Int.natCast_zero,Int.cast_ofNat_Int,List.length_nil,ne_eq,Decidable.not_not]at h)
   all_goals(try first|exact PlanIs.mk (by kernel_rfl)|omega|(show(_:Int)*((32:Nat):Int)≤_;omega)|(show(_:Int)*((8:Nat):Int)≤_;omega)|(show(_:Int)*((24:Nat):Int)≤_;omega)|exact rfl|exact Nat.le_of_ble_eq_true rfl|(show(_:Nat)≤(_:Nat);simp;done)|(show(_:Nat)≤(_:Nat);simp;omega))
   ·refine XQ ?_
    repeat' first|refine And.intro ?_ ?_|(intro h;try simp only[decide_eq_true_eq,decide_eq_false_iff_not,Int.not_lt,Int.not_le,Int.toNat_natCast,↓reduceIte,Nat.reduceAdd,reduceCtorEq,Int.reduceLT,Int.lt_irrefl,gt_iff_lt,not_true_eq_false,not_false_eq_true,Bool.not_true,Bool.not_false,decide_false,decide_true,Int.reduceLE,Int.reduceSub,Bool.false_eq_true,Bool.true_eq_false,Nat.reduceEqDiff,Nat.one_ne_zero,Nat.reduceLT,and_self,and_true,true_and,Int.natCast_zero,Int.cast_ofNat_Int,List.length_nil,ne_eq,Decidable.not_not]at h)
    all_goals(try first|exact PlanIs.mk (by kernel_rfl)|omega|(show(_:Int)*((32:Nat):Int)≤_;omega)|(show(_:Int)*((8:Nat):Int)≤_;omega)|(show(_:Int)*((24:Nat):Int)≤_;omega)|exact rfl|exact Nat.le_of_ble_eq_true rfl|(show(_:Nat)≤(_:Nat);simp;done)|(show(_:Nat)≤(_:Nat);simp;omega))
    refine⟨_,.refl _ _ _,_,rfl,?_⟩
    repeat' first|refine And.intro ?_ ?_|(intro h;try simp only[decide_eq_true_eq,decide_eq_false_iff_not,Int.not_lt,Int.not_le,Int.toNat_natCast,↓reduceIte,Nat.reduceAdd,reduceCtorEq,Int.reduceLT,Int.lt_irrefl,gt_iff_lt,not_true_eq_false,not_false_eq_true,Bool.not_true,Bool.not_false,decide_false,decide_true,Int.reduceLE,Int.reduceSub,Bool.false_eq_true,Bool.true_eq_false,Nat.reduceEqDiff,Nat.one_ne_zero,Nat.reduceLT,and_self,and_true,true_and,Int.natCast_zero,Int.cast_ofNat_Int,List.length_nil,ne_eq,Decidable.not_not]at h)
    all_goals(try first|exact PlanIs.mk (by kernel_rfl)|omega|(show(_:Int)*((32:Nat):Int)≤_;omega)|(show(_:Int)*((8:Nat):Int)≤_;omega)|(show(_:Int)*((24:Nat):Int)≤_;omega)|exact rfl|exact Nat.le_of_ble_eq_true rfl|(show(_:Nat)≤(_:Nat);simp;done)|(show(_:Nat)≤(_:Nat);simp;omega))
    ·refine⟨_,wC fs 1 [(0,(fs.getD 0 default).kids)] [-1] [],Q1 [0,4,7] rfl ?_ ?_,⟨1,_,[-1],⟨by omega,rfl,rfl,YG (st:=[]) (by omega) hw (by rw[Zs,if_pos (show(fs.getD 0 default).kind=0 from ‹_›)];rfl),?_,by simp⟩,.inr (.inr ⟨[],by simp[Qe],rfl⟩)⟩,by omega⟩
     ·exact⟨.refl _,.refl _,.refl _,.refl _,.refl _,.refl _,.refl _,trivial⟩
     ·exact⟨⟨by decide,_,rfl,.refl _⟩,⟨by decide,_,rfl,.refl _⟩,⟨by decide,_,rfl,Q2 rfl (QC (fG _) QG)⟩,trivial⟩
     ·intro p hp;simp at hp;subst hp;exact hk 0
    ·refine⟨_,wB fs 1 [-1],Q1 [0,4] rfl ?_ ?_,⟨1,_,[-1],⟨by omega,rfl,rfl,YG (st:=[]) (by omega) hw (by rw[Zs,if_neg (show ¬(fs.getD 0 default).kind=0 from ‹_›)];rfl),?_,by simp⟩,.inr (.inl ⟨rfl,rfl⟩)⟩,by omega⟩
     ·exact⟨.refl _,.refl _,.refl _,.refl _,.refl _,.refl _,.refl _,trivial⟩
     ·exact⟨⟨by decide,_,rfl,.refl _⟩,⟨by decide,_,rfl,.refl _⟩,trivial⟩
     ·intro p hp;simp at hp
   ·refine XQ ?_
    repeat' first|refine And.intro ?_ ?_|(intro h;try simp only[decide_eq_true_eq,decide_eq_false_iff_not,Int.not_lt,Int.not_le,Int.toNat_natCast,↓reduceIte,Nat.reduceAdd,reduceCtorEq,Int.reduceLT,Int.lt_irrefl,gt_iff_lt,not_true_eq_false,not_false_eq_true,Bool.not_true,Bool.not_false,decide_false,decide_true,Int.reduceLE,Int.reduceSub,Bool.false_eq_true,Bool.true_eq_false,Nat.reduceEqDiff,Nat.one_ne_zero,Nat.reduceLT,and_self,and_true,true_and,Int.natCast_zero,Int.cast_ofNat_Int,List.length_nil,ne_eq,Decidable.not_not]at h)
    all_goals(try first|exact PlanIs.mk (by kernel_rfl)|omega|(show(_:Int)*((32:Nat):Int)≤_;omega)|(show(_:Int)*((8:Nat):Int)≤_;omega)|(show(_:Int)*((24:Nat):Int)≤_;omega)|exact rfl|exact Nat.le_of_ble_eq_true rfl|(show(_:Nat)≤(_:Nat);simp;done)|(show(_:Nat)≤(_:Nat);simp;omega))
    refine⟨_,.refl _ _ _,_,rfl,?_⟩
    repeat' first|refine And.intro ?_ ?_|(intro h;try simp only[decide_eq_true_eq,decide_eq_false_iff_not,Int.not_lt,Int.not_le,Int.toNat_natCast,↓reduceIte,Nat.reduceAdd,reduceCtorEq,Int.reduceLT,Int.lt_irrefl,gt_iff_lt,not_true_eq_false,not_false_eq_true,Bool.not_true,Bool.not_false,decide_false,decide_true,Int.reduceLE,Int.reduceSub,Bool.false_eq_true,Bool.true_eq_false,Nat.reduceEqDiff,Nat.one_ne_zero,Nat.reduceLT,and_self,and_true,true_and,Int.natCast_zero,Int.cast_ofNat_Int,List.length_nil,ne_eq,Decidable.not_not]at h)
    all_goals(try first|exact PlanIs.mk (by kernel_rfl)|omega|(show(_:Int)*((32:Nat):Int)≤_;omega)|(show(_:Int)*((8:Nat):Int)≤_;omega)|(show(_:Int)*((24:Nat):Int)≤_;omega)|exact rfl|exact Nat.le_of_ble_eq_true rfl|(show(_:Nat)≤(_:Nat);simp;done)|(show(_:Nat)≤(_:Nat);simp;omega))
    refine⟨_,.refl _ _ _,_,rfl,?_⟩
    refine⟨_,Kw (k:=2) 1 encI 0 rfl,_,rfl,?_,rfl⟩
    have h0:fs=[]:=List.eq_nil_of_length_eq_zero (by omega)
    subst h0
    rfl
 · repeat' first|refine And.intro ?_ ?_|(intro h;try simp only[decide_eq_true_eq,decide_eq_false_iff_not,Int.not_lt,Int.not_le,Int.toNat_natCast,↓reduceIte,Nat.reduceAdd,reduceCtorEq,Int.reduceLT,Int.lt_irrefl,gt_iff_lt,not_true_eq_false,not_false_eq_true,Bool.not_true,Bool.not_false,decide_false,decide_true,Int.reduceLE,Int.reduceSub,Bool.false_eq_true,Bool.true_eq_false,Nat.reduceEqDiff,Nat.one_ne_zero,Nat.reduceLT,and_self,and_true,true_and,Int.natCast_zero,Int.cast_ofNat_Int,List.length_nil,ne_eq,Decidable.not_not]at h)
   all_goals(try first|exact PlanIs.mk (by kernel_rfl)|omega|(show(_:Int)*((32:Nat):Int)≤_;omega)|(show(_:Int)*((8:Nat):Int)≤_;omega)|(show(_:Int)*((24:Nat):Int)≤_;omega)|exact rfl|exact Nat.le_of_ble_eq_true rfl|(show(_:Nat)≤(_:Nat);simp;done)|(show(_:Nat)≤(_:Nat);simp;omega))
   ·refine XQ ?_
    repeat' first|refine And.intro ?_ ?_|(intro h;try simp only[decide_eq_true_eq,decide_eq_false_iff_not,Int.not_lt,Int.not_le,Int.toNat_natCast,↓reduceIte,Nat.reduceAdd,reduceCtorEq,Int.reduceLT,Int.lt_irrefl,gt_iff_lt,not_true_eq_false,not_false_eq_true,Bool.not_true,Bool.not_false,decide_false,decide_true,Int.reduceLE,Int.reduceSub,Bool.false_eq_true,Bool.true_eq_false,Nat.reduceEqDiff,Nat.one_ne_zero,Nat.reduceLT,and_self,and_true,true_and,Int.natCast_zero,Int.cast_ofNat_Int,List.length_nil,ne_eq,Decidable.not_not]at h)
    all_goals(try first|exact PlanIs.mk (by kernel_rfl)|omega|(show(_:Int)*((32:Nat):Int)≤_;omega)|(show(_:Int)*((8:Nat):Int)≤_;omega)|(show(_:Int)*((24:Nat):Int)≤_;omega)|exact rfl|exact Nat.le_of_ble_eq_true rfl|(show(_:Nat)≤(_:Nat);simp;done)|(show(_:Nat)≤(_:Nat);simp;omega))
    refine⟨_,.refl _ _ _,_,rfl,?_⟩
    repeat' first|refine And.intro ?_ ?_|(intro h;try simp only[decide_eq_true_eq,decide_eq_false_iff_not,Int.not_lt,Int.not_le,Int.toNat_natCast,↓reduceIte,Nat.reduceAdd,reduceCtorEq,Int.reduceLT,Int.lt_irrefl,gt_iff_lt,not_true_eq_false,not_false_eq_true,Bool.not_true,Bool.not_false,decide_false,decide_true,Int.reduceLE,Int.reduceSub,Bool.false_eq_true,Bool.true_eq_false,Nat.reduceEqDiff,Nat.one_ne_zero,Nat.reduceLT,and_self,and_true,true_and,Int.natCast_zero,Int.cast_ofNat_Int,List.length_nil,ne_eq,Decidable.not_not]at h)
    all_goals(try first|exact PlanIs.mk (by kernel_rfl)|omega|(show(_:Int)*((32:Nat):Int)≤_;omega)|(show(_:Int)*((8:Nat):Int)≤_;omega)|(show(_:Int)*((24:Nat):Int)≤_;omega)|exact rfl|exact Nat.le_of_ble_eq_true rfl|(show(_:Nat)≤(_:Nat);simp;done)|(show(_:Nat)≤(_:Nat);simp;omega))
    ·refine⟨_,wC fs (i+1) [(i,(fs.getD i default).kids)] (out++[-1]) [],Q1 [0,5,8] rfl ?_ ?_,⟨i+1,_,_,⟨by omega,rfl,by simp[ho],YG (st:=[]) (by omega) hw (by rw[Zs,if_pos (show(fs.getD i default).kind=0 from ‹_›)];rfl),?_,by simp⟩,.inr (.inr ⟨[],by simp[Qe],rfl⟩)⟩,by omega⟩
     ·exact⟨.refl _,.refl _,.refl _,.refl _,.refl _,.refl _,.refl _,trivial⟩
     ·exact⟨⟨by decide,_,rfl,.refl _⟩,⟨by decide,_,rfl,Q2 (by show List.take i (List.drop 0 (out.map encI))++[[.int .i64 (-1)]]=_;rw[←ho];simp[encI];exact List.take_of_length_le (by simp)) (fI _)⟩,⟨by decide,_,rfl,Q2 rfl (QC (fG _) QG)⟩,trivial⟩
     ·intro p hp;simp at hp;subst hp;exact hk i
    ·refine⟨_,wB fs (i+1) (out++[-1]),Q1 [0,5] rfl ?_ ?_,⟨i+1,_,_,⟨by omega,rfl,by simp[ho],YG (st:=[]) (by omega) hw (by rw[Zs,if_neg (show ¬(fs.getD i default).kind=0 from ‹_›)];rfl),?_,by simp⟩,.inr (.inl ⟨rfl,rfl⟩)⟩,by omega⟩
     ·exact⟨.refl _,.refl _,.refl _,.refl _,.refl _,.refl _,.refl _,trivial⟩
     ·exact⟨⟨by decide,_,rfl,.refl _⟩,⟨by decide,_,rfl,Q2 (by show List.take i (List.drop 0 (out.map encI))++[[.int .i64 (-1)]]=_;rw[←ho];simp[encI];exact List.take_of_length_le (by simp)) (fI _)⟩,trivial⟩
     ·intro p hp;simp at hp
   ·refine XQ ?_
    repeat' first|refine And.intro ?_ ?_|(intro h;try simp only[decide_eq_true_eq,decide_eq_false_iff_not,Int.not_lt,Int.not_le,Int.toNat_natCast,↓reduceIte,Nat.reduceAdd,reduceCtorEq,Int.reduceLT,Int.lt_irrefl,gt_iff_lt,not_true_eq_false,not_false_eq_true,Bool.not_true,Bool.not_false,decide_false,decide_true,Int.reduceLE,Int.reduceSub,Bool.false_eq_true,Bool.true_eq_false,Nat.reduceEqDiff,Nat.one_ne_zero,Nat.reduceLT,and_self,and_true,true_and,Int.natCast_zero,Int.cast_ofNat_Int,List.length_nil,ne_eq,Decidable.not_not]at h)
    all_goals(try first|exact PlanIs.mk (by kernel_rfl)|omega|(show(_:Int)*((32:Nat):Int)≤_;omega)|(show(_:Int)*((8:Nat):Int)≤_;omega)|(show(_:Int)*((24:Nat):Int)≤_;omega)|exact rfl|exact Nat.le_of_ble_eq_true rfl|(show(_:Nat)≤(_:Nat);simp;done)|(show(_:Nat)≤(_:Nat);simp;omega))
    refine⟨_,.refl _ _ _,_,rfl,?_⟩
    repeat' first|refine And.intro ?_ ?_|(intro h;try simp only[decide_eq_true_eq,decide_eq_false_iff_not,Int.not_lt,Int.not_le,Int.toNat_natCast,↓reduceIte,Nat.reduceAdd,reduceCtorEq,Int.reduceLT,Int.lt_irrefl,gt_iff_lt,not_true_eq_false,not_false_eq_true,Bool.not_true,Bool.not_false,decide_false,decide_true,Int.reduceLE,Int.reduceSub,Bool.false_eq_true,Bool.true_eq_false,Nat.reduceEqDiff,Nat.one_ne_zero,Nat.reduceLT,and_self,and_true,true_and,Int.natCast_zero,Int.cast_ofNat_Int,List.length_nil,ne_eq,Decidable.not_not]at h)
    all_goals(try first|exact PlanIs.mk (by kernel_rfl)|omega|(show(_:Int)*((32:Nat):Int)≤_;omega)|(show(_:Int)*((8:Nat):Int)≤_;omega)|(show(_:Int)*((24:Nat):Int)≤_;omega)|exact rfl|exact Nat.le_of_ble_eq_true rfl|(show(_:Nat)≤(_:Nat);simp;done)|(show(_:Nat)≤(_:Nat);simp;omega))
    ·exact aI _ _ _
    ·refine⟨_,.refl _ _ _,_,rfl,?_⟩
     refine⟨_,Kw (k:=2) 1 encI 0 rfl,_,rfl,?_,rfl⟩
     have h0:fs=[]:=List.eq_nil_of_length_eq_zero (by omega)
     subst h0
     rfl
    ·refine⟨_,.refl _ _ _,_,rfl,?_⟩
     refine⟨_,XD (enc:=encI) (k:=2) 0 (l:=out) rfl rfl (QC QG (JF (fI _))) ?_ ?_,_,rfl,?_,rfl⟩
     ·show List.take (0+i) ([]++List.take i (List.drop 0 (out.map encI)))=_
      rw[←ho,List.nil_append,List.drop_zero,Nat.zero_add,List.take_take,Nat.min_self]
      exact List.take_of_length_le (Nat.le_of_eq (List.length_map ..))
     ·show 0+i≤([]++List.take i (List.drop 0 (out.map encI))).length
      simp
      omega
     ·rw[List.drop_of_length_le (by omega)]at hw
      simp[Zr]at hw
      exact congrArg vI hw
 · repeat' first|refine And.intro ?_ ?_|(intro h;try simp only[decide_eq_true_eq,decide_eq_false_iff_not,Int.not_lt,Int.not_le,Int.toNat_natCast,↓reduceIte,Nat.reduceAdd,reduceCtorEq,Int.reduceLT,Int.lt_irrefl,gt_iff_lt,not_true_eq_false,not_false_eq_true,Bool.not_true,Bool.not_false,decide_false,decide_true,Int.reduceLE,Int.reduceSub,Bool.false_eq_true,Bool.true_eq_false,Nat.reduceEqDiff,Nat.one_ne_zero,Nat.reduceLT,and_self,and_true,true_and,Int.natCast_zero,Int.cast_ofNat_Int,List.length_nil,ne_eq,Decidable.not_not]at h)
   all_goals(try first|exact PlanIs.mk (by kernel_rfl)|omega|(show(_:Int)*((32:Nat):Int)≤_;omega)|(show(_:Int)*((8:Nat):Int)≤_;omega)|(show(_:Int)*((24:Nat):Int)≤_;omega)|exact rfl|exact Nat.le_of_ble_eq_true rfl|(show(_:Nat)≤(_:Nat);simp;done)|(show(_:Nat)≤(_:Nat);simp;omega))
   ·refine⟨fun n s=>∃(st1:Stk) (junk1:List (List AVal)) (m:Nat),(n=m∧m=st1.length∧Z0 st1=Z0 st∧st1.reverse.map encG++junk1=st.reverse.map encG++junk∧Qe junk1∧(∀p∈st1,p.2≤9223372036854775807)∧st1.length≤st.length)∧s=wCi fs i m out (st.reverse.map encG++junk),⟨_,wCi fs i st.length out (st.reverse.map encG++junk),.refl _ _ _,st,junk,st.length,⟨rfl,rfl,rfl,rfl,hj,hb,Nat.le_refl _⟩,rfl⟩,?_⟩
    rintro n s ⟨st1,junk1,m,⟨rfl,hm,hp1,hR,hj1,hb1,hl1⟩,rfl⟩
    generalize st.reverse.map encG++junk=R at hR ⊢
    cases st1 with
    |nil=>
     obtain rfl:n=0:=hm
     have hst:Z0 st=[]:=hp1.symm
     have hRf:Qe R:=hR▸QC (fG []) hj1
     repeat' first|refine And.intro ?_ ?_|(intro h;try simp only[decide_eq_true_eq,decide_eq_false_iff_not,Int.not_lt,Int.not_le,Int.toNat_natCast,↓reduceIte,Nat.reduceAdd,reduceCtorEq,Int.reduceLT,Int.lt_irrefl,gt_iff_lt,not_true_eq_false,not_false_eq_true,Bool.not_true,Bool.not_false,decide_false,decide_true,Int.reduceLE,Int.reduceSub,Bool.false_eq_true,Bool.true_eq_false,Nat.reduceEqDiff,Nat.one_ne_zero,Nat.reduceLT,and_self,and_true,true_and,Int.natCast_zero,Int.cast_ofNat_Int,List.length_nil,ne_eq,Decidable.not_not]at h)
     all_goals(try first|exact PlanIs.mk (by kernel_rfl)|omega|(show(_:Int)*((32:Nat):Int)≤_;omega)|(show(_:Int)*((8:Nat):Int)≤_;omega)|(show(_:Int)*((24:Nat):Int)≤_;omega)|exact rfl|exact Nat.le_of_ble_eq_true rfl|(show(_:Nat)≤(_:Nat);simp;done)|(show(_:Nat)≤(_:Nat);simp;omega))
     refine⟨_,.refl _ _ _,_,rfl,?_⟩
     repeat' first|refine And.intro ?_ ?_|(intro h;try simp only[decide_eq_true_eq,decide_eq_false_iff_not,Int.not_lt,Int.not_le,Int.toNat_natCast,↓reduceIte,Nat.reduceAdd,reduceCtorEq,Int.reduceLT,Int.lt_irrefl,gt_iff_lt,not_true_eq_false,not_false_eq_true,Bool.not_true,Bool.not_false,decide_false,decide_true,Int.reduceLE,Int.reduceSub,Bool.false_eq_true,Bool.true_eq_false,Nat.reduceEqDiff,Nat.one_ne_zero,Nat.reduceLT,and_self,and_true,true_and,Int.natCast_zero,Int.cast_ofNat_Int,List.length_nil,ne_eq,Decidable.not_not]at h)
     all_goals(try first|exact PlanIs.mk (by kernel_rfl)|omega|(show(_:Int)*((32:Nat):Int)≤_;omega)|(show(_:Int)*((8:Nat):Int)≤_;omega)|(show(_:Int)*((24:Nat):Int)≤_;omega)|exact rfl|exact Nat.le_of_ble_eq_true rfl|(show(_:Nat)≤(_:Nat);simp;done)|(show(_:Nat)≤(_:Nat);simp;omega))
     ·refine⟨_,wC fs (i+1) [(i,(fs.getD i default).kids)] (out++[-1]) [],Q1 [0,6,9] rfl ?_ ?_,⟨i+1,_,_,⟨by omega,rfl,by simp[ho],by have:=YG (st:=st) (st':=[(i,(fs.getD i default).kids)]) (by omega) hw (by rw[hst,Zs,if_pos (show(fs.getD i default).kind=0 from ‹_›)];rfl);rw[hst]at this;exact this,?_,by simp⟩,.inr (.inr ⟨[],QG,rfl⟩)⟩,by omega⟩
      ·exact⟨.refl _,.refl _,.refl _,.refl _,.refl _,.refl _,.refl _,trivial⟩
      ·exact⟨⟨by decide,_,rfl,.refl _⟩,⟨by decide,_,rfl,Q2 (by show List.take i (List.drop 0 (out.map encI))++[[.int .i64 (-1)]]=_;rw[←ho];simp[encI];exact List.take_of_length_le (by simp)) (fI _)⟩,⟨by decide,_,rfl,Q2 rfl (QC (fG _) QG)⟩,trivial⟩
      ·intro p hp;simp at hp;subst hp;exact hk i
     ·refine⟨_,wC fs (i+1) [] (out++[-1]) R,Q1 [0,6,2] rfl ?_ ?_,⟨i+1,_,_,⟨by omega,rfl,by simp[ho],by have:=YG (st:=st) (st':=[]) (by omega) hw (by rw[hst,Zs,if_neg (show ¬(fs.getD i default).kind=0 from ‹_›)];rfl);rw[hst]at this;exact this,?_,by simp⟩,.inr (.inr ⟨R,hRf,rfl⟩)⟩,by omega⟩
      ·exact⟨.refl _,.refl _,.refl _,.refl _,.refl _,.refl _,.refl _,trivial⟩
      ·exact⟨⟨by decide,_,rfl,.refl _⟩,⟨by decide,_,rfl,Q2 (by show List.take i (List.drop 0 (out.map encI))++[[.int .i64 (-1)]]=_;rw[←ho];simp[encI];exact List.take_of_length_le (by simp)) (fI _)⟩,⟨by decide,_,rfl,Q2 rfl (QC (fG _) hRf)⟩,trivial⟩
      ·intro p hp;simp at hp
    |cons q t=>
     obtain⟨a,k⟩:=q
     obtain rfl:n=t.length+1:=hm
     have hx1:0+((↑(t.length+1):Int)-1).toNat=t.length:=by omega
     have hx2:R.getD t.length []=encG (a,k):=by rw[←hR];simp[List.getElem?_append,List.getElem?_map]
     have hRl:t.length<R.length:=by rw[←hR];simp
     have hRf:Qe R:=hR▸QC (fG _) hj1
     have hkb:k≤9223372036854775807:=hb1 (a,k) (List.mem_cons_self ..)
     have htl:t.length+1≤st.length:=hl1
     have hset:∀x,R.set t.length (encG x)=(x::t).reverse.map encG++junk1:=fun x=>by rw[←hR];simp[List.set_append]
     repeat' first|refine And.intro ?_ ?_|(intro h;try simp only[decide_eq_true_eq,decide_eq_false_iff_not,Int.not_lt,Int.not_le,Int.toNat_natCast,↓reduceIte,Nat.reduceAdd,reduceCtorEq,Int.reduceLT,Int.lt_irrefl,gt_iff_lt,not_true_eq_false,not_false_eq_true,Bool.not_true,Bool.not_false,decide_false,decide_true,Int.reduceLE,Int.reduceSub,Bool.false_eq_true,Bool.true_eq_false,Nat.reduceEqDiff,Nat.one_ne_zero,Nat.reduceLT,and_self,and_true,true_and,Int.natCast_zero,Int.cast_ofNat_Int,List.length_nil,ne_eq,Decidable.not_not,hx1,hx2]at h)
     all_goals(try first|exact PlanIs.mk (by kernel_rfl)|omega|exact rfl|exact Nat.le_of_ble_eq_true rfl|(show(_:Nat)≤(_:Nat);simp;done)|(show(_:Nat)≤(_:Nat);simp;omega)|(rw[hx1,hx2];exact rfl)|(rw[hx1,hx2];show(-9223372036854775808:Int)≤k-1;have hk0:(0:Int)<k:=‹_›;omega)|(rw[hx1,hx2];show k-1≤(9223372036854775807:Int);omega)|(show(_:Nat)≤(_:Nat);rw[hx1,hx2];exact Nat.le_of_ble_eq_true rfl))
     ·refine⟨t.length,wCi fs i t.length out R,Q1 [0,1,2,3,4] rfl ?_ ?_,⟨t,encG (a,k)::junk1,t.length,⟨rfl,rfl,?_,?_,?_,fun p hp=>hb1 p (List.mem_cons_of_mem _ hp),by omega⟩,rfl⟩,by omega⟩
      ·refine⟨.refl _,.refl _,.refl _,?_,.refl _,.refl _,.refl _,.refl _,.refl _,.refl _,trivial⟩
       show WkV (.slice 2 (0+0) (((↑(t.length+1):Int)-1).toNat-0) 2 none) _
       rw[show((↑(t.length+1):Int)-1).toNat-0=t.length by omega]
       exact .refl _
      ·exact⟨⟨by decide,_,rfl,.refl _⟩,⟨by decide,_,rfl,Qc (fI _)⟩,⟨by decide,_,rfl,Qc hRf⟩,⟨by decide,_,rfl,.refl _⟩,trivial⟩
      ·rw[←hp1,Z0,if_pos (show k≤0 from ‹_›)]
      ·rw[←hR];simp
      ·exact Xs (fun x hx=>by simp[encG]at hx;rcases hx with rfl|rfl<;>rfl) hj1
     ·have hk0:(0:Int)<k:=‹_›
      have hpz:Z0 st=(a,k)::t:=by rw[←hp1,Z0,if_neg (by omega)]
      refine⟨_,.refl _ _ _,_,rfl,?_⟩
      repeat' first|refine And.intro ?_ ?_|(intro h;try simp only[decide_eq_true_eq,decide_eq_false_iff_not,Int.not_lt,Int.not_le,Int.toNat_natCast,↓reduceIte,Nat.reduceAdd,reduceCtorEq,Int.reduceLT,Int.lt_irrefl,gt_iff_lt,not_true_eq_false,not_false_eq_true,Bool.not_true,Bool.not_false,decide_false,decide_true,Int.reduceLE,Int.reduceSub,Bool.false_eq_true,Bool.true_eq_false,Nat.reduceEqDiff,Nat.one_ne_zero,Nat.reduceLT,and_self,and_true,true_and,Int.natCast_zero,Int.cast_ofNat_Int,List.length_nil,ne_eq,Decidable.not_not,hx1,hx2]at h)
      all_goals(try first|exact PlanIs.mk (by kernel_rfl)|omega|exact rfl|exact Nat.le_of_ble_eq_true rfl|(show(_:Nat)≤(_:Nat);simp;done)|(show(_:Nat)≤(_:Nat);simp;omega)|(rw[hx1,hx2];exact rfl)|(rw[hx1,hx2];show(-9223372036854775808:Int)≤k-1;have hk0:(0:Int)<k:=‹_›;omega)|(rw[hx1,hx2];show k-1≤(9223372036854775807:Int);omega)|(show(_:Nat)≤(_:Nat);rw[hx1,hx2];exact Nat.le_of_ble_eq_true rfl))
      ·refine⟨_,wC fs (i+1) ((i,(fs.getD i default).kids)::(a,k-1)::t) (out++[a]) [],Q1 [0,7,10] rfl ?_ ?_,⟨i+1,_,_,⟨by omega,rfl,by simp[ho],by have:=YG (st:=st) (st':=(i,(fs.getD i default).kids)::(a,k-1)::t) (by omega) hw (by rw[hpz,Zs,if_pos (show(fs.getD i default).kind=0 from ‹_›)];rfl);rw[hpz]at this;exact this,?_,by simp;omega⟩,.inr (.inr ⟨[],QG,rfl⟩)⟩,by omega⟩
       ·exact⟨.refl _,.refl _,.refl _,.refl _,.refl _,.refl _,.refl _,trivial⟩
       ·refine⟨⟨by decide,_,rfl,.refl _⟩,⟨by decide,_,rfl,Q2 ?_ (fI _)⟩,⟨by decide,_,rfl,Q2 ?_ (QC (fG _) QG)⟩,trivial⟩
        ·show List.take i (List.drop 0 (out.map encI))++[[.int .i64 (asI ((R.getD (0+((↑(t.length+1):Int)-1).toNat) []).getD (0+0) .any))]]=_
         rw[hx1,hx2,←ho];simp[encI,encG,asI];exact List.take_of_length_le (by simp)
        ·show List.take (t.length+1) (List.drop 0 (R.set (0+((↑(t.length+1):Int)-1).toNat) (Qm (R.getD (0+((↑(t.length+1):Int)-1).toNat) []) (0+1) [.int .i64 (asI ((R.getD (0+((↑(t.length+1):Int)-1).toNat) []).getD (0+1) .any)-1)])))++[encG (i,(fs.getD i default).kids)]=_
         rw[hx1,hx2,show Qm (encG (a,k)) (0+1) [.int .i64 (asI ((encG (a,k)).getD (0+1) .any)-1)]=encG (a,k-1) from rfl,hset]
         have htk:List.take (t.length+1) (((a,k-1)::t).reverse.map encG++junk1)=((a,k-1)::t).reverse.map encG:=by
          rw[show t.length+1=(((a,k-1)::t).reverse.map encG).length by simp];exact List.take_left
         rw[List.drop_zero,htk]
         simp
       ·intro p hp
        simp at hp
        rcases hp with rfl|rfl|hp
        ·exact hk i
        ·show k-1≤_;omega
        ·exact hb1 p (List.mem_cons_of_mem _ hp)
      ·refine⟨_,wC fs (i+1) ((a,k-1)::t) (out++[a]) junk1,Q1 [0,7,2] rfl ?_ ?_,⟨i+1,_,_,⟨by omega,rfl,by simp[ho],by have:=YG (st:=st) (st':=(a,k-1)::t) (by omega) hw (by rw[hpz,Zs,if_neg (show ¬(fs.getD i default).kind=0 from ‹_›)];rfl);rw[hpz]at this;exact this,?_,by simp;omega⟩,.inr (.inr ⟨junk1,hj1,rfl⟩)⟩,by omega⟩
       ·exact⟨.refl _,.refl _,.refl _,.refl _,.refl _,.refl _,.refl _,trivial⟩
       ·refine⟨⟨by decide,_,rfl,.refl _⟩,⟨by decide,_,rfl,Q2 ?_ (fI _)⟩,⟨by decide,_,rfl,Q2 ?_ (QC (fG _) hj1)⟩,trivial⟩
        ·show List.take i (List.drop 0 (out.map encI))++[[.int .i64 (asI ((R.getD (0+((↑(t.length+1):Int)-1).toNat) []).getD (0+0) .any))]]=_
         rw[hx1,hx2,←ho];simp[encI,encG,asI];exact List.take_of_length_le (by simp)
        ·show R.set (0+((↑(t.length+1):Int)-1).toNat) (Qm (R.getD (0+((↑(t.length+1):Int)-1).toNat) []) (0+1) [.int .i64 (asI ((R.getD (0+((↑(t.length+1):Int)-1).toNat) []).getD (0+1) .any)-1)])=_
         rw[hx1,hx2,show Qm (encG (a,k)) (0+1) [.int .i64 (asI ((encG (a,k)).getD (0+1) .any)-1)]=encG (a,k-1) from rfl,hset]
       ·intro p hp
        simp at hp
        rcases hp with rfl|hp
        ·show k-1≤_;omega
        ·exact hb1 p (List.mem_cons_of_mem _ hp)
   ·refine⟨fun n s=>∃(j:Nat) (b:Bool),(j≤st.length∧n=st.length-j)∧s=⟨[(4,.bool b),(74,wL st),(75,.int .i64 st.length),(76,.int .i64 j)],[(0,some (.cells [[wO i]] false)),(1,some (.cells (out.map encI) false)),(2,some (.cells (st.reverse.map encG++junk) false))],3⟩,⟨_,_,Hs [4,74,75,76],0,false,⟨by omega,rfl⟩,rfl⟩,?_⟩
    rintro n s ⟨j,b,⟨hj0,rfl⟩,rfl⟩
    generalize hR:st.reverse.map encG++junk=R
    have hRl:st.length≤R.length:=by rw[←hR];simp
    have hRf:Qe R:=hR▸QC (fG _) hj
    have hx2:(j:Int)<st.length→ ∃q,R.getD j []=encG q:=fun h=>by
     have h':j<(st.reverse.map encG).length:=by simp;omega
     refine⟨st.reverse.getD j default,?_⟩
     rw[←hR,List.getD_eq_getElem?_getD,List.getElem?_append_left h',←List.getD_eq_getElem?_getD]
     exact WR encG default (by simp;omega)
    repeat' first|refine And.intro ?_ ?_|(intro h;try simp only[decide_eq_true_eq,decide_eq_false_iff_not,Int.not_lt,Int.not_le,Int.toNat_natCast,↓reduceIte,Nat.reduceAdd,reduceCtorEq,Int.reduceLT,Int.lt_irrefl,gt_iff_lt,not_true_eq_false,not_false_eq_true,Bool.not_true,Bool.not_false,decide_false,decide_true,Int.reduceLE,Int.reduceSub,Bool.false_eq_true,Bool.true_eq_false,Nat.reduceEqDiff,Nat.one_ne_zero,Nat.reduceLT,and_self,and_true,true_and,Int.natCast_zero,Int.cast_ofNat_Int,List.length_nil,ne_eq,Decidable.not_not]at h)
    all_goals(try first|exact PlanIs.mk (by kernel_rfl)|omega|(show(_:Int)*((32:Nat):Int)≤_;omega)|(show(_:Int)*((8:Nat):Int)≤_;omega)|(show(_:Int)*((24:Nat):Int)≤_;omega)|exact rfl|exact Nat.le_of_ble_eq_true rfl|(show(_:Nat)≤(_:Nat);simp;done)|(show(_:Nat)≤(_:Nat);simp;omega))
    ·rename_i h
     obtain⟨q,hq⟩:=hx2 h
     rw[show 0+(j:Int).toNat=j by simp,hq]
     rfl
    ·refine⟨_,⟨[(4,.bool true),(74,wL st),(75,.int .i64 st.length),(76,.int .i64 ((j+1:Nat):Int))],[(0,some (.cells [[wO i]] false)),(1,some (.cells (out.map encI) false)),(2,some (.cells R false))],3⟩,Q1 [0,1,2] rfl ⟨.refl _,.refl _,.refl _,.refl _,trivial⟩ ⟨⟨by decide,_,rfl,.refl _⟩,⟨by decide,_,rfl,Qc (fI _)⟩,⟨by decide,_,rfl,Qc hRf⟩,trivial⟩,⟨j+1,_,⟨by omega,rfl⟩,rfl⟩,by omega⟩
    ·refine⟨_,⟨[(4,.bool _),(74,wL st),(75,.int .i64 st.length),(76,.int .i64 ((j+1:Nat):Int))],[(0,some (.cells [[wO i]] false)),(1,some (.cells (out.map encI) false)),(2,some (.cells R false))],3⟩,Q1 [0,1,2] rfl ⟨.refl _,.refl _,.refl _,.refl _,trivial⟩ ⟨⟨by decide,_,rfl,.refl _⟩,⟨by decide,_,rfl,Qc (fI _)⟩,⟨by decide,_,rfl,Qc hRf⟩,trivial⟩,⟨j+1,_,⟨by omega,rfl⟩,rfl⟩,by omega⟩
    ·refine⟨_,.refl _ _ _,_,rfl,?_⟩
     repeat' first|refine And.intro ?_ ?_|(intro h;try simp only[decide_eq_true_eq,decide_eq_false_iff_not,Int.not_lt,Int.not_le,Int.toNat_natCast,↓reduceIte,Nat.reduceAdd,reduceCtorEq,Int.reduceLT,Int.lt_irrefl,gt_iff_lt,not_true_eq_false,not_false_eq_true,Bool.not_true,Bool.not_false,decide_false,decide_true,Int.reduceLE,Int.reduceSub,Bool.false_eq_true,Bool.true_eq_false,Nat.reduceEqDiff,Nat.one_ne_zero,Nat.reduceLT,and_self,and_true,true_and,Int.natCast_zero,Int.cast_ofNat_Int,List.length_nil,ne_eq,Decidable.not_not]at h)
     all_goals(try first|exact PlanIs.mk (by kernel_rfl)|omega|(show(_:Int)*((32:Nat):Int)≤_;omega)|(show(_:Int)*((8:Nat):Int)≤_;omega)|(show(_:Int)*((24:Nat):Int)≤_;omega)|exact rfl|exact Nat.le_of_ble_eq_true rfl|(show(_:Nat)≤(_:Nat);simp;done)|(show(_:Nat)≤(_:Nat);simp;omega))
     ·exact aI _ _ _
     ·refine⟨_,.refl _ _ _,_,rfl,?_⟩
      refine⟨_,Kw (k:=2) 1 encI 0 rfl,_,rfl,?_,rfl⟩
      have h0:fs=[]:=List.eq_nil_of_length_eq_zero (by omega)
      subst h0
      rfl
     ·refine⟨_,.refl _ _ _,_,rfl,?_⟩
      refine⟨_,XD (enc:=encI) (k:=2) 0 (l:=out) rfl rfl (QC QG (JF (fI _))) ?_ ?_,_,rfl,?_,rfl⟩
      ·show List.take (0+i) ([]++List.take i (List.drop 0 (out.map encI)))=_
       rw[←ho,List.nil_append,List.drop_zero,Nat.zero_add,List.take_take,Nat.min_self]
       exact List.take_of_length_le (Nat.le_of_eq (List.length_map ..))
      ·show 0+i≤([]++List.take i (List.drop 0 (out.map encI))).length
       simp
       omega
      ·rw[List.drop_of_length_le (by omega)]at hw
       simp[Zr]at hw
       exact congrArg vI hw
end
section
set_option maxRecDepth 100000
set_option maxHeartbeats 4000000
theorem Mk{st:Stk}{p:Int×Int}(h:p∈Z0 st):p∈st:=by
 induction st with
 |nil=>simp[Z0]at h
 |cons q t ih=>
  obtain⟨a,k⟩:=q
  rw[Z0]at h
  split at h
  ·exact List.mem_cons_of_mem _ (ih h)
  ·exact h
theorem H6:∀(fs:List Fd) (i:Nat) (st:Stk),(∀p∈st,0≤p.1∧p.1<i)→ ∀j,j<fs.length→ -1≤((Zr fs i st).map (·.1)).getD j 0∧((Zr fs i st).map (·.1)).getD j 0<i+j
 |[],_,_,_,j,h=>by simp at h
 |f::fs,i,st,hst,j,h=>by
  cases j with
  |zero=>
   show -1≤XO (Z0 st)∧XO (Z0 st)<_
   cases hp:Z0 st with
   |nil=>simp only[XO];omega
   |cons q t=>
    have:=hst q (Mk (by rw[hp];exact List.mem_cons_self ..))
    simp only[XO];omega
  |succ j=>
   have:=H6 fs (i+1) (Zs i f (Yk (Z0 st))) (fun p hp=>?_) j (by simpa using h)
   ·simp only[Zr,List.map_cons,List.getD_cons_succ]
    omega
   ·have hd:p∈Yk (Z0 st)→0≤p.1∧p.1<((i+1:Nat):Int):=by
     intro hp
     cases hq:Z0 st with
     |nil=>rw[hq]at hp;simp[Yk]at hp
     |cons q t=>
      rw[hq]at hp
      have hall:∀r∈q::t,0≤r.1∧r.1<(i:Int):=fun r hr=>hst r (Mk (by rw[hq];exact hr))
      simp only[Yk,List.mem_cons]at hp
      rcases hp with rfl|hp
      ·have:=hall q (List.mem_cons_self ..);exact⟨this.1,by have:=this.2;show q.1<_;omega⟩
      ·have:=hall p (List.mem_cons_of_mem _ hp);exact⟨this.1,by omega⟩
    unfold Zs at hp
    split at hp
    ·rcases List.mem_cons.1 hp with rfl|hp
     ·exact⟨by show(0:Int)≤(i:Int);omega,by show(i:Int)<_;omega⟩
     ·exact hd hp
    ·exact hd hp
theorem Qj(fs:List Fd):(Q0 fs).length=fs.length:=by simp[Q0,XI]
theorem Ea(fs:List Fd)(j:Nat)(h:j<fs.length):-1≤(Q0 fs).getD j 0∧(Q0 fs).getD j 0<j:=by
 have:=H6 fs 0 [] (by simp) j h
 simp only[Q0]
 omega
structure FsOk(fs:List Fd):Prop where
 len:fs.length<1000
 kids:∀i,(fs.getD i default).kids≤9223372036854775807
 name:∀i,(fs.getD i default).name.length≤1000
def S_par:SpecI:=fun args K=>∃fs,args=[vF fs]∧FsOk fs∧K (vI (Q0 fs))
theorem Lo[Syms]:X0 Try.prog 15 S_par:=by
 rintro args K ⟨fs,rfl,h,hk⟩
 exact⟨rfl,_,rfl,hk,fnI QN QO Qn (YF (YP QN QO Qn (YF (YP QN QO Qn Qy Za) Qy) Za) (YF (YP QN QO Qn Qy Za) Qy)) Za (Ic fs h.len h.kids)⟩
end
section
set_option maxRecDepth 100000
set_option maxHeartbeats 4000000
def U3(fs:List Fd):Nat→List Int→List Int
 |k+1,a::b::t=>if 0<(fs.getD a.toNat default).kids then U3 fs k (b::t)else a::b::t
 |_,op=>op
def X3(fs:List Fd)(a:Nat):List Fd:=fs.set a {fs.getD a default with kids:=(fs.getD a default).kids+1}
def Xw(op:List Int)(x:Int):Int:=if 4<op.length∧(wi x 8).tmod 5=0 then 2 else(wi x 8).tmod 5
def nmM(i:Nat):List UInt8:=[UInt8.ofNat (97+i)]
def Ev(op:List Int)(i:Nat)(x:Int):Fd:=⟨nmM i,wi (wr .i64 (x.tdiv 8)) 3,Xw op x,0⟩
def ZJ(op:List Int):Int:=op.headD 0
def X8(fs:List Fd)(op:List Int)(i:Nat)(x:Int):List Fd×List Int:=
 let o:=U3 fs (wi (wr .i64 (x.tdiv 64)) 3).toNat op
 let f:=Ev o i x
 (X3 fs (ZJ o).toNat++[f],if f.kind=0 then(fs.length:Int)::o else o)
def ZW(ns:List Int):Nat→Nat→List Fd→List Int→List Fd×List Int
 |0,_,fs,op=>(fs,op)
 |n+1,i,fs,op=>if i<ns.length∧i<12 then let r:=X8 fs op i (ns.getD i 0);ZW ns n (i+1) r.1 r.2 else(fs,op)
def Y4(fs:List Fd)(op:List Int):List Fd:=
 if(fs.getD (ZJ op).toNat default).kids=0 then X3 fs (ZJ op).toNat++[⟨[122],0,4,0⟩]else fs
def Q7(ns:List Int):List Fd:=let r:=ZW ns 12 0 [⟨[109],0,0,0⟩] [0];Y4 r.1 r.2
abbrev fs0:List Fd:=[⟨[109],0,0,0⟩]
theorem UN:∀i,i<12→Xl [[.int .u8 (wr .u8 (97+(i:Nat)))]]=nmM i:=by decide
theorem Q8(fs:List Fd)(a:Nat):(X3 fs a).length=fs.length:=by simp[X3]
theorem Xb{fs:List Fd}{a:Nat}(h:a<fs.length):(fs.map encF).set a [.str (fs.getD a default).name,.int .i64 (fs.getD a default).rep,.int .i64 (fs.getD a default).kind,.int .i64 ((fs.getD a default).kids+1)]=(X3 fs a).map encF:=by simp[X3,encF,List.map_set]
theorem Iv{fs:List Fd}{a:Nat}{i:Nat}(h:∀f∈fs,0≤f.kids∧f.kids≤i)(ha:a<fs.length):∀f∈X3 fs a,0≤f.kids∧f.kids≤(i+1:Nat):=by
 intro f hf
 rcases List.mem_or_eq_of_mem_set hf with hf|rfl
 ·have:=h f hf;omega
 ·have:=h (fs.getD a default) (by simp[List.getD_eq_getElem?_getD,ha])
  simp only;omega
theorem Xx{ns:List Int}{i:Nat}{fs:List Fd}{op:List Int}{k0:Nat}{a:Int}{t:List Int}(hrun:ZW ns (12-i) i fs op=ZW ns 12 0 fs0 [0])(hlen:fs.length=i+1)
 (hkid:∀f∈fs,0≤f.kids∧f.kids≤i) (hin:(i:Int)<ns.length) (h12:(i:Int)<12) (hk0:wi (wr .i64 ((ns.getD i 0).tdiv 64)) 3=(k0:Int)) (hp:U3 fs k0 op=a::t)
 (hop1:∀p∈a::t,0≤p∧p<fs.length) (hol2:t.length+1≤i+1) (kd:Int) (hkd:Xw (a::t) (ns.getD i 0)=kd) (op':List Int) (hop':op'=if kd=0 then(fs.length:Int)::a::t else a::t)
 (fs':List Fd) (hfs':fs'=X3 fs a.toNat++[⟨nmM i,wi (wr .i64 ((ns.getD i 0).tdiv 8)) 3,kd,0⟩]):
 ZW ns (12-(i+1)) (i+1) fs' op'=ZW ns 12 0 fs0 [0]∧fs'.length=i+1+1∧op'≠[]∧(∀p∈op',0≤p∧p<fs'.length)∧(∀f∈fs',0≤f.kids∧f.kids≤(i+1:Nat))∧op'.length≤i+1+1:=by
 have ha:=hop1 a (List.mem_cons_self ..)
 have hl':fs'.length=i+1+1:=by rw[hfs'];simp[Q8,hlen]
 refine⟨?_,hl',?_,?_,?_,?_⟩
 ·rw[←hrun,show 12-i=12-(i+1)+1 by omega,ZW,if_pos (by omega)]
  simp only[X8,hk0,Int.toNat_natCast,hp,ZJ,List.headD_cons,Ev,hkd,←hfs',←hop']
 ·rw[hop'];split<;>simp
 ·intro p hp'
  rw[hl']
  have:p=(fs.length:Int)∨p∈a::t:=by
   rw[hop']at hp'
   split at hp'
   ·exact List.mem_cons.1 hp'
   ·exact .inr hp'
  rcases this with rfl|h
  ·omega
  ·have:=hop1 p h;omega
 ·intro f hf
  rw[hfs']at hf
  rcases List.mem_append.1 hf with hf|hf
  ·exact Iv hkid (by omega) f hf
  ·simp only[List.mem_singleton]at hf;subst hf;simp only;omega
 ·rw[hop'];split<;>simp only[List.length_cons]<;>omega
theorem Uq{ns:List Int}{n i:Nat}{fs:List Fd}{op:List Int}(h:¬(i<ns.length∧i<12)):ZW ns n i fs op=(fs,op):=by
 cases n with
 |zero=>rfl
 |succ n=>simp only[ZW,h,if_false]
end
end Go.Proofs.Ytcpikannlnmafaa
