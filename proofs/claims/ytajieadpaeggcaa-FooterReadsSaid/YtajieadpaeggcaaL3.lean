/-
  The footer's reader:a number of so many bytes,a truth,a number,a value. The program's. The footer's reader:a page. The program's. The footer's reader:a chunk. The program's. The footer's reader:a group of records. The program's. 'Leaves':the fields that are no groups. What is asked of the function of leaves,and what it answers. The program's. The footer's reader:all of it. The program's.
-/
import Derived.Test.YtajieadpaeggcaaL2
import Derived.Test.YtajieadpaeggcaaSxOne
import Derived.Test.YtajieadpaeggcaaL1
set_option linter.unusedVariables false
set_option linter.unusedSimpArgs false
namespace Go.Proofs.Ytajieadpaeggcaa
open Go Go.Av
section
set_option maxRecDepth 100000
set_option maxHeartbeats 4000000
def Vv(Post:AVal→Heap→Nat→Prop):AVal→Heap→Nat→Prop:=fun v H nx=>∃K:Heap,K.sub H∧Post v K nx
theorem XF.forget[Syms]{P:Program}{f:FuncId}{args:List AVal}{H:Heap}{nx:Nat}{Post:AVal→Heap→Nat→Prop}(h:XF P f args H nx (Vv Post)):XF P f args H nx Post:=by
 refine⟨h.1,fun ι w vs hv hH hb=>(h.2 ι w vs hv hH hb).mono ?_⟩
 rintro e w' ⟨v,H',nx',r,κ,⟨K,hs,hp⟩,h2,h3,h4,h5,h6,h7⟩
 exact⟨v,K,nx',r,κ,hp,h2,h3,h4.sub hs,⟨h5.keep,h5.fzle,h5.os,h5.tape,h5.output,h5.size,h5.same,fun g hg=>h5.own g (hg.sub hs),h5.fzs,h5.fresh⟩,h6,h7⟩
theorem Qs{ρ:Nat→Nat}{row row':List AVal}(h:Wf row' row)(hf:∀x∈row,x.flat=true):WkB (.cells [row'] false) ((Blk.cells [row] false).ren ρ):=by
 rw[Jq ρ (ZM hf QL)]
 refine .each _ _ _ rfl fun k r r' h1 h2=>?_
 cases k with
 |zero=>
  cases h1;cases h2
  exact⟨h.at.1.symm,h.at.2⟩
 |succ k=>simp at h1
theorem QE{ρ:Nat→Nat}{row row':List AVal}(h:Wf row' (AVal.renL ρ row)):WkB (.cells [row'] false) ((Blk.cells [row] false).ren ρ):=by
 simp only[Blk.ren,List.map_cons,List.map_nil]
 refine .each _ _ _ rfl fun k r r' h1 h2=>?_
 cases k with
 |zero=>
  cases h1;cases h2
  exact⟨h.at.1.symm,h.at.2⟩
 |succ k=>simp at h1
theorem HF{b:Option Blk}{l:Heap}:Heap.sub [(0,b)] ((0,b)::l):=fun n c h=>by
 rw[Heap.get_cons]at h ⊢
 by_cases hz:n=0
 ·subst hz;exact h
 ·rw[QP hz]at h;rw[show(bif false then b else Heap.get [] n)=none from Heap.get_nil n]at h;cases h
theorem Xi[Syms]{N k n nx:Nat}{e:Env}{H:Heap}{row' row:List AVal}{r:BR}{rs:List ResultVar}{Post:AVal→Heap→Nat→Prop}(hk:e.get k= .ptr n 0 0)(H0:H.get 0=rdB r)(Hn:H.get n=some (.cells [row'] false))(hrow:Wf row' row)(hf:∀x∈row,x.flat=true)
 (hn:QJ 1 nx [0,n]=true) (hrs:Ze (Qo tys) ⟨[(k,.ptr 1 0 0)],[(0,rdB r),(1,some (.cells [row] false))],2⟩ rs=some (.agg row)) (hP:Post (.agg row) [(0,rdB r)] 2):
 ∃s3,Reb 1 N ⟨e,H,nx⟩ s3∧ ∃v,Ze (Qo tys) s3 rs=some v∧Vv Post v s3.heap s3.nx:=
 ⟨⟨[(k,.ptr 1 0 0)],[(0,rdB r),(1,some (.cells [row] false))],2⟩,Q0 [0,n] hn ⟨by rw[hk];exact .refl _,trivial⟩ ⟨⟨Nat.succ_pos _,_,H0,.refl _⟩,⟨Nat.lt_succ_self _,_,Hn,Qs hrow hf⟩,trivial⟩,_,hrs,_,HF,hP⟩
theorem Et{a b:List UInt8}(h:a=b):WkV (.str a) (.str b):=h▸ .refl _
theorem fV(v:Vl):∀x∈ZX v,x.flat=true:=fun x hx=>by simp[ZX]at hx;rcases hx with rfl|rfl<;>rfl
abbrev cFx:CallT:=Q6 54 (QG JB) (Q6 111 (QG Hu) (Q6 112 (QG Hw) Q7))
theorem Q07[Syms]:cFx.ok Try.prog:=Q4 J4 (Q4 Iu (Q4 Iw Q9))
theorem Dc(n:Nat)(r:BR):(QF n r).1.length=n∨(QF n r).1=[]:=by
 unfold QF
 by_cases h:r.b.length<n
 ·simp only[if_pos h]
  have:(Qy r 8).e≠0:=by
   unfold Qy
   by_cases h0:r.e=0
   ·rw[if_pos h0];show(8:Int)≠0;decide
   ·rw[if_neg h0];exact h0
  rw[if_pos this];exact .inr rfl
 ·simp only[if_neg h]
  by_cases h0:r.e≠0
  ·rw[if_pos h0];exact .inr rfl
  ·rw[if_neg h0];left;simp;omega
theorem Tw[Syms]{Post:AVal→Heap→Nat→Prop}(r:BR)(n:Nat)(hn:0<n∧n≤8)(hl:r.b.length≤1000000)(hP:Post (.int .u64 ((Z6 n r).1:Nat)) [(0,rdB (Z6 n r).2)] 1):
 fnT Q7 cFx (Qx fns) (Qo tys) (Qz plt) 100 102 [.ptr 0 0 0,.int .i64 n] [(0,rdB r)] 1 Post:=by
 refine⟨[0],[.ptr 0 0 0,.int .i64 n],[(0,rdB r)],rfl,⟨.refl _,.refl _,trivial⟩,⟨⟨by decide,_,rfl,.refl _⟩,trivial⟩,r,n,rfl,rfl,rfl,⟨hl,by omega⟩,?_⟩
 unfold Z6 at hP
 have h2:=Dc n r
 generalize QF n r=q at *
 obtain⟨t,r2⟩:=q
 have hP:Post (.int .u64 (leV t:Nat)) [(0,rdB r2)] 1:=hP
 rcases h2 with h2|h2
 ·have h2:t.length=n:=h2
  refine⟨[],[vB t],[],rfl,⟨.refl _,trivial⟩,trivial,t,rfl,rfl,rfl,by omega,?_⟩
  have ht:t.take n=t:=List.take_of_length_le (by omega)
  refine⟨[2],[.ptr 0 0 0,.int .i64 (n:Nat)],[(0,rdB ⟨t,0⟩)],rfl,⟨.refl _,.refl _,trivial⟩,⟨⟨by decide,_,rfl,.refl _⟩,trivial⟩,t,n,rfl,rfl,rfl,⟨by omega,by omega⟩,.inl ⟨by omega,?_⟩⟩
  rw[ht]
  repeat' first|refine And.intro ?_ ?_|(intro h;try first|exact dz|replace h:=cv)
  all_goals try exact cz
  exact⟨⟨[(4,.int .u64 (leV t:Nat))],[(0,rdB r2)],1⟩,Q0 [0] (by first|rfl|kernel_rfl) ⟨.refl _,trivial⟩ ⟨⟨by decide,_,rfl,.refl _⟩,trivial⟩,_,rfl,hP⟩
 ·have h2:t=[]:=h2
  subst h2
  refine⟨[],[vB []],[],rfl,⟨.refl _,trivial⟩,trivial,[],rfl,rfl,rfl,by simp,?_⟩
  refine⟨[2],[.ptr 0 0 0,.int .i64 (n:Nat)],[(0,rdB ⟨[],0⟩)],rfl,⟨.refl _,.refl _,trivial⟩,⟨⟨by decide,_,rfl,.refl _⟩,trivial⟩,[],n,rfl,rfl,rfl,⟨by simp,by omega⟩,.inr ⟨hn.1,?_⟩⟩
  repeat' first|refine And.intro ?_ ?_|(intro h;try first|exact dz|replace h:=cv)
  all_goals try exact cz
  exact⟨⟨[(4,.int .u64 (leV []:Nat))],[(0,rdB r2)],1⟩,Q0 [0] (by first|rfl|kernel_rfl) ⟨.refl _,trivial⟩ ⟨⟨by decide,_,rfl,.refl _⟩,trivial⟩,_,rfl,hP⟩
def FZ:SpecT:=fun args H nx Post=>∃(r:BR) (n:Nat),args=[.ptr 0 0 0,.int .i64 n]∧H=[(0,rdB r)]∧nx=1∧((0<n∧n≤8)∧r.b.length≤1000000)∧Post (.int .u64 ((Z6 n r).1:Nat)) [(0,rdB (Z6 n r).2)] 1
theorem Mb[Syms]:FZ.ok Try.prog 102:=by
 rintro args H nx Post ⟨r,n,rfl,rfl,rfl,⟨h1,h2⟩,h⟩
 exact Qj Qf Qg Q3 Q07 Qw (Tw r n h1 h2 h)
abbrev cFt:CallT:=Q6 102 (QG FZ) (Q6 27 (QG UT) Q7)
theorem Q09[Syms]:cFt.ok Try.prog:=Q4 Mb (Q4 Uu Q9)
theorem Oo[Syms]{Post:AVal→Heap→Nat→Prop}(r:BR)(hl:r.b.length≤1000000)(hP:Post (.int .i64 ((truthR r).1:Nat)) [(0,rdB (truthR r).2)] 1):
 fnT Q7 cFt (Qx fns) (Qo tys) (Qz plt) 100 105 [.ptr 0 0 0] [(0,rdB r)] 1 Post:=by
 refine⟨[0],[.ptr 0 0 0,.int .i64 ((1:Nat):Int)],[(0,rdB r)],rfl,⟨.refl _,.refl _,trivial⟩,⟨⟨by decide,_,rfl,.refl _⟩,trivial⟩,r,1,rfl,rfl,rfl,⟨⟨by omega,by omega⟩,hl⟩,?_⟩
 unfold truthR at hP
 generalize Z6 1 r=q at *
 obtain⟨v,r2⟩:=q
 have hP:Post (.int .i64 ((if 1<v then(0,Qy r2 10)else(v,r2)).1:Nat)) [(0,rdB (if 1<v then(0,Qy r2 10)else(v,r2)).2)] 1:=hP
 by_cases h1:1<v
 ·rw[if_pos h1]at hP
  repeat' first|refine And.intro ?_ ?_|(intro h;try first|exact dz|replace h:=cv)
  all_goals try exact cz
  refine⟨[0],[.ptr 0 0 0,.int .i64 10],[(0,rdB r2)],rfl,⟨.refl _,.refl _,trivial⟩,⟨⟨by decide,_,rfl,.refl _⟩,trivial⟩,r2,10,rfl,rfl,rfl,?_⟩
  generalize Qy r2 10=r3 at *
  repeat' first|refine And.intro ?_ ?_|(intro h;try first|exact dz|replace h:=cv)
  all_goals try exact cz
  exact⟨⟨[(2,.int .i64 (0:Nat))],[(0,rdB r3)],1⟩,Q0 [0] (by first|rfl|kernel_rfl) ⟨.refl _,trivial⟩ ⟨⟨by decide,_,rfl,.refl _⟩,trivial⟩,_,rfl,hP⟩
 ·rw[if_neg h1]at hP
  have hw:=Q19 (n:=v) (by omega)
  repeat' first|refine And.intro ?_ ?_|(intro h;try first|exact dz|replace h:=cv)
  all_goals try exact cz
  exact⟨⟨[(2,.int .i64 (v:Nat))],[(0,rdB r2)],1⟩,Q0 [0] (by first|rfl|kernel_rfl) ⟨Qm hw,trivial⟩ ⟨⟨by decide,_,rfl,.refl _⟩,trivial⟩,_,rfl,hP⟩
def FV:SpecT:=fun args H nx Post=>∃(r:BR),args=[.ptr 0 0 0]∧H=[(0,rdB r)]∧nx=1∧r.b.length≤1000000∧Post (.int .i64 ((truthR r).1:Nat)) [(0,rdB (truthR r).2)] 1
theorem DE[Syms]:FV.ok Try.prog 105:=by
 rintro args H nx Post ⟨r,rfl,rfl,rfl,h1,h⟩
 exact Qj Qf Qg Q3 Q09 Qw (Oo r h1 h)
abbrev cFpl:CallT:=Q6 55 (QG FX) Q7
theorem S7[Syms]:cFpl.ok Try.prog:=Q4 M7 Q9
theorem Q1c[Syms]{Post:AVal→Heap→Nat→Prop}(r:BR)(hl:r.b.length≤1000000)(hP:Post (.int .i64 ((plainR r).1:Nat)) [(0,rdB (plainR r).2)] 1):
 fnT Q7 cFpl (Qx fns) (Qo tys) (Qz plt) 100 57 [.ptr 0 0 0] [(0,rdB r)] 1 Post:=by
 refine⟨[0],[.ptr 0 0 0,.int .i64 ((1048576:Nat):Int),.int .i64 14],[(0,rdB r)],rfl,⟨.refl _,.refl _,.refl _,trivial⟩,⟨⟨by decide,_,rfl,.refl _⟩,trivial⟩,r,1048576,14,rfl,rfl,rfl,⟨hl,by omega,by decide⟩,?_⟩
 replace hP:Post (.int .i64 ((QD 1048576 14 r).1:Nat)) [(0,rdB (QD 1048576 14 r).2)] 1:=hP
 generalize QD 1048576 14 r=q at *
 obtain⟨v,r2⟩:=q
 repeat' first|refine And.intro ?_ ?_|(intro h;try first|exact dz|replace h:=cv)
 all_goals try exact cz
 exact⟨⟨[(2,.int .i64 (v:Nat))],[(0,rdB r2)],1⟩,Q0 [0] (by first|rfl|kernel_rfl) ⟨.refl _,trivial⟩ ⟨⟨by decide,_,rfl,.refl _⟩,trivial⟩,_,rfl,hP⟩
def UD:SpecT:=fun args H nx Post=>∃(r:BR),args=[.ptr 0 0 0]∧H=[(0,rdB r)]∧nx=1∧r.b.length≤1000000∧Post (.int .i64 ((plainR r).1:Nat)) [(0,rdB (plainR r).2)] 1
theorem UN[Syms]:UD.ok Try.prog 57:=by
 rintro args H nx Post ⟨r,rfl,rfl,rfl,h1,h⟩
 exact Qj Qf Qg Q3 S7 Qw (Q1c r h1 h)
abbrev cFv[Syms]:CallT:=Q6 97 (FG Q7 Q7 (Qx fns) (Qo tys) (Qz plt) 100) (Q6 105 (QG FV) (Q6 102 (QG FZ) (Q6 55 (QG FX) (Q6 54 (QG JB) Q7))))
theorem Q08[Syms]:cFv.ok Try.prog:=Xn (XY Qf Qg Q3 Q9 Qw) (Q4 DE (Q4 Mb (Q4 M7 (Q4 J4 Q9))))
theorem SE(x:Int):wr .i64 (wr .i32 x)=wr .i32 x:=by
 apply wrI
 unfold wr
 split
 ·rename_i h
  have h1:(-2147483648:Int)≤x:=h.1
  have h2:x≤(2147483647:Int):=h.2
  omega
 ·show(-9223372036854775808:Int)≤(if(true&&decide (x%(2^32:Int)≥(2^31:Int)))=true then x%(2^32:Int)-(2^32:Int)else x%(2^32:Int))∧(if(true&&decide (x%(2^32:Int)≥(2^31:Int)))=true then x%(2^32:Int)-(2^32:Int)else x%(2^32:Int))≤(9223372036854775807:Int)
  split<;>omega
theorem SK(r:BR):Yx 1 r=(⟨((truthR r).1:Nat),[]⟩,(truthR r).2):=rfl
theorem SJ(r:BR):Yx 2 r=(⟨wr .i32 ((Z6 4 r).1:Nat),[]⟩,(Z6 4 r).2):=rfl
theorem SI(r:BR):Yx 3 r=(⟨wr .i64 ((Z6 8 r).1:Nat),[]⟩,(Z6 8 r).2):=rfl
theorem Ev{k:Int}(h:¬k=1∧ ¬k=2∧ ¬k=3)(r:BR):Yx k r=(⟨0,(QF (QD 100 5 r).1 (QD 100 5 r).2).1⟩,(QF (QD 100 5 r).1 (QD 100 5 r).2).2):=by
 unfold Yx
 rw[if_neg h.1,if_neg h.2.1,if_neg h.2.2]
theorem Tp[Syms]{Post:AVal→Heap→Nat→Prop}(k:Int)(r:BR)(hl:r.b.length≤1000000)(hP:Post (.agg (ZX (Yx k r).1)) [(0,rdB (Yx k r).2)] 2):
 fnT Q7 cFv (Qx fns) (Qo tys) (Qz plt) 100 106 [.ptr 0 0 0,.int .i64 k] [(0,rdB r)] 1 (Vv Post):=by
 by_cases h1:k=1
 ·subst h1
  rw[SK]at hP
  repeat' first|refine And.intro ?_ ?_|(intro h;try first|exact dz|replace h:=cv)
  all_goals try exact cz
  refine⟨_,.refl _ _ _,_,rfl,?_⟩
  repeat' first|refine And.intro ?_ ?_|(intro h;try first|exact dz|replace h:=cv)
  all_goals try exact cz
  refine⟨[0],[.ptr 0 0 0],[(0,rdB r)],rfl,⟨.refl _,trivial⟩,⟨⟨by decide,_,rfl,.refl _⟩,trivial⟩,r,rfl,rfl,rfl,hl,?_⟩
  generalize truthR r=q at *
  obtain⟨v,r2⟩:=q
  repeat' first|refine And.intro ?_ ?_|(intro h;try first|exact dz|replace h:=cv)
  all_goals try exact cz
  exact Xi (k:=4) (n:=1) (row:=ZX ⟨(v:Nat),[]⟩) rfl rfl rfl ⟨.refl _,.refl _,trivial⟩ (fV _) (by first|rfl|kernel_rfl) rfl hP
 by_cases h2:k=2
 ·subst h2
  rw[SJ]at hP
  repeat' first|refine And.intro ?_ ?_|(intro h;try first|exact dz|replace h:=cv)
  all_goals try exact cz
  refine⟨_,.refl _ _ _,_,rfl,?_⟩
  repeat' first|refine And.intro ?_ ?_|(intro h;try first|exact dz|replace h:=cv)
  all_goals try exact cz
  refine⟨[0],[.ptr 0 0 0,.int .i64 ((4:Nat):Int)],[(0,rdB r)],rfl,⟨.refl _,.refl _,trivial⟩,⟨⟨by decide,_,rfl,.refl _⟩,trivial⟩,r,4,rfl,rfl,rfl,⟨by decide,hl⟩,?_⟩
  generalize Z6 4 r=q at *
  obtain⟨v,r2⟩:=q
  have hw:=SE (v:Nat)
  repeat' first|refine And.intro ?_ ?_|(intro h;try first|exact dz|replace h:=cv)
  all_goals try exact cz
  exact Xi (k:=4) (n:=1) (row:=ZX ⟨wr .i32 (v:Nat),[]⟩) rfl rfl rfl ⟨Qm hw,.refl _,trivial⟩ (fV _) (by first|rfl|kernel_rfl) rfl hP
 by_cases h3:k=3
 ·subst h3
  rw[SI]at hP
  repeat' first|refine And.intro ?_ ?_|(intro h;try first|exact dz|replace h:=cv)
  all_goals try exact cz
  refine⟨_,.refl _ _ _,_,rfl,?_⟩
  repeat' first|refine And.intro ?_ ?_|(intro h;try first|exact dz|replace h:=cv)
  all_goals try exact cz
  refine⟨[0],[.ptr 0 0 0,.int .i64 ((8:Nat):Int)],[(0,rdB r)],rfl,⟨.refl _,.refl _,trivial⟩,⟨⟨by decide,_,rfl,.refl _⟩,trivial⟩,r,8,rfl,rfl,rfl,⟨by decide,hl⟩,?_⟩
  generalize Z6 8 r=q at *
  obtain⟨v,r2⟩:=q
  repeat' first|refine And.intro ?_ ?_|(intro h;try first|exact dz|replace h:=cv)
  all_goals try exact cz
  exact Xi (k:=4) (n:=1) (row:=ZX ⟨wr .i64 (v:Nat),[]⟩) rfl rfl rfl ⟨.refl _,.refl _,trivial⟩ (fV _) (by first|rfl|kernel_rfl) rfl hP
 rw[Ev ⟨h1,h2,h3⟩]at hP
 repeat' first|refine And.intro ?_ ?_|(intro h;try first|exact dz|replace h:=cv)
 all_goals try exact cz
 refine⟨_,.refl _ _ _,_,rfl,?_⟩
 repeat' first|refine And.intro ?_ ?_|(intro h;try first|exact dz|replace h:=cv)
 all_goals try exact cz
 refine⟨[0],[.ptr 0 0 0,.int .i64 ((100:Nat):Int),.int .i64 5],[(0,rdB r)],rfl,⟨.refl _,.refl _,.refl _,trivial⟩,⟨⟨by decide,_,rfl,.refl _⟩,trivial⟩,r,100,5,rfl,rfl,rfl,⟨hl,by omega,by decide⟩,?_⟩
 have l0:=QR 100 5 r
 have n0:=Zr (m:=100) (w:=5) (by decide) r
 generalize QD 100 5 r=q at *
 obtain⟨v,r2⟩:=q
 have l0:r2.b.length≤r.b.length:=l0
 have n0:v≤100:=n0
 refine⟨[0],[.ptr 0 0 0,.int .i64 (v:Nat)],[(0,rdB r2)],rfl,⟨.refl _,.refl _,trivial⟩,⟨⟨by decide,_,rfl,.refl _⟩,trivial⟩,r2,v,rfl,rfl,rfl,⟨by omega,by omega⟩,?_⟩
 replace hP:Post (.agg (ZX ⟨0,(QF v r2).1⟩)) [(0,rdB (QF v r2).2)] 2:=hP
 generalize QF v r2=q at *
 obtain⟨t,r3⟩:=q
 repeat' first|refine And.intro ?_ ?_|(intro h;try first|exact dz|replace h:=cv)
 all_goals try exact cz
 ·exact(Vs t).1
 exact Xi (k:=4) (n:=1) (row:=ZX ⟨0,t⟩) rfl rfl rfl ⟨.refl _,Et (Vs t).2,trivial⟩ (fV _) (by first|rfl|kernel_rfl) rfl hP
def Pf:SpecT:=fun args H nx Post=>∃(k:Int) (r:BR),args=[.ptr 0 0 0,.int .i64 k]∧H=[(0,rdB r)]∧nx=1∧r.b.length≤1000000∧Post (.agg (ZX (Yx k r).1)) [(0,rdB (Yx k r).2)] 2
theorem Ru[Syms]:Pf.ok Try.prog 106:=by
 rintro args H nx Post ⟨k,r,rfl,rfl,rfl,h1,h⟩
 exact XF.forget (Qj Qf Qg Q3 Q08 Qw (Tp k r h1 h))
end
section
set_option maxRecDepth 100000
set_option maxHeartbeats 4000000
theorem Xf(r:BR):(truthR r).2.b.length≤r.b.length:=by
 have:=XW 1 r
 unfold truthR
 split
 ·show(Qy _ _).b.length≤_;rw[Bz];exact this
 ·exact this
theorem UF(r:BR):(truthR r).1≤1:=by
 unfold truthR
 split
 ·exact Nat.zero_le _
 ·omega
theorem Hz{v:Nat}(h:v<256^4):wr .u32 (v:Int)=(v:Nat):=if_pos ⟨show(0:Int)≤_ by omega,show _≤(4294967295:Int) by omega⟩
theorem eP(p:Pg):∀x∈encP p,x.flat=true:=fP [p] _ (List.mem_singleton.2 rfl)
abbrev cFpg:CallT:=Q6 57 (QG UD) (Q6 102 (QG FZ) Q7)
theorem S8[Syms]:cFpg.ok Try.prog:=Q4 UN (Q4 Mb Q9)
theorem Rx[Syms]{Post:AVal→Heap→Nat→Prop}(r:BR)(hl:r.b.length≤1000000)(hP:Post (.agg (encP (pageR r).1)) [(0,rdB (pageR r).2)] 2):
 fnT Q7 cFpg (Qx fns) (Qo tys) (Qz plt) 100 103 [.ptr 0 0 0] [(0,rdB r)] 1 (Vv Post):=by
 unfold pageR at hP
 dsimp only at hP
 refine⟨[0],[.ptr 0 0 0],[(0,rdB r)],rfl,⟨.refl _,trivial⟩,⟨⟨by decide,_,rfl,.refl _⟩,trivial⟩,r,rfl,rfl,rfl,by omega,?_⟩
 have l_r1:(plainR r).2.b.length≤r.b.length:=QR _ _ _
 have n_v1:(plainR r).1≤1048576:=Zr (by decide) _
 generalize plainR r=q at *
 obtain⟨v1,r1⟩:=q
 replace l_r1:r1.b.length≤r.b.length:=l_r1
 replace n_v1:v1≤1048576:=n_v1
 dsimp only at hP
 refine⟨[0],[.ptr 0 0 0],[(0,rdB r1)],rfl,⟨.refl _,trivial⟩,⟨⟨by decide,_,rfl,.refl _⟩,trivial⟩,r1,rfl,rfl,rfl,by omega,?_⟩
 have l_r2:(plainR r1).2.b.length≤r1.b.length:=QR _ _ _
 have n_v2:(plainR r1).1≤1048576:=Zr (by decide) _
 generalize plainR r1=q at *
 obtain⟨v2,r2⟩:=q
 replace l_r2:r2.b.length≤r1.b.length:=l_r2
 replace n_v2:v2≤1048576:=n_v2
 dsimp only at hP
 refine⟨[0],[.ptr 0 0 0],[(0,rdB r2)],rfl,⟨.refl _,trivial⟩,⟨⟨by decide,_,rfl,.refl _⟩,trivial⟩,r2,rfl,rfl,rfl,by omega,?_⟩
 have l_r3:(plainR r2).2.b.length≤r2.b.length:=QR _ _ _
 have n_v3:(plainR r2).1≤1048576:=Zr (by decide) _
 generalize plainR r2=q at *
 obtain⟨v3,r3⟩:=q
 replace l_r3:r3.b.length≤r2.b.length:=l_r3
 replace n_v3:v3≤1048576:=n_v3
 dsimp only at hP
 refine⟨[0],[.ptr 0 0 0],[(0,rdB r3)],rfl,⟨.refl _,trivial⟩,⟨⟨by decide,_,rfl,.refl _⟩,trivial⟩,r3,rfl,rfl,rfl,by omega,?_⟩
 have l_r4:(plainR r3).2.b.length≤r3.b.length:=QR _ _ _
 have n_v4:(plainR r3).1≤1048576:=Zr (by decide) _
 generalize plainR r3=q at *
 obtain⟨v4,r4⟩:=q
 replace l_r4:r4.b.length≤r3.b.length:=l_r4
 replace n_v4:v4≤1048576:=n_v4
 dsimp only at hP
 refine⟨[0],[.ptr 0 0 0],[(0,rdB r4)],rfl,⟨.refl _,trivial⟩,⟨⟨by decide,_,rfl,.refl _⟩,trivial⟩,r4,rfl,rfl,rfl,by omega,?_⟩
 have l_r5:(plainR r4).2.b.length≤r4.b.length:=QR _ _ _
 have n_v5:(plainR r4).1≤1048576:=Zr (by decide) _
 generalize plainR r4=q at *
 obtain⟨v5,r5⟩:=q
 replace l_r5:r5.b.length≤r4.b.length:=l_r5
 replace n_v5:v5≤1048576:=n_v5
 dsimp only at hP
 refine⟨[0],[.ptr 0 0 0],[(0,rdB r5)],rfl,⟨.refl _,trivial⟩,⟨⟨by decide,_,rfl,.refl _⟩,trivial⟩,r5,rfl,rfl,rfl,by omega,?_⟩
 have l_r6:(plainR r5).2.b.length≤r5.b.length:=QR _ _ _
 have n_v6:(plainR r5).1≤1048576:=Zr (by decide) _
 generalize plainR r5=q at *
 obtain⟨v6,r6⟩:=q
 replace l_r6:r6.b.length≤r5.b.length:=l_r6
 replace n_v6:v6≤1048576:=n_v6
 dsimp only at hP
 repeat' first|refine And.intro ?_ ?_|(intro h;try first|exact dz|replace h:=cv)
 all_goals try exact cz
 refine⟨[0],[.ptr 0 0 0,.int .i64 ((4:Nat):Int)],[(0,rdB r6)],rfl,⟨.refl _,.refl _,trivial⟩,⟨⟨by decide,_,rfl,.refl _⟩,trivial⟩,r6,4,rfl,rfl,rfl,⟨by decide,by omega⟩,?_⟩
 have l_r7:(Z6 4 r6).2.b.length≤r6.b.length:=XW _ _
 have n_v7:(Z6 4 r6).1<256^4:=M9 _ _
 generalize Z6 4 r6=q at *
 obtain⟨v7,r7⟩:=q
 replace l_r7:r7.b.length≤r6.b.length:=l_r7
 replace n_v7:v7<256^4:=n_v7
 dsimp only at hP
 repeat' first|refine And.intro ?_ ?_|(intro h;try first|exact dz|replace h:=cv)
 all_goals try exact cz
 exact Xi (k:=2) (n:=1) (row:=encP ⟨v1,v2,v3,v4,v5,v6,v7⟩) rfl rfl rfl ⟨.refl _,.refl _,.refl _,.refl _,.refl _,.refl _,Qm (Hz n_v7),trivial⟩ (eP _) (by first|rfl|kernel_rfl) rfl hP
def Mg:SpecT:=fun args H nx Post=>∃(r:BR),args=[.ptr 0 0 0]∧H=[(0,rdB r)]∧nx=1∧r.b.length≤1000000∧Post (.agg (encP (pageR r).1)) [(0,rdB (pageR r).2)] 2
theorem Ou[Syms]:Mg.ok Try.prog 103:=by
 rintro args H nx Post ⟨r,rfl,rfl,rfl,h1,h⟩
 exact XF.forget (Qj Qf Qg Q3 S8 Qw (Rx r h1 h))
end
section
set_option maxRecDepth 100000
set_option maxHeartbeats 4000000
abbrev cFck[Syms]:CallT:=Q6 57 (QG UD) (Q6 102 (QG FZ) (Q6 55 (QG FX) (Q6 103 (QG Mg) (Q6 105 (QG FV) (Q6 106 (QG Pf) (Q6 104 (FG Q7 Q7 (Qx fns) (Qo tys) (Qz plt) 100) Q7))))))
theorem Sc[Syms]:cFck.ok Try.prog:=Q4 UN (Q4 Mb (Q4 M7 (Q4 Ou (Q4 DE (Q4 Ru (Xn (XY Qf Qg Q3 Q9 Qw) Q9))))))
noncomputable def plCk:Nat→Nat→Pl:=XD [(84,6),(84,8),(84,9),(84,13)] (Qz plt)
def Y2(a b c:Int)(v:AVal):List AVal:=[.int .i64 a,.int .i64 b,.int .u32 c,v,.bool false,.int .i64 0,.bool false,.int .i64 0,.str [],.int .i64 0,.str []]
def ckS(k:Int)(n i:Nat)(r:BR)(a b c:Int)(ps:List Pg):St:=⟨[(0,.ptr 0 0 0),(1,.int .i64 k),(4,.ptr 1 0 0),(5,.ptr 2 0 0),(17,.int .i64 n),(18,.int .i64 i)],[(0,rdB r),(1,some (.cells [Y2 0 0 0 .nils] false)),(2,some (.cells [Y2 a b c (.slice 3 0 ps.length 7 none)] false)),(3,some (.cells (ps.map encP) false))],4⟩
def ckN(k:Int)(n i:Nat)(r:BR)(a b c:Int):St:=⟨[(0,.ptr 0 0 0),(1,.int .i64 k),(4,.ptr 1 0 0),(5,.ptr 2 0 0),(17,.int .i64 n),(18,.int .i64 i)],[(0,rdB r),(1,some (.cells [Y2 0 0 0 .nils] false)),(2,some (.cells [Y2 a b c .nils] false))],3⟩
theorem JS(r:BR):(pageR r).2.b.length≤r.b.length:=by
 unfold pageR plainR
 exact Nat.le_trans (XW _ _) (Nat.le_trans (QR _ _ _) (Nat.le_trans (QR _ _ _) (Nat.le_trans (QR _ _ _) (Nat.le_trans (QR _ _ _) (Nat.le_trans (QR _ _ _) (QR _ _ _))))))
theorem Gs(k:Nat)(r:BR)(s:List Pg)(h:r.e=0):ZS (k+1) r s=ZS k (pageR r).2 (s++[(pageR r).1]):=by
 rw[ZS,if_neg (fun x=>x h)]
theorem V0(k:Nat)(r:BR)(s:List Pg)(h:r.e≠0):ZS k r s=(s,r):=by
 cases k with
 |zero=>rfl
 |succ k=>rw[ZS,if_pos h]
theorem KG(k:Int)(r:BR):(Yx k r).2.b.length≤r.b.length:=by
 unfold Yx
 split
 ·exact Xf _
 ·split
  ·exact XW _ _
  ·split
   ·exact XW _ _
   ·exact Nat.le_trans (Vu _ _) (QR _ _ _)
theorem eC(p:Ck):∀x∈encC p,x.flat=true:=fC [p] _ (List.mem_singleton.2 rfl)
theorem Ku[Syms]{N K nx:Nat}{e:Env}{H:Heap}{k a b c i1:Int}{n i:Nat}{q:BR}{ps:List Pg}{rows:List (List AVal)}{len:Nat}(hn:QJ 1 nx [0,1,2,K]=true)(h0:e.get 0= .ptr 0 0 0)(h1:e.get 1= .int .i64 k)(h4:e.get 4= .ptr 1 0 0)(h5:e.get 5= .ptr 2 0 0)(h17:e.get 17= .int .i64 n)(h18:e.get 18= .int .i64 i1)(hi:i1=i)
 (H0:H.get 0=rdB q) (H1:H.get 1=some (.cells [Y2 0 0 0 .nils] false)) (H2:H.get 2=some (.cells [Y2 a b c (.slice K 0 len 7 none)] false)) (HK:H.get K=some (.cells rows false)) (hr:rows=ps.map encP) (hl:len=ps.length):Reb 1 N ⟨e,H,nx⟩ (ckS k n i q a b c ps):=by
 subst hr hl hi
 exact Q0 [0,1,2,K] hn ⟨by rw[h0];exact .refl _,by rw[h1];exact .refl _,by rw[h4];exact .refl _,by rw[h5];exact .refl _,by rw[h17];exact .refl _,by rw[h18];exact .refl _,trivial⟩
  ⟨⟨show 0<4 by decide,_,H0,.refl _⟩,⟨show 1<4 by decide,_,H1,.refl _⟩,⟨show 2<4 by decide,_,H2,.refl _⟩,⟨show 3<4 by decide,_,HK,Qa (fP _)⟩,trivial⟩
def ckF(k:Int)(q:BR)(a b c:Int)(ps:List Pg):St:=⟨[(0,.ptr 0 0 0),(1,.int .i64 k),(4,.ptr 1 0 0),(5,.ptr 2 0 0)],[(0,rdB q),(1,some (.cells [Y2 0 0 0 .nils] false)),(2,some (.cells [Y2 a b c (.vs 7 (ps.map encP))] false))],3⟩
theorem RN[Syms]{N K nx:Nat}{e:Env}{H:Heap}{k a b c:Int}{q:BR}{ps:List Pg}{rows:List (List AVal)}{len:Nat}(hp:0<ps.length)(hn:QJ 1 nx [0,1,2,K]=true)(h0:e.get 0= .ptr 0 0 0)(h1:e.get 1= .int .i64 k)(h4:e.get 4= .ptr 1 0 0)(h5:e.get 5= .ptr 2 0 0)
 (H0:H.get 0=rdB q) (H1:H.get 1=some (.cells [Y2 0 0 0 .nils] false)) (H2:H.get 2=some (.cells [Y2 a b c (.slice K 0 len 7 none)] false)) (HK:H.get K=some (.cells rows false)) (hr:rows=ps.map encP) (hl:len=ps.length):Reb 1 N ⟨e,H,nx⟩ (ckF k q a b c ps):=by
 subst hr hl
 have hcut:((ps.map encP).drop 0).take ps.length=ps.map encP:=by rw[List.drop_zero,List.take_of_length_le (by simp)]
 have hs:FzV 3 (ps.map encP) (.slice 3 0 ps.length 7 none) (.vs 7 (ps.map encP)):=by
  have:=FzV.sl (n:=3) (rows:=ps.map encP) 0 ps.length 7 none hp (by simp)
  rwa [hcut]at this
 refine(Q0 (e3:=[(0,.ptr 0 0 0),(1,.int .i64 k),(4,.ptr 1 0 0),(5,.ptr 2 0 0)]) (H3:=[(0,rdB q),(1,some (.cells [Y2 0 0 0 .nils] false)),(2,some (.cells [Y2 a b c (.slice 3 0 ps.length 7 none)] false)),(3,some (.cells (ps.map encP) false))]) [0,1,2,K] hn ⟨by rw[h0];exact .refl _,by rw[h1];exact .refl _,by rw[h4];exact .refl _,by rw[h5];exact .refl _,trivial⟩
  ⟨⟨show 0<4 by decide,_,H0,.refl _⟩,⟨show 1<4 by decide,_,H1,.refl _⟩,⟨show 2<4 by decide,_,H2,.refl _⟩,⟨show 3<4 by decide,_,HK,Qa (fP _)⟩,trivial⟩).trans ?_
 refine(QH (n:=3) (e3:=[(0,.ptr 0 0 0),(1,.int .i64 k),(4,.ptr 1 0 0),(5,.ptr 2 0 0)]) (H3:=[(0,rdB q),(1,some (.cells [Y2 0 0 0 .nils] false)),(2,some (.cells [Y2 a b c (.vs 7 (ps.map encP))] false))]) rfl (fP ps) ⟨.same _,.same _,.same _,.same _,trivial⟩
  ⟨⟨by decide,_,rfl,.same _⟩,⟨by decide,_,rfl,.same _⟩,⟨by decide,_,rfl,.cells [Y2 a b c (.slice 3 0 ps.length 7 none)] [Y2 a b c (.vs 7 (ps.map encP))] false rfl (fun j r r' h h'=>?_)⟩,trivial⟩).trans (Q0 [0,1,2] rfl ⟨.refl _,.refl _,.refl _,.refl _,trivial⟩ ⟨⟨by decide,_,rfl,.refl _⟩,⟨by decide,_,rfl,.refl _⟩,⟨by decide,_,rfl,.refl _⟩,trivial⟩)
 cases j with
 |zero=>
  cases h;cases h'
  exact⟨.same _,.same _,.same _,hs,.same _,.same _,.same _,.same _,.same _,.same _,.same _,trivial⟩
 |succ j=>simp at h
theorem OU[Syms]{N nx:Nat}{e:Env}{H:Heap}{k a b c:Int}{q:BR}(hn:QJ 1 nx [0,1,2]=true)(h0:e.get 0= .ptr 0 0 0)(h1:e.get 1= .int .i64 k)(h4:e.get 4= .ptr 1 0 0)(h5:e.get 5= .ptr 2 0 0)
 (H0:H.get 0=rdB q) (H1:H.get 1=some (.cells [Y2 0 0 0 .nils] false)) (H2:H.get 2=some (.cells [Y2 a b c .nils] false)):Reb 1 N ⟨e,H,nx⟩ (ckF k q a b c []):=
 Q0 [0,1,2] hn ⟨by rw[h0];exact .refl _,by rw[h1];exact .refl _,by rw[h4];exact .refl _,by rw[h5];exact .refl _,trivial⟩
  ⟨⟨show 0<3 by decide,_,H0,.refl _⟩,⟨show 1<3 by decide,_,H1,.refl _⟩,⟨show 2<3 by decide,_,H2,QE (row:=Y2 a b c (.vs 7 [])) ⟨.refl _,.refl _,.refl _,.zero _ _ rfl,.refl _,.refl _,.refl _,.refl _,.refl _,.refl _,.refl _,trivial⟩⟩,trivial⟩
abbrev XP(a b c:Int)(v:AVal)(kn:Bool)(nu:Int)(ha:Bool):List AVal:=[.int .i64 a,.int .i64 b,.int .u32 c,v,.bool kn,.int .i64 nu,.bool ha,.int .i64 0,.str [],.int .i64 0,.str []]
abbrev ckG(k:Int)(q:BR)(a b c:Int)(ps:List Pg)(kn:Bool)(nu:Int)(ha:Bool):St:=⟨[(0,.ptr 0 0 0),(1,.int .i64 k),(4,.ptr 1 0 0),(5,.ptr 2 0 0)],[(0,rdB q),(1,some (.cells [Y2 0 0 0 .nils] false)),(2,some (.cells [XP a b c (.vs 7 (ps.map encP)) kn nu ha] false))],3⟩
theorem Va[Syms]{N nx:Nat}{e:Env}{H:Heap}{k a b c nu:Int}{q:BR}{ps:List Pg}{kn ha:Bool}{row:List AVal}(hn:QJ 1 nx [0,1,2]=true)(h0:e.get 0= .ptr 0 0 0)(h1:e.get 1= .int .i64 k)(h4:e.get 4= .ptr 1 0 0)(h5:e.get 5= .ptr 2 0 0)
 (H0:H.get 0=rdB q) (H1:H.get 1=some (.cells [Y2 0 0 0 .nils] false)) (H2:H.get 2=some (.cells [row] false)) (hr:Wf row (XP a b c (.vs 7 (ps.map encP)) kn nu ha)):Reb 1 N ⟨e,H,nx⟩ (ckG k q a b c ps kn nu ha):=
 Q0 [0,1,2] hn ⟨by rw[h0];exact .refl _,by rw[h1];exact .refl _,by rw[h4];exact .refl _,by rw[h5];exact .refl _,trivial⟩
  ⟨⟨show 0<3 by decide,_,H0,.refl _⟩,⟨show 1<3 by decide,_,H1,.refl _⟩,⟨show 2<3 by decide,_,H2,QE hr⟩,trivial⟩
theorem OT(ps:List Pg)(p:Pg):List.take ps.length (List.drop 0 (ps.map encP))++[encP p]=(ps++[p]).map encP:=by
 rw[List.drop_zero,List.take_of_length_le (by simp),List.map_append];rfl
theorem OE[Syms]{Post:AVal→Heap→Nat→Prop}(k:Int)(r:BR)(hl:r.b.length≤1000000)(hP:Post (.agg (encC (Zv k r).1)) [(0,rdB (Zv k r).2)] 2):
 fnT Q7 cFck (Qx fns) (Qo tys) plCk 100 84 [.ptr 0 0 0,.int .i64 k] [(0,rdB r)] 1 (Vv Post):=by
 unfold Zv ckR0 at hP
 dsimp only at hP
 refine⟨[0],[.ptr 0 0 0],[(0,rdB r)],rfl,⟨.refl _,trivial⟩,⟨⟨by decide,_,rfl,.refl _⟩,trivial⟩,r,rfl,rfl,rfl,by omega,?_⟩
 have l_r1:(plainR r).2.b.length≤r.b.length:=QR _ _ _
 have n_v1:(plainR r).1≤1048576:=Zr (by decide) _
 generalize plainR r=q at *
 obtain⟨v1,r1⟩:=q
 replace l_r1:r1.b.length≤r.b.length:=l_r1
 replace n_v1:v1≤1048576:=n_v1
 dsimp only at hP
 refine⟨[0],[.ptr 0 0 0],[(0,rdB r1)],rfl,⟨.refl _,trivial⟩,⟨⟨by decide,_,rfl,.refl _⟩,trivial⟩,r1,rfl,rfl,rfl,by omega,?_⟩
 have l_r2:(plainR r1).2.b.length≤r1.b.length:=QR _ _ _
 have n_v2:(plainR r1).1≤1048576:=Zr (by decide) _
 generalize plainR r1=q at *
 obtain⟨v2,r2⟩:=q
 replace l_r2:r2.b.length≤r1.b.length:=l_r2
 replace n_v2:v2≤1048576:=n_v2
 dsimp only at hP
 refine⟨[0],[.ptr 0 0 0,.int .i64 ((4:Nat):Int)],[(0,rdB r2)],rfl,⟨.refl _,.refl _,trivial⟩,⟨⟨by decide,_,rfl,.refl _⟩,trivial⟩,r2,4,rfl,rfl,rfl,⟨by decide,by omega⟩,?_⟩
 have l_r3:(Z6 4 r2).2.b.length≤r2.b.length:=XW _ _
 have n_v3:(Z6 4 r2).1<256^4:=M9 _ _
 generalize Z6 4 r2=q at *
 obtain⟨v3,r3⟩:=q
 replace l_r3:r3.b.length≤r2.b.length:=l_r3
 replace n_v3:v3<256^4:=n_v3
 dsimp only at hP
 have hw:=Hz n_v3
 repeat' first|refine And.intro ?_ ?_|(intro h;try first|exact dz|replace h:=cv)
 all_goals try exact cz
 refine⟨[0],[.ptr 0 0 0,.int .i64 ((200:Nat):Int),.int .i64 4],[(0,rdB r3)],rfl,⟨.refl _,.refl _,.refl _,trivial⟩,⟨⟨by decide,_,rfl,.refl _⟩,trivial⟩,r3,200,4,rfl,rfl,rfl,⟨by omega,by omega,by decide⟩,?_⟩
 have l_r4:(QD 200 4 r3).2.b.length≤r3.b.length:=QR _ _ _
 have n_n:(QD 200 4 r3).1≤200:=Zr (by decide) _
 generalize QD 200 4 r3=q at *
 obtain⟨n,r4⟩:=q
 replace l_r4:r4.b.length≤r3.b.length:=l_r4
 replace n_n:n≤200:=n_n
 dsimp only at hP
 repeat' first|refine And.intro ?_ ?_|(intro h;try first|exact dz|replace h:=cv)
 all_goals try exact cz
 refine⟨fun m s=>∃(i:Nat) (q:BR) (ps:List Pg),(i≤n∧m=n-i∧ps.length≤i∧q.b.length≤r.b.length∧ZS (n-i) q ps=ZS n r4 [])∧(s=ckS k n i q v1 v2 v3 ps∧0<ps.length∨s=ckN k n i q v1 v2 v3∧ps=[]),⟨_,ckN k n 0 r4 v1 v2 v3,Q0 [0,1,5] (by first|rfl|kernel_rfl) ⟨.refl _,.refl _,.refl _,.refl _,.refl _,.refl _,trivial⟩ ⟨⟨by decide,_,rfl,.refl _⟩,⟨by decide,_,rfl,.refl _⟩,⟨by decide,_,rfl,QE (row:=Y2 v1 v2 v3 .nils) ⟨.refl _,.refl _,Qm hw,.refl _,.refl _,.refl _,.refl _,.refl _,.refl _,.refl _,.refl _,trivial⟩⟩,trivial⟩,0,r4,[],⟨by omega,rfl,by simp,by omega,rfl⟩,.inr ⟨rfl,rfl⟩⟩,?_⟩
 rintro m s ⟨i,q,ps,⟨hi,rfl,hpl,hql,hfr⟩,⟨rfl,hp0⟩|⟨rfl,rfl⟩⟩
 ·by_cases h1:i<n
  ·by_cases h2:q.e=0
   ·skip
    have hst:n-i=n-(i+1)+1:=by omega
    have hfs:=Gs (n-(i+1)) q ps h2
    have hpl2:=JS q
    have hcall:∀(K:AVal→Heap→Nat→Prop),K (.agg (encP (pageR q).1)) [(0,rdB (pageR q).2)] 2→Mg [.ptr 0 0 0] [(0,rdB q)] 1 K:=fun K hk=>⟨q,rfl,rfl,rfl,by omega,hk⟩
    generalize pageR q=y at *
    obtain⟨p,q2⟩:=y
    dsimp only at hfs hpl2 hcall
    repeat' first|refine And.intro ?_ ?_|(intro h;try first|exact dz|replace h:=cv)
    all_goals try exact cz
    refine⟨ckS k n i q2 v1 v2 v3 (ps++[p]),?_,?_⟩
    · repeat' first|refine And.intro ?_ ?_|(intro h;try first|exact dz|replace h:=cv)
      all_goals try exact cz
      all_goals(refine⟨[0],[.ptr 0 0 0],[(0,rdB q)],rfl,⟨.refl _,trivial⟩,⟨⟨by decide,_,rfl,.refl _⟩,trivial⟩,?_⟩;refine hcall _ ?_)
      repeat' first|refine And.intro ?_ ?_|(intro h;try first|exact dz|replace h:=cv)
      all_goals try exact cz
      all_goals(refine Exists.intro () ?_;first|exact Ku (K:=7) (by exact rfl) rfl rfl rfl rfl rfl rfl rfl rfl rfl rfl rfl (OT _ _) (by simp)|exact Ku (K:=6) (by exact rfl) rfl rfl rfl rfl rfl rfl rfl rfl rfl rfl rfl (OT _ _) (by simp))
    · repeat' first|refine And.intro ?_ ?_|(intro h;try first|exact dz|replace h:=cv)
      all_goals try exact cz
      exact⟨_,ckS k n (i+1) q2 v1 v2 v3 (ps++[p]),Ku (K:=3) rfl rfl rfl rfl rfl rfl rfl (by omega) rfl rfl rfl rfl rfl rfl,⟨i+1,q2,ps++[p],⟨by omega,rfl,by simp;omega,by omega,by rw[←hfr,hst,hfs]⟩,.inl ⟨rfl,by simp⟩⟩,by omega⟩
   ·skip
    repeat' first|refine And.intro ?_ ?_|(intro h;try first|exact dz|replace h:=cv)
    all_goals try exact cz
    exact⟨_,ckS k n (i+1) q v1 v2 v3 ps,Ku (K:=3) rfl rfl rfl rfl rfl rfl rfl (by omega) rfl rfl rfl rfl rfl rfl,⟨i+1,q,ps,⟨by omega,rfl,by omega,hql,by rw[←hfr,V0 _ _ _ h2,V0 _ _ _ h2]⟩,.inl ⟨rfl,hp0⟩⟩,by omega⟩
  ·skip
   have hfe:ZS n r4 []=(ps,q):=by
    rw[←hfr,show n-i=0 by omega];rfl
   rw[hfe]at hP
   dsimp only at hP
   repeat' first|refine And.intro ?_ ?_|(intro h;try first|exact dz|replace h:=cv)
   all_goals try exact cz
   ·show Yo 7 (List.take ps.length (List.drop 0 (ps.map encP)))=true
    rw[List.drop_zero,List.take_of_length_le (by simp)];exact Z0 (enc:=encP) (z:=7) (fun _=>rfl) _
   refine⟨_,.refl _ _ _,_,rfl,?_⟩
   repeat' first|refine And.intro ?_ ?_|(intro h;try first|exact dz|replace h:=cv)
   all_goals try exact cz
   refine⟨_,RN (K:=5) hp0 (by exact rfl) rfl rfl rfl rfl rfl rfl rfl rfl (by show[]++List.take ps.length (List.drop 0 (ps.map encP))=_;rw[List.drop_zero,List.take_of_length_le (by simp)];rfl) (Nat.zero_add _),?_⟩
   unfold W7 at hP
   dsimp only at hP
   refine⟨[0],[.ptr 0 0 0],[(0,rdB q)],rfl,⟨.refl _,trivial⟩,⟨⟨by decide,_,rfl,.refl _⟩,trivial⟩,q,rfl,rfl,rfl,by omega,?_⟩
   have l_q1:(truthR q).2.b.length≤q.b.length:=Xf _
   have n_t1:(truthR q).1≤1:=UF _
   generalize truthR q=q at *
   obtain⟨t1,q1⟩:=q
   replace l_q1:q1.b.length≤q.b.length:=l_q1
   replace n_t1:t1≤1:=n_t1
   dsimp only at hP
   by_cases ht1:t1=1
   ·subst ht1
    rw[if_neg (fun h=>h rfl)]at hP
    repeat' first|refine And.intro ?_ ?_|(intro h;try first|exact dz|replace h:=cv)
    all_goals try exact cz
    refine⟨_,Va (k:=k) (q:=q1) (a:=v1) (b:=v2) (c:=v3) (ps:=ps) (kn:=true) (nu:=0) (ha:=false) (by exact rfl) rfl rfl rfl rfl rfl rfl rfl ⟨.refl _,.refl _,.refl _,.refl _,ZG rfl,.refl _,.refl _,.refl _,.refl _,.refl _,.refl _,trivial⟩,?_⟩
    repeat' first|refine And.intro ?_ ?_|(intro h;try first|exact dz|replace h:=cv)
    all_goals try exact cz
    refine⟨[0],[.ptr 0 0 0],[(0,rdB q1)],rfl,⟨.refl _,trivial⟩,⟨⟨by decide,_,rfl,.refl _⟩,trivial⟩,q1,rfl,rfl,rfl,by omega,?_⟩
    have l_q2:(plainR q1).2.b.length≤q1.b.length:=QR _ _ _
    have n_v4:(plainR q1).1≤1048576:=Zr (by decide) _
    generalize plainR q1=q at *
    obtain⟨v4,q2⟩:=q
    replace l_q2:q2.b.length≤q1.b.length:=l_q2
    replace n_v4:v4≤1048576:=n_v4
    dsimp only at hP
    repeat' first|refine And.intro ?_ ?_|(intro h;try first|exact dz|replace h:=cv)
    all_goals try exact cz
    refine⟨[0],[.ptr 0 0 0],[(0,rdB q2)],rfl,⟨.refl _,trivial⟩,⟨⟨by decide,_,rfl,.refl _⟩,trivial⟩,q2,rfl,rfl,rfl,by omega,?_⟩
    have l_q3:(truthR q2).2.b.length≤q2.b.length:=Xf _
    have n_t2:(truthR q2).1≤1:=UF _
    generalize truthR q2=q at *
    obtain⟨t2,q3⟩:=q
    replace l_q3:q3.b.length≤q2.b.length:=l_q3
    replace n_t2:t2≤1:=n_t2
    dsimp only at hP
    by_cases ht2:t2=1
    ·subst ht2
     rw[if_neg (fun h=>h rfl)]at hP
     repeat' first|refine And.intro ?_ ?_|(intro h;try first|exact dz|replace h:=cv)
     all_goals try exact cz
     refine⟨_,Va (k:=k) (q:=q3) (a:=v1) (b:=v2) (c:=v3) (ps:=ps) (kn:=true) (nu:=v4) (ha:=true) (by exact rfl) rfl rfl rfl rfl rfl rfl rfl ⟨.refl _,.refl _,.refl _,.refl _,.refl _,.refl _,ZG rfl,.refl _,.refl _,.refl _,.refl _,trivial⟩,?_⟩
     repeat' first|refine And.intro ?_ ?_|(intro h;try first|exact dz|replace h:=cv)
     all_goals try exact cz
     refine⟨[0],[.ptr 0 0 0,.int .i64 k],[(0,rdB q3)],rfl,⟨.refl _,.refl _,trivial⟩,⟨⟨by decide,_,rfl,.refl _⟩,trivial⟩,k,q3,rfl,rfl,rfl,by omega,?_⟩
     have l_q4:(Yx k q3).2.b.length≤q3.b.length:=KG _ _
     generalize Yx k q3=y at *
     obtain⟨w1,q4⟩:=y
     replace l_q4:q4.b.length≤q3.b.length:=l_q4
     dsimp only at hP
     refine⟨[0],[.ptr 0 0 0,.int .i64 k],[(0,rdB q4)],rfl,⟨.refl _,.refl _,trivial⟩,⟨⟨by decide,_,rfl,.refl _⟩,trivial⟩,k,q4,rfl,rfl,rfl,by omega,?_⟩
     generalize Yx k q4=y at *
     obtain⟨w2,q5⟩:=y
     dsimp only at hP
     repeat' first|refine And.intro ?_ ?_|(intro h;try first|exact dz|replace h:=cv)
     all_goals try exact cz
     exact Xi (k:=4) (n:=1) (row:=encC ⟨v1,v2,v3,ps,true,v4,true,w1,w2⟩) rfl rfl rfl ⟨.refl _,.refl _,.refl _,.refl _,.refl _,.refl _,.refl _,.refl _,.refl _,.refl _,.refl _,trivial⟩ (eC _) (by first|rfl|kernel_rfl) rfl hP
    ·rw[if_pos ht2]at hP
     obtain rfl:t2=0:=by omega
     repeat' first|refine And.intro ?_ ?_|(intro h;try first|exact dz|replace h:=cv)
     all_goals try exact cz
     refine⟨_,Va (k:=k) (q:=q3) (a:=v1) (b:=v2) (c:=v3) (ps:=ps) (kn:=true) (nu:=v4) (ha:=false) (by exact rfl) rfl rfl rfl rfl rfl rfl rfl ⟨.refl _,.refl _,.refl _,.refl _,.refl _,.refl _,ZG rfl,.refl _,.refl _,.refl _,.refl _,trivial⟩,?_⟩
     repeat' first|refine And.intro ?_ ?_|(intro h;try first|exact dz|replace h:=cv)
     all_goals try exact cz
     exact Xi (k:=4) (n:=1) (row:=encC ⟨v1,v2,v3,ps,true,v4,false,default,default⟩) rfl rfl rfl ⟨.refl _,.refl _,.refl _,.refl _,.refl _,.refl _,.refl _,.refl _,.refl _,.refl _,.refl _,trivial⟩ (eC _) (by first|rfl|kernel_rfl) rfl hP
   ·rw[if_pos ht1]at hP
    obtain rfl:t1=0:=by omega
    repeat' first|refine And.intro ?_ ?_|(intro h;try first|exact dz|replace h:=cv)
    all_goals try exact cz
    refine⟨_,Va (k:=k) (q:=q1) (a:=v1) (b:=v2) (c:=v3) (ps:=ps) (kn:=false) (nu:=0) (ha:=false) (by exact rfl) rfl rfl rfl rfl rfl rfl rfl ⟨.refl _,.refl _,.refl _,.refl _,ZG rfl,.refl _,.refl _,.refl _,.refl _,.refl _,.refl _,trivial⟩,?_⟩
    repeat' first|refine And.intro ?_ ?_|(intro h;try first|exact dz|replace h:=cv)
    all_goals try exact cz
    exact Xi (k:=4) (n:=1) (row:=encC ⟨v1,v2,v3,ps,false,default⟩) rfl rfl rfl ⟨.refl _,.refl _,.refl _,.refl _,.refl _,.refl _,.refl _,.refl _,.refl _,.refl _,.refl _,trivial⟩ (eC _) (by first|rfl|kernel_rfl) rfl hP
 ·by_cases h1:i<n
  ·by_cases h2:q.e=0
   ·skip
    have hst:n-i=n-(i+1)+1:=by omega
    have hfs:=Gs (n-(i+1)) q [] h2
    have hpl2:=JS q
    have hcall:∀(K:AVal→Heap→Nat→Prop),K (.agg (encP (pageR q).1)) [(0,rdB (pageR q).2)] 2→Mg [.ptr 0 0 0] [(0,rdB q)] 1 K:=fun K hk=>⟨q,rfl,rfl,rfl,by omega,hk⟩
    generalize pageR q=y at *
    obtain⟨p,q2⟩:=y
    dsimp only at hfs hpl2 hcall
    repeat' first|refine And.intro ?_ ?_|(intro h;try first|exact dz|replace h:=cv)
    all_goals try exact cz
    refine⟨ckS k n i q2 v1 v2 v3 ([p]),?_,?_⟩
    · repeat' first|refine And.intro ?_ ?_|(intro h;try first|exact dz|replace h:=cv)
      all_goals try exact cz
      all_goals(refine⟨[0],[.ptr 0 0 0],[(0,rdB q)],rfl,⟨.refl _,trivial⟩,⟨⟨by decide,_,rfl,.refl _⟩,trivial⟩,?_⟩;refine hcall _ ?_)
      repeat' first|refine And.intro ?_ ?_|(intro h;try first|exact dz|replace h:=cv)
      all_goals try exact cz
      all_goals(refine Exists.intro () ?_;first|exact Ku (K:=6) (by exact rfl) rfl rfl rfl rfl rfl rfl rfl rfl rfl rfl rfl (rfl) rfl|exact Ku (K:=5) (by exact rfl) rfl rfl rfl rfl rfl rfl rfl rfl rfl rfl rfl (rfl) rfl)
    · repeat' first|refine And.intro ?_ ?_|(intro h;try first|exact dz|replace h:=cv)
      all_goals try exact cz
      exact⟨_,ckS k n (i+1) q2 v1 v2 v3 ([p]),Ku (K:=3) rfl rfl rfl rfl rfl rfl rfl (by omega) rfl rfl rfl rfl rfl rfl,⟨i+1,q2,[p],⟨by omega,rfl,by simp,by omega,by rw[←hfr,hst,hfs];rfl⟩,.inl ⟨rfl,by simp⟩⟩,by omega⟩
   ·skip
    repeat' first|refine And.intro ?_ ?_|(intro h;try first|exact dz|replace h:=cv)
    all_goals try exact cz
    exact⟨_,ckN k n (i+1) q v1 v2 v3,Q0 [0,1,2] rfl ⟨.refl _,.refl _,.refl _,.refl _,.refl _,Qm (by omega),trivial⟩ ⟨⟨by decide,_,rfl,.refl _⟩,⟨by decide,_,rfl,.refl _⟩,⟨by decide,_,rfl,.refl _⟩,trivial⟩,⟨i+1,q,[],⟨by omega,rfl,by simp,hql,by rw[←hfr,V0 _ _ _ h2,V0 _ _ _ h2]⟩,.inr ⟨rfl,rfl⟩⟩,by omega⟩
  ·skip
   have hfe:ZS n r4 []=([],q):=by
    rw[←hfr,show n-i=0 by omega];rfl
   rw[hfe]at hP
   dsimp only at hP
   repeat' first|refine And.intro ?_ ?_|(intro h;try first|exact dz|replace h:=cv)
   all_goals try exact cz
   refine⟨_,.refl _ _ _,_,rfl,?_⟩
   repeat' first|refine And.intro ?_ ?_|(intro h;try first|exact dz|replace h:=cv)
   all_goals try exact cz
   refine⟨_,OU (by exact rfl) rfl rfl rfl rfl rfl rfl rfl,?_⟩
   unfold W7 at hP
   dsimp only at hP
   refine⟨[0],[.ptr 0 0 0],[(0,rdB q)],rfl,⟨.refl _,trivial⟩,⟨⟨by decide,_,rfl,.refl _⟩,trivial⟩,q,rfl,rfl,rfl,by omega,?_⟩
   have l_q1:(truthR q).2.b.length≤q.b.length:=Xf _
   have n_t1:(truthR q).1≤1:=UF _
   generalize truthR q=q at *
   obtain⟨t1,q1⟩:=q
   replace l_q1:q1.b.length≤q.b.length:=l_q1
   replace n_t1:t1≤1:=n_t1
   dsimp only at hP
   by_cases ht1:t1=1
   ·subst ht1
    rw[if_neg (fun h=>h rfl)]at hP
    repeat' first|refine And.intro ?_ ?_|(intro h;try first|exact dz|replace h:=cv)
    all_goals try exact cz
    refine⟨_,Va (k:=k) (q:=q1) (a:=v1) (b:=v2) (c:=v3) (ps:=[]) (kn:=true) (nu:=0) (ha:=false) (by exact rfl) rfl rfl rfl rfl rfl rfl rfl ⟨.refl _,.refl _,.refl _,.refl _,ZG rfl,.refl _,.refl _,.refl _,.refl _,.refl _,.refl _,trivial⟩,?_⟩
    repeat' first|refine And.intro ?_ ?_|(intro h;try first|exact dz|replace h:=cv)
    all_goals try exact cz
    refine⟨[0],[.ptr 0 0 0],[(0,rdB q1)],rfl,⟨.refl _,trivial⟩,⟨⟨by decide,_,rfl,.refl _⟩,trivial⟩,q1,rfl,rfl,rfl,by omega,?_⟩
    have l_q2:(plainR q1).2.b.length≤q1.b.length:=QR _ _ _
    have n_v4:(plainR q1).1≤1048576:=Zr (by decide) _
    generalize plainR q1=q at *
    obtain⟨v4,q2⟩:=q
    replace l_q2:q2.b.length≤q1.b.length:=l_q2
    replace n_v4:v4≤1048576:=n_v4
    dsimp only at hP
    repeat' first|refine And.intro ?_ ?_|(intro h;try first|exact dz|replace h:=cv)
    all_goals try exact cz
    refine⟨[0],[.ptr 0 0 0],[(0,rdB q2)],rfl,⟨.refl _,trivial⟩,⟨⟨by decide,_,rfl,.refl _⟩,trivial⟩,q2,rfl,rfl,rfl,by omega,?_⟩
    have l_q3:(truthR q2).2.b.length≤q2.b.length:=Xf _
    have n_t2:(truthR q2).1≤1:=UF _
    generalize truthR q2=q at *
    obtain⟨t2,q3⟩:=q
    replace l_q3:q3.b.length≤q2.b.length:=l_q3
    replace n_t2:t2≤1:=n_t2
    dsimp only at hP
    by_cases ht2:t2=1
    ·subst ht2
     rw[if_neg (fun h=>h rfl)]at hP
     repeat' first|refine And.intro ?_ ?_|(intro h;try first|exact dz|replace h:=cv)
     all_goals try exact cz
     refine⟨_,Va (k:=k) (q:=q3) (a:=v1) (b:=v2) (c:=v3) (ps:=[]) (kn:=true) (nu:=v4) (ha:=true) (by exact rfl) rfl rfl rfl rfl rfl rfl rfl ⟨.refl _,.refl _,.refl _,.refl _,.refl _,.refl _,ZG rfl,.refl _,.refl _,.refl _,.refl _,trivial⟩,?_⟩
     repeat' first|refine And.intro ?_ ?_|(intro h;try first|exact dz|replace h:=cv)
     all_goals try exact cz
     refine⟨[0],[.ptr 0 0 0,.int .i64 k],[(0,rdB q3)],rfl,⟨.refl _,.refl _,trivial⟩,⟨⟨by decide,_,rfl,.refl _⟩,trivial⟩,k,q3,rfl,rfl,rfl,by omega,?_⟩
     have l_q4:(Yx k q3).2.b.length≤q3.b.length:=KG _ _
     generalize Yx k q3=y at *
     obtain⟨w1,q4⟩:=y
     replace l_q4:q4.b.length≤q3.b.length:=l_q4
     dsimp only at hP
     refine⟨[0],[.ptr 0 0 0,.int .i64 k],[(0,rdB q4)],rfl,⟨.refl _,.refl _,trivial⟩,⟨⟨by decide,_,rfl,.refl _⟩,trivial⟩,k,q4,rfl,rfl,rfl,by omega,?_⟩
     generalize Yx k q4=y at *
     obtain⟨w2,q5⟩:=y
     dsimp only at hP
     repeat' first|refine And.intro ?_ ?_|(intro h;try first|exact dz|replace h:=cv)
     all_goals try exact cz
     exact Xi (k:=4) (n:=1) (row:=encC ⟨v1,v2,v3,[],true,v4,true,w1,w2⟩) rfl rfl rfl ⟨.refl _,.refl _,.refl _,.refl _,.refl _,.refl _,.refl _,.refl _,.refl _,.refl _,.refl _,trivial⟩ (eC _) (by first|rfl|kernel_rfl) rfl hP
    ·rw[if_pos ht2]at hP
     obtain rfl:t2=0:=by omega
     repeat' first|refine And.intro ?_ ?_|(intro h;try first|exact dz|replace h:=cv)
     all_goals try exact cz
     refine⟨_,Va (k:=k) (q:=q3) (a:=v1) (b:=v2) (c:=v3) (ps:=[]) (kn:=true) (nu:=v4) (ha:=false) (by exact rfl) rfl rfl rfl rfl rfl rfl rfl ⟨.refl _,.refl _,.refl _,.refl _,.refl _,.refl _,ZG rfl,.refl _,.refl _,.refl _,.refl _,trivial⟩,?_⟩
     repeat' first|refine And.intro ?_ ?_|(intro h;try first|exact dz|replace h:=cv)
     all_goals try exact cz
     exact Xi (k:=4) (n:=1) (row:=encC ⟨v1,v2,v3,[],true,v4,false,default,default⟩) rfl rfl rfl ⟨.refl _,.refl _,.refl _,.refl _,.refl _,.refl _,.refl _,.refl _,.refl _,.refl _,.refl _,trivial⟩ (eC _) (by first|rfl|kernel_rfl) rfl hP
   ·rw[if_pos ht1]at hP
    obtain rfl:t1=0:=by omega
    repeat' first|refine And.intro ?_ ?_|(intro h;try first|exact dz|replace h:=cv)
    all_goals try exact cz
    refine⟨_,Va (k:=k) (q:=q1) (a:=v1) (b:=v2) (c:=v3) (ps:=[]) (kn:=false) (nu:=0) (ha:=false) (by exact rfl) rfl rfl rfl rfl rfl rfl rfl ⟨.refl _,.refl _,.refl _,.refl _,ZG rfl,.refl _,.refl _,.refl _,.refl _,.refl _,.refl _,trivial⟩,?_⟩
    repeat' first|refine And.intro ?_ ?_|(intro h;try first|exact dz|replace h:=cv)
    all_goals try exact cz
    exact Xi (k:=4) (n:=1) (row:=encC ⟨v1,v2,v3,[],false,default⟩) rfl rfl rfl ⟨.refl _,.refl _,.refl _,.refl _,.refl _,.refl _,.refl _,.refl _,.refl _,.refl _,.refl _,trivial⟩ (eC _) (by first|rfl|kernel_rfl) rfl hP
def JD:SpecT:=fun args H nx Post=>∃(k:Int) (r:BR),args=[.ptr 0 0 0,.int .i64 k]∧H=[(0,rdB r)]∧nx=1∧r.b.length≤1000000∧Post (.agg (encC (Zv k r).1)) [(0,rdB (Zv k r).2)] 2
theorem LJ[Syms]:JD.ok Try.prog 84:=by
 rintro args H nx Post ⟨k,r,rfl,rfl,rfl,h1,h⟩
 exact XF.forget (Qj Qf Qg Q3 Sc Qw (OE k r h1 h))
theorem Kv(k:Int)(r:BR):(Zv k r).2.b.length≤r.b.length:=by
 have pagesR_len:∀(k:Nat) (r:BR) (s:List Pg),(ZS k r s).2.b.length≤r.b.length:=by
  intro k
  induction k with
  |zero=>intro r s;exact Nat.le_refl _
  |succ k ih=>
   intro r s
   rw[ZS]
   split
   ·exact Nat.le_refl _
   ·exact Nat.le_trans (ih _ _) (JS _)
 have knowR_len:∀(r:BR),(W7 k r).2.b.length≤r.b.length:=by
  intro r
  unfold W7 plainR
  dsimp only
  split
  ·exact Xf _
  ·split
   ·exact Nat.le_trans (Xf _) (Nat.le_trans (QR _ _ _) (Xf _))
   ·exact Nat.le_trans (KG _ _) (Nat.le_trans (KG _ _) (Nat.le_trans (Xf _) (Nat.le_trans (QR _ _ _) (Xf _))))
 unfold Zv ckR0 plainR
 exact Nat.le_trans (knowR_len _) (Nat.le_trans (pagesR_len _ _ _) (Nat.le_trans (QR _ _ _) (Nat.le_trans (XW _ _) (Nat.le_trans (QR _ _ _) (QR _ _ _)))))
end
section
set_option maxRecDepth 100000
set_option maxHeartbeats 4000000
abbrev cFgr[Syms]:CallT:=Q6 57 (QG UD) (Q6 84 (QG JD) (Q6 85 (FG Q7 Q7 (Qx fns) (Qo tys) (Qz plt) 100) Q7))
theorem Sb[Syms]:cFgr.ok Try.prog:=Q4 UN (Q4 LJ (Xn (XY Qf Qg Q3 Q9 Qw) Q9))
noncomputable def plGr:Nat→Nat→Pl:=XD [(58,4),(58,6),(58,2)] (Qz plt)
abbrev Zw(a:Int)(v:AVal):List AVal:=[.int .i64 a,v]
def gpS(ls:List Lf)(i:Nat)(q:BR)(n:Int)(cs:List Ck):St:=⟨[(0,.ptr 0 0 0),(1,vL ls),(4,.ptr 1 0 0),(5,.ptr 2 0 0),(6,.int .i64 i)],[(0,rdB q),(1,some (.cells [Zw 0 .nils] false)),(2,some (.cells [Zw n (.slice 3 0 cs.length 11 none)] false)),(3,some (.cells (cs.map encC) false))],4⟩
def gpF(q:BR)(n:Int)(cs:List Ck):St:=⟨[(0,.ptr 0 0 0),(4,.ptr 1 0 0),(5,.ptr 2 0 0)],[(0,rdB q),(1,some (.cells [Zw 0 .nils] false)),(2,some (.cells [Zw n (.vs 11 (cs.map encC))] false))],3⟩
theorem G1[Syms]{N B K nx:Nat}{e:Env}{H:Heap}{ls:List Lf}{n i1:Int}{i:Nat}{q:BR}{cs:List Ck}{rows:List (List AVal)}{len:Nat}(hn:QJ 1 nx [0,1,B,K]=true)(h0:e.get 0= .ptr 0 0 0)(h1:e.get 1=vL ls)(h4:e.get 4= .ptr 1 0 0)(h5:e.get 5= .ptr B 0 0)(h6:e.get 6= .int .i64 i1)(hi:i1=i)
 (H0:H.get 0=rdB q) (H1:H.get 1=some (.cells [Zw 0 .nils] false)) (H2:H.get B=some (.cells [Zw n (.slice K 0 len 11 none)] false)) (HK:H.get K=some (.cells rows false)) (hr:rows=cs.map encC) (hl:len=cs.length):Reb 1 N ⟨e,H,nx⟩ (gpS ls i q n cs):=by
 subst hr hl hi
 exact Q0 [0,1,B,K] hn ⟨by rw[h0];exact .refl _,by rw[h1];exact .refl _,by rw[h4];exact .refl _,by rw[h5];exact .refl _,by rw[h6];exact .refl _,trivial⟩
  ⟨⟨show 0<4 by decide,_,H0,.refl _⟩,⟨show 1<4 by decide,_,H1,.refl _⟩,⟨show 2<4 by decide,_,H2,.refl _⟩,⟨show 3<4 by decide,_,HK,Qa (fC _)⟩,trivial⟩
theorem Rr[Syms]{N B K nx:Nat}{e:Env}{H:Heap}{n:Int}{q:BR}{cs:List Ck}{rows:List (List AVal)}{len:Nat}(hp:0<cs.length)(hn:QJ 1 nx [0,1,B,K]=true)(h0:e.get 0= .ptr 0 0 0)(h4:e.get 4= .ptr 1 0 0)(h5:e.get 5= .ptr B 0 0)
 (H0:H.get 0=rdB q) (H1:H.get 1=some (.cells [Zw 0 .nils] false)) (H2:H.get B=some (.cells [Zw n (.slice K 0 len 11 none)] false)) (HK:H.get K=some (.cells rows false)) (hr:rows=cs.map encC) (hl:len=cs.length):Reb 1 N ⟨e,H,nx⟩ (gpF q n cs):=by
 subst hr hl
 have hcut:((cs.map encC).drop 0).take cs.length=cs.map encC:=by rw[List.drop_zero,List.take_of_length_le (by simp)]
 have hs:FzV 3 (cs.map encC) (.slice 3 0 cs.length 11 none) (.vs 11 (cs.map encC)):=by
  have:=FzV.sl (n:=3) (rows:=cs.map encC) 0 cs.length 11 none hp (by simp)
  rwa [hcut]at this
 refine(Q0 (e3:=[(0,.ptr 0 0 0),(4,.ptr 1 0 0),(5,.ptr 2 0 0)]) (H3:=[(0,rdB q),(1,some (.cells [Zw 0 .nils] false)),(2,some (.cells [Zw n (.slice 3 0 cs.length 11 none)] false)),(3,some (.cells (cs.map encC) false))]) [0,1,B,K] hn ⟨by rw[h0];exact .refl _,by rw[h4];exact .refl _,by rw[h5];exact .refl _,trivial⟩
  ⟨⟨show 0<4 by decide,_,H0,.refl _⟩,⟨show 1<4 by decide,_,H1,.refl _⟩,⟨show 2<4 by decide,_,H2,.refl _⟩,⟨show 3<4 by decide,_,HK,Qa (fC _)⟩,trivial⟩).trans ?_
 refine(QH (n:=3) (e3:=[(0,.ptr 0 0 0),(4,.ptr 1 0 0),(5,.ptr 2 0 0)]) (H3:=[(0,rdB q),(1,some (.cells [Zw 0 .nils] false)),(2,some (.cells [Zw n (.vs 11 (cs.map encC))] false))]) rfl (fC cs) ⟨.same _,.same _,.same _,trivial⟩
  ⟨⟨by decide,_,rfl,.same _⟩,⟨by decide,_,rfl,.same _⟩,⟨by decide,_,rfl,.cells [Zw n (.slice 3 0 cs.length 11 none)] [Zw n (.vs 11 (cs.map encC))] false rfl (fun j r r' h h'=>?_)⟩,trivial⟩).trans (Q0 [0,1,2] rfl ⟨.refl _,.refl _,.refl _,trivial⟩ ⟨⟨by decide,_,rfl,.refl _⟩,⟨by decide,_,rfl,.refl _⟩,⟨by decide,_,rfl,.refl _⟩,trivial⟩)
 cases j with
 |zero=>
  cases h;cases h'
  exact⟨.same _,hs,trivial⟩
 |succ j=>simp at h
theorem Ok[Syms]{N B nx:Nat}{e:Env}{H:Heap}{n:Int}{q:BR}(hn:QJ 1 nx [0,1,B]=true)(h0:e.get 0= .ptr 0 0 0)(h4:e.get 4= .ptr 1 0 0)(h5:e.get 5= .ptr B 0 0)
 (H0:H.get 0=rdB q) (H1:H.get 1=some (.cells [Zw 0 .nils] false)) (H2:H.get B=some (.cells [Zw n .nils] false)):Reb 1 N ⟨e,H,nx⟩ (gpF q n []):=
 Q0 [0,1,B] hn ⟨by rw[h0];exact .refl _,by rw[h4];exact .refl _,by rw[h5];exact .refl _,trivial⟩
  ⟨⟨show 0<3 by decide,_,H0,.refl _⟩,⟨show 1<3 by decide,_,H1,.refl _⟩,⟨show 2<3 by decide,_,H2,QE (row:=Zw n (.vs 11 [])) ⟨.refl _,.zero _ _ rfl,trivial⟩⟩,trivial⟩
def gpN(ls:List Lf)(q:BR)(n:Int):St:=⟨[(0,.ptr 0 0 0),(1,vL ls),(4,.ptr 1 0 0),(5,.ptr 2 0 0),(6,.int .i64 0)],[(0,rdB q),(1,some (.cells [Zw 0 .nils] false)),(2,some (.cells [Zw n .nils] false))],3⟩
theorem eR(p:Rw):∀x∈encR p,x.flat=true:=fR [p] _ (List.mem_singleton.2 rfl)
theorem Xb(ps:List Ck)(p:Ck):List.take ps.length (List.drop 0 (ps.map encC))++[encC p]=(ps++[p]).map encC:=by
 rw[List.drop_zero,List.take_of_length_le (by simp),List.map_append];rfl
abbrev Q5(ls:List Lf):List Int:=ls.map (·.kind)
theorem Jg{ls:List Lf}{i:Nat}(hi:i<ls.length)(r:BR)(s:List Ck)(h:r.e=0):Zh ((Q5 ls).drop i) r s=Zh ((Q5 ls).drop (i+1)) (Zv (ls.getD i default).kind r).2 (s++[(Zv (ls.getD i default).kind r).1]):=by
 have:(Q5 ls).drop i=(ls.getD i default).kind::(Q5 ls).drop (i+1):=by
  rw[List.drop_eq_getElem_cons (by simpa using hi)]
  simp[hi]
 rw[this,Zh,if_neg (fun x=>x h)]
theorem Jf(k:List Int)(r:BR)(s:List Ck)(h:r.e≠0):Zh k r s=(s,r):=by
 cases k with
 |nil=>rfl
 |cons k ks=>rw[Zh,if_pos h]
theorem OD[Syms]{Post:AVal→Heap→Nat→Prop}(ls:List Lf)(r:BR)(hl:r.b.length≤1000000)(hll:ls.length≤1000)(hP:Post (.agg (encR (Zo (Q5 ls) r).1)) [(0,rdB (Zo (Q5 ls) r).2)] 2):
 fnT Q7 cFgr (Qx fns) (Qo tys) plGr 100 58 [.ptr 0 0 0,vL ls] [(0,rdB r)] 1 (Vv Post):=by
 unfold Zo at hP
 dsimp only at hP
 refine .inr ⟨fun l m s=>l=0∧ ∃(n:Int) (i:Nat) (q:BR) (cs:List Ck),(i≤ls.length∧m=ls.length-i∧0<cs.length∧cs.length≤i∧q.b.length≤r.b.length∧((plainR r).1:Nat)=n∧Zh ((Q5 ls).drop i) q cs=Zh (Q5 ls) (plainR r).2 [])∧s=gpS ls i q n cs,?_,?_⟩
 ·refine⟨[0],[.ptr 0 0 0],[(0,rdB r)],rfl,⟨.refl _,trivial⟩,⟨⟨by decide,_,rfl,.refl _⟩,trivial⟩,r,rfl,rfl,rfl,by omega,?_⟩
  have l_r1:(plainR r).2.b.length≤r.b.length:=QR _ _ _
  have n_v1:(plainR r).1≤1048576:=Zr (by decide) _
  generalize plainR r=q at *
  obtain⟨v1,r1⟩:=q
  replace l_r1:r1.b.length≤r.b.length:=l_r1
  replace n_v1:v1≤1048576:=n_v1
  dsimp only at hP
  repeat' first|refine And.intro ?_ ?_|(intro h;try first|exact dz|replace h:=cv)
  all_goals try exact cz
  refine⟨gpN ls r1 v1,Q0 [0,1,3] (by exact rfl) ⟨.refl _,.refl _,.refl _,.refl _,.refl _,trivial⟩ ⟨⟨by decide,_,rfl,.refl _⟩,⟨by decide,_,rfl,.refl _⟩,⟨by decide,_,rfl,.refl _⟩,trivial⟩,?_⟩
  by_cases h1:0<ls.length∧r1.e=0
  ·obtain⟨h1,h2⟩:=h1
   have hfs:=Jg (i:=0) (by omega) r1 [] h2
   have hpl2:=Kv (ls.getD 0 default).kind r1
   have hcall:∀(K:AVal→Heap→Nat→Prop),K (.agg (encC (Zv (ls.getD 0 default).kind r1).1)) [(0,rdB (Zv (ls.getD 0 default).kind r1).2)] 2→JD [.ptr 0 0 0,.int .i64 (ls.getD 0 default).kind] [(0,rdB r1)] 1 K:=fun K hk=>⟨_,r1,rfl,rfl,rfl,by omega,hk⟩
   generalize Zv (ls.getD 0 default).kind r1=y at *
   obtain⟨p,q2⟩:=y
   dsimp only at hfs hpl2 hcall
   repeat' first|refine And.intro ?_ ?_|(intro h;try first|exact dz|replace h:=cv)
   all_goals try exact cz
   refine⟨gpS ls 0 q2 v1 ([p]),?_,?_⟩
   · repeat' first|refine And.intro ?_ ?_|(intro h;try first|exact dz|replace h:=cv)
     all_goals try exact cz
     all_goals(refine⟨[0],[.ptr 0 0 0,.int .i64 (ls.getD 0 default).kind],[(0,rdB r1)],rfl,⟨.refl _,.refl _,trivial⟩,⟨⟨by decide,_,rfl,.refl _⟩,trivial⟩,?_⟩;refine hcall _ ?_)
     repeat' first|refine And.intro ?_ ?_|(intro h;try first|exact dz|replace h:=cv)
     all_goals try exact cz
     all_goals(refine Exists.intro () ?_;first|exact G1 (B:=2) (K:=6) (by exact rfl) rfl rfl rfl rfl rfl (by rfl) rfl rfl rfl rfl rfl rfl|exact G1 (B:=2) (K:=5) (by exact rfl) rfl rfl rfl rfl rfl (by rfl) rfl rfl rfl rfl rfl rfl)
   · repeat' first|refine And.intro ?_ ?_|(intro h;try first|exact dz|replace h:=cv)
     all_goals try exact cz
     exact⟨_,gpS ls (0+1) q2 v1 ([p]),G1 (B:=2) (K:=3) rfl rfl rfl rfl rfl rfl (by omega) rfl rfl rfl rfl rfl rfl,⟨rfl,v1,0+1,q2,[p],⟨by omega,rfl,by simp,by simp,by omega,rfl,by rw[show([]:List Ck)++[p]=[p] from rfl]at hfs;rw[←hfs];rfl⟩,rfl⟩⟩
  ·skip
   have hfe:Zh (Q5 ls) r1 []=([],r1):=by
    by_cases h2:r1.e=0
    ·have:ls=[]:=List.eq_nil_of_length_eq_zero (by omega)
     subst this;rfl
    ·exact Jf _ _ _ h2
   rw[hfe]at hP
   dsimp only at hP
   repeat' first|refine And.intro ?_ ?_|(intro h;try first|exact dz|replace h:=cv)
   all_goals try exact cz
   all_goals refine⟨_,.refl _ _ _,_,rfl,?_⟩
   repeat' first|refine And.intro ?_ ?_|(intro h;try first|exact dz|replace h:=cv)
   all_goals try exact cz
   all_goals refine⟨_,Ok (B:=2) (by exact rfl) rfl rfl rfl rfl rfl rfl,?_⟩
   repeat' first|refine And.intro ?_ ?_|(intro h;try first|exact dz|replace h:=cv)
   all_goals try exact cz
   all_goals exact Xi (k:=4) (n:=1) (row:=encR ⟨v1,[]⟩) rfl rfl rfl ⟨.refl _,.refl _,trivial⟩ (eR _) (by first|rfl|kernel_rfl) rfl hP
 ·rintro l rest m s hl0 ⟨rfl,n,i,q,cs,⟨hi,rfl,hc0,hci,hql,hn,hfr⟩,rfl⟩
  cases hl0
  by_cases h1:i<ls.length∧q.e=0
  ·obtain⟨h1,h2⟩:=h1
   have hfs:=Jg (i:=i) (by omega) q cs h2
   have hpl2:=Kv (ls.getD i default).kind q
   have hcall:∀(K:AVal→Heap→Nat→Prop),K (.agg (encC (Zv (ls.getD i default).kind q).1)) [(0,rdB (Zv (ls.getD i default).kind q).2)] 2→JD [.ptr 0 0 0,.int .i64 (ls.getD i default).kind] [(0,rdB q)] 1 K:=fun K hk=>⟨_,q,rfl,rfl,rfl,by omega,hk⟩
   generalize Zv (ls.getD i default).kind q=y at *
   obtain⟨p,q2⟩:=y
   dsimp only at hfs hpl2 hcall
   repeat' first|refine And.intro ?_ ?_|(intro h;try first|exact dz|replace h:=cv)
   all_goals try exact cz
   refine⟨gpS ls i q2 n (cs++[p]),?_,?_⟩
   · repeat' first|refine And.intro ?_ ?_|(intro h;try first|exact dz|replace h:=cv)
     all_goals try exact cz
     all_goals(refine⟨[0],[.ptr 0 0 0,.int .i64 (ls.getD i default).kind],[(0,rdB q)],rfl,⟨.refl _,.refl _,trivial⟩,⟨⟨by decide,_,rfl,.refl _⟩,trivial⟩,?_⟩;refine hcall _ ?_)
     repeat' first|refine And.intro ?_ ?_|(intro h;try first|exact dz|replace h:=cv)
     all_goals try exact cz
     all_goals(refine Exists.intro () ?_;first|exact G1 (B:=2) (K:=7) (by exact rfl) rfl rfl rfl rfl rfl (by rfl) rfl rfl rfl rfl (Xb _ _) (by simp)|exact G1 (B:=2) (K:=6) (by exact rfl) rfl rfl rfl rfl rfl (by rfl) rfl rfl rfl rfl (Xb _ _) (by simp))
   · repeat' first|refine And.intro ?_ ?_|(intro h;try first|exact dz|replace h:=cv)
     all_goals try exact cz
     exact⟨_,gpS ls (i+1) q2 n (cs++[p]),G1 (B:=2) (K:=3) rfl rfl rfl rfl rfl rfl (by omega) rfl rfl rfl rfl rfl rfl,⟨rfl,n,i+1,q2,cs++[p],⟨by omega,rfl,by simp,by simp;omega,by omega,hn,by rw[←hfr,hfs]⟩,rfl⟩,by omega⟩
  ·skip
   have hfe:Zh (Q5 ls) (plainR r).2 []=(cs,q):=by
    rw[←hfr]
    by_cases h2:q.e=0
    ·have:(Q5 ls).drop i=[]:=List.drop_of_length_le (by simp;omega)
     rw[this];rfl
    ·exact Jf _ _ _ h2
   rw[hfe,hn]at hP
   dsimp only at hP
   repeat' first|refine And.intro ?_ ?_|(intro h;try first|exact dz|replace h:=cv)
   all_goals try exact cz
   all_goals(try((with_reducible show _=true);show Yo 11 (List.take cs.length (List.drop 0 (cs.map encC)))=true;rw[List.drop_zero,List.take_of_length_le (by simp)];exact Z0 (enc:=encC) (z:=11) (fun _=>rfl) _))
   all_goals refine⟨_,.refl _ _ _,_,rfl,?_⟩
   repeat' first|refine And.intro ?_ ?_|(intro h;try first|exact dz|replace h:=cv)
   all_goals try exact cz
   all_goals refine⟨_,Rr (B:=2) (K:=5) hc0 (by exact rfl) rfl rfl rfl rfl rfl rfl rfl (by show[]++List.take cs.length (List.drop 0 (cs.map encC))=_;rw[List.drop_zero,List.take_of_length_le (by simp)];rfl) (Nat.zero_add _),?_⟩
   repeat' first|refine And.intro ?_ ?_|(intro h;try first|exact dz|replace h:=cv)
   all_goals try exact cz
   all_goals exact Xi (k:=4) (n:=1) (row:=encR ⟨n,cs⟩) rfl rfl rfl ⟨.refl _,.refl _,trivial⟩ (eR _) (by first|rfl|kernel_rfl) rfl hP
def JC:SpecT:=fun args H nx Post=>∃(ls:List Lf) (r:BR),args=[.ptr 0 0 0,vL ls]∧H=[(0,rdB r)]∧nx=1∧(r.b.length≤1000000∧ls.length≤1000)∧Post (.agg (encR (Zo (Q5 ls) r).1)) [(0,rdB (Zo (Q5 ls) r).2)] 2
theorem LH[Syms]:JC.ok Try.prog 58:=by
 rintro args H nx Post ⟨ls,r,rfl,rfl,rfl,⟨h1,h2⟩,h⟩
 exact XF.forget (Qj Qf Qg Q3 Sb Qw (OD ls r h1 h2 h))
theorem Fj(ks:List Int)(r:BR):(Zo ks r).2.b.length≤r.b.length:=by
 have chunksR_len:∀(ks:List Int) (r:BR) (s:List Ck),(Zh ks r s).2.b.length≤r.b.length:=by
  intro ks
  induction ks with
  |nil=>intro r s;exact Nat.le_refl _
  |cons k ks ih=>
   intro r s
   rw[Zh]
   split
   ·exact Nat.le_refl _
   ·exact Nat.le_trans (ih _ _) (Kv _ _)
 unfold Zo plainR
 exact Nat.le_trans (chunksR_len _ _ _) (QR _ _ _)
end
section
set_option maxRecDepth 100000
set_option maxHeartbeats 4000000
def ZJ(lv:List Lf)(n:Nat):List (List AVal):=lv.map ZO++List.replicate (n-lv.length) (ZO lf0)
def lE(fs:List Fd)(ps:List Int)(n i:Nat)(out:AVal):Env:=[(0,vF fs),(3,vI ps),(4,.slice 0 0 n 4 none),(5,out),(15,vF fs),(16,.int .i64 n),(17,.int .i64 i)]
def lA(fs:List Fd)(ps:List Int)(n i:Nat):St:=⟨lE fs ps n i .nils,[(0,some (.cells (ZJ (Qq fs ps i) n) false))],1⟩
def lB(fs:List Fd)(ps:List Int)(n i:Nat):St:=⟨lE fs ps n i (.slice 1 0 (Zk fs ps i).length 4 none),[(0,some (.cells (ZJ (Qq fs ps i) n) false)),(1,some (.cells ((Zk fs ps i).map ZO) false))],2⟩
theorem Tx(n:Nat):Qp (List.replicate n (ZO lf0)):=fun r hr x hx=>by
 rw[List.eq_of_mem_replicate hr]at hx
 simp[ZO]at hx;rcases hx with rfl|rfl|rfl|rfl<;>rfl
theorem fLR(lv:List Lf)(n:Nat):Qp (ZJ lv n):=QA (fL _) (Tx _)
theorem DC{lv:List Lf}{n:Nat}(h:lv.length≤n):(ZJ lv n).length=n:=by simp[ZJ];omega
theorem CP{lv:List Lf}{n p:Nat}(h:p<lv.length):(ZJ lv n).getD p []=ZO (lv.getD p default):=by
 simp[ZJ,List.getD_eq_getElem?_getD,List.getElem?_append_left,h]
theorem JW{lv:List Lf}{n:Nat}(h:lv.length<n):(ZJ lv n).getD lv.length []=ZO lf0:=by
 obtain⟨m,hm⟩:∃m,n-lv.length=m+1:=⟨n-lv.length-1,by omega⟩
 simp[ZJ,List.getD_eq_getElem?_getD,hm,List.replicate_succ]
theorem Ls{lv:List Lf}{n:Nat}(h:lv.length<n)(x:Lf):(ZJ lv n).set lv.length (ZO x)=ZJ (lv++[x]) n:=by
 obtain⟨m,hm⟩:∃m,n-lv.length=m+1:=⟨n-lv.length-1,by omega⟩
 simp only[ZJ,hm,List.replicate_succ]
 rw[List.set_append_right (h:=by simp)]
 simp
 omega
theorem ZB{fs:List Fd}{ps:List Int}{n i:Nat}{x y z w:Int}(h:i<n)(hM:mkL fs ps (Qq fs ps i) i=⟨x,y,z,w⟩):
 (ZJ (Qq fs ps i) n).set (0+i) (QI ((ZJ (Qq fs ps i) n).getD (0+i) []) 0 [.int .i64 x,.int .i64 y,.int .i64 z,.int .i64 w])=ZJ (Qq fs ps (i+1)) n:=by
 have h1:=JW (lv:=Qq fs ps i) (n:=n) (by rw[Zn];exact h)
 have h2:=Ls (lv:=Qq fs ps i) (n:=n) (by rw[Zn];exact h) ⟨x,y,z,w⟩
 rw[Zn]at h1 h2
 rw[Nat.zero_add,h1,Qq,hM,←h2]
 rfl
def QM(fs:List Fd)(ps:List Int)(i:Nat):Lf:=(Qq fs ps i).getD (ps.getD i 0).toNat default
def lS(fs:List Fd)(ps:List Int)(i:Nat)(b:Bool):St:=match b with
 |false=>⟨lE fs ps fs.length i .nils++[(6,.int .i64 i),(7,.ptr 1 0 0),(8,.ptr 2 0 0),(9,.int .i64 (ps.getD i 0))],[(0,some (.cells (ZJ (Qq fs ps i) fs.length) false)),(1,some (.cells [encF (fs.getD i default)] false)),(2,some (.cells [ZO ⟨i,(QM fs ps i).r,(QM fs ps i).d,(fs.getD i default).kind⟩] false))],3⟩
 |true=>⟨lE fs ps fs.length i (.slice 1 0 (Zk fs ps i).length 4 none)++[(6,.int .i64 i),(7,.ptr 2 0 0),(8,.ptr 3 0 0),(9,.int .i64 (ps.getD i 0))],[(0,some (.cells (ZJ (Qq fs ps i) fs.length) false)),(1,some (.cells ((Zk fs ps i).map ZO) false)),(2,some (.cells [encF (fs.getD i default)] false)),(3,some (.cells [ZO ⟨i,(QM fs ps i).r,(QM fs ps i).d,(fs.getD i default).kind⟩] false))],4⟩
def lInv(fs:List Fd)(ps:List Int)(n:Nat)(m:Nat)(s:St):Prop:=∃i:Nat,(i≤n∧m=n-i)∧((Zk fs ps i=[]∧s=lA fs ps n i)∨s=lB fs ps n i)
theorem Ob[Syms](fs:List Fd)(hF:FsOk fs):
 fnT Q7 (Q6 73 (X0 S_par) (Q6 74 (tB Q7 Q7) Q7)) (Qx fns) (Qo tys) (Qz plt) 100 44 [vF fs] [] 0 (fun v H _=>v=vL (Qt fs)∧H=[]):=by
 have hl:=hF.len
 refine⟨fs,rfl,hF,?_⟩
 have hpl:=XR fs
 have ha:=UY fs
 unfold Qt
 generalize Qi fs=ps at *
 repeat' first|refine And.intro ?_ ?_|(intro h;try simp only[decide_eq_true_eq,decide_eq_false_iff_not,Int.not_lt,Int.not_le,Int.toNat_natCast,↓reduceIte,Nat.reduceAdd,reduceCtorEq,Int.reduceLT,Int.lt_irrefl,gt_iff_lt,not_true_eq_false,not_false_eq_true,Bool.not_true,Bool.not_false,decide_false,decide_true,Int.reduceLE,Int.reduceSub,Bool.false_eq_true,Bool.true_eq_false,Nat.reduceEqDiff,Nat.one_ne_zero,Nat.reduceLT,and_self,and_true,true_and,Int.natCast_zero,Int.cast_ofNat_Int,List.length_nil,ne_eq,Decidable.not_not]at h)
 all_goals(try first|exact PlanIs.mk (by kernel_rfl)|omega|(show(_:Int)*((32:Nat):Int)≤_;omega)|(show(_:Int)*((8:Nat):Int)≤_;omega)|(show(_:Int)*((24:Nat):Int)≤_;omega)|exact rfl|exact Nat.le_of_ble_eq_true rfl|(show(_:Nat)≤(_:Nat);simp;done)|(show(_:Nat)≤(_:Nat);simp;omega))
 refine⟨lInv fs ps fs.length,⟨_,lA fs ps fs.length 0,Q0 [0] rfl ?_ ?_,0,⟨by omega,rfl⟩,.inl ⟨rfl,rfl⟩⟩,?_⟩
 ·exact⟨.refl _,.refl _,.cap _ _ _ _ _,.refl _,.refl _,.refl _,.refl _,trivial⟩
 ·exact⟨⟨by decide,_,rfl,Q2 rfl (fLR _ _)⟩,trivial⟩
 rintro m s ⟨i,⟨hi,rfl⟩,(⟨h0,rfl⟩|rfl)⟩
 ·have hol:=Zf fs ps i
  have hll:=Zn fs ps i
  by_cases hin:i<fs.length
  ·have hxi:(ZJ (Qq fs ps i) fs.length).getD i []=ZO lf0:=by have:=JW (lv:=Qq fs ps i) (n:=fs.length) (by rw[Zn];exact hin);rwa [Zn]at this
   have hq:=ha i hin
   have hln:(ZJ (Qq fs ps i) fs.length).length=fs.length:=DC (by omega)
   rcases Int.lt_or_le (ps.getD i 0) 0 with hp|hp
   ·have hB:Wp (Qq fs ps i) (ps.getD i 0)=lf0:=by rw[Wp,if_neg (by omega)]
    repeat' first|refine And.intro ?_ ?_|(intro h;(try first|replace h:=of_decide_eq_true h|replace h:=of_decide_eq_false h);(try simp only[Qd,W1,Yi,Qn,Zb,Vr,Vq,Vp,QT,W0,YZ,YY,QC,Vo,Vn,Vm,Vk,YX,YW,YV,YU,Nat.zero_add,Nat.add_zero,Int.toNat_natCast,Int.toNat_zero]at h);try simp only[decide_eq_true_eq,decide_eq_false_iff_not,Int.not_lt,Int.not_le,Int.toNat_natCast,↓reduceIte,Nat.reduceAdd,reduceCtorEq,Int.reduceLT,Int.lt_irrefl,gt_iff_lt,not_true_eq_false,not_false_eq_true,Bool.not_true,Bool.not_false,decide_false,decide_true,Int.reduceLE,Int.reduceSub,Bool.false_eq_true,Bool.true_eq_false,Nat.reduceEqDiff,Nat.one_ne_zero,Nat.reduceLT,and_self,and_true,true_and,Int.natCast_zero,Int.cast_ofNat_Int,List.length_nil,ne_eq,Decidable.not_not]at h)
    all_goals(try first|exact PlanIs.mk (by kernel_rfl)|omega|(show(_:Int)*((32:Nat):Int)≤_;omega)|(show(_:Int)*((8:Nat):Int)≤_;omega)|(show(_:Int)*((24:Nat):Int)≤_;omega)|exact rfl|exact Nat.le_of_ble_eq_true rfl|(show(_:Nat)≤(_:Nat);simp;done)|(show(_:Nat)≤(_:Nat);simp;omega))
    all_goals(try first|(show(-9223372036854775808:Int)≤lf0.r+1;first|decide|omega)|(show(-9223372036854775808:Int)≤lf0.d+1;first|decide|omega)|(show lf0.r+1≤(9223372036854775807:Int);first|decide|omega)|(show lf0.d+1≤(9223372036854775807:Int);first|decide|omega))
    all_goals(try first|(show 0+i<(ZJ (Qq fs ps i) fs.length).length;rw[hln];omega)|(show 0+4≤(List.length ((ZJ (Qq fs ps i) fs.length).getD (0+i) []));rw[Nat.zero_add i,hxi];exact Nat.le_refl 4))
    all_goals first
    |(have hr:(fs.getD i default).rep=2:=by assumption
      have hk:(fs.getD i default).kind=0:=by assumption
      have hM:mkL fs ps (Qq fs ps i) i=⟨i,lf0.r+1,lf0.d+1,(fs.getD i default).kind⟩:=by(simp only[mkL,hB];rw[if_pos hr,if_pos (by omega)])
      refine⟨_,lA fs ps fs.length (i+1),Q0 [0] rfl ?_ ?_,⟨i+1,⟨by omega,rfl⟩,.inl ⟨by rw[Qc,if_neg (by omega)];exact h0,rfl⟩⟩,by omega⟩
      ·exact⟨.refl _,.refl _,.refl _,.refl _,.refl _,.refl _,.refl _,trivial⟩
      ·refine⟨⟨by decide,_,rfl,Q2 ?_ (fLR _ _)⟩,trivial⟩
       ·exact ZB (x:=i) (y:=lf0.r+1) (z:=lf0.d+1) (w:=(fs.getD i default).kind) hin hM)
    |(have hr:(fs.getD i default).rep=2:=by assumption
      have hk:¬(fs.getD i default).kind=0:=by assumption
      have hM:mkL fs ps (Qq fs ps i) i=⟨i,lf0.r+1,lf0.d+1,(fs.getD i default).kind⟩:=by(simp only[mkL,hB];rw[if_pos hr,if_pos (by omega)])
      refine⟨_,lB fs ps fs.length (i+1),Q0 [0,9] rfl ?_ ?_,⟨i+1,⟨by omega,rfl⟩,.inr rfl⟩,by omega⟩
      ·exact⟨.refl _,.refl _,.refl _,Q8 (by rw[Qc,if_pos hk,h0,List.length_append];rfl),.refl _,.refl _,.refl _,trivial⟩
      ·refine⟨⟨by decide,_,rfl,Q2 ?_ (fLR _ _)⟩,⟨by decide,_,rfl,Q2 ?_ (fL _)⟩,trivial⟩
       ·exact ZB (x:=i) (y:=lf0.r+1) (z:=lf0.d+1) (w:=(fs.getD i default).kind) hin hM
       ·(rw[Qc,if_pos hk,hM,h0];rfl))
    |(have hr:¬(fs.getD i default).rep=2:=by assumption
      have hz:¬(fs.getD i default).rep=0:=by assumption
      have hk:(fs.getD i default).kind=0:=by assumption
      have hM:mkL fs ps (Qq fs ps i) i=⟨i,lf0.r,lf0.d+1,(fs.getD i default).kind⟩:=by(simp only[mkL,hB];rw[if_neg hr,if_pos hz])
      refine⟨_,lA fs ps fs.length (i+1),Q0 [0] rfl ?_ ?_,⟨i+1,⟨by omega,rfl⟩,.inl ⟨by rw[Qc,if_neg (by omega)];exact h0,rfl⟩⟩,by omega⟩
      ·exact⟨.refl _,.refl _,.refl _,.refl _,.refl _,.refl _,.refl _,trivial⟩
      ·refine⟨⟨by decide,_,rfl,Q2 ?_ (fLR _ _)⟩,trivial⟩
       ·exact ZB (x:=i) (y:=lf0.r) (z:=lf0.d+1) (w:=(fs.getD i default).kind) hin hM)
    |(have hr:¬(fs.getD i default).rep=2:=by assumption
      have hz:¬(fs.getD i default).rep=0:=by assumption
      have hk:¬(fs.getD i default).kind=0:=by assumption
      have hM:mkL fs ps (Qq fs ps i) i=⟨i,lf0.r,lf0.d+1,(fs.getD i default).kind⟩:=by(simp only[mkL,hB];rw[if_neg hr,if_pos hz])
      refine⟨_,lB fs ps fs.length (i+1),Q0 [0,8] rfl ?_ ?_,⟨i+1,⟨by omega,rfl⟩,.inr rfl⟩,by omega⟩
      ·exact⟨.refl _,.refl _,.refl _,Q8 (by rw[Qc,if_pos hk,h0,List.length_append];rfl),.refl _,.refl _,.refl _,trivial⟩
      ·refine⟨⟨by decide,_,rfl,Q2 ?_ (fLR _ _)⟩,⟨by decide,_,rfl,Q2 ?_ (fL _)⟩,trivial⟩
       ·exact ZB (x:=i) (y:=lf0.r) (z:=lf0.d+1) (w:=(fs.getD i default).kind) hin hM
       ·(rw[Qc,if_pos hk,hM,h0];rfl))
    |(have hr:(fs.getD i default).rep=0:=by assumption
      have hk:(fs.getD i default).kind=0:=by assumption
      have hM:mkL fs ps (Qq fs ps i) i=⟨i,lf0.r,lf0.d,(fs.getD i default).kind⟩:=by(simp only[mkL,hB];rw[if_neg (by omega),if_neg (by omega)])
      refine⟨_,lA fs ps fs.length (i+1),Q0 [0] rfl ?_ ?_,⟨i+1,⟨by omega,rfl⟩,.inl ⟨by rw[Qc,if_neg (by omega)];exact h0,rfl⟩⟩,by omega⟩
      ·exact⟨.refl _,.refl _,.refl _,.refl _,.refl _,.refl _,.refl _,trivial⟩
      ·refine⟨⟨by decide,_,rfl,Q2 ?_ (fLR _ _)⟩,trivial⟩
       ·exact ZB (x:=i) (y:=lf0.r) (z:=lf0.d) (w:=(fs.getD i default).kind) hin hM)
    |(have hr:(fs.getD i default).rep=0:=by assumption
      have hk:¬(fs.getD i default).kind=0:=by assumption
      have hM:mkL fs ps (Qq fs ps i) i=⟨i,lf0.r,lf0.d,(fs.getD i default).kind⟩:=by(simp only[mkL,hB];rw[if_neg (by omega),if_neg (by omega)])
      refine⟨_,lB fs ps fs.length (i+1),Q0 [0,7] rfl ?_ ?_,⟨i+1,⟨by omega,rfl⟩,.inr rfl⟩,by omega⟩
      ·exact⟨.refl _,.refl _,.refl _,Q8 (by rw[Qc,if_pos hk,h0,List.length_append];rfl),.refl _,.refl _,.refl _,trivial⟩
      ·refine⟨⟨by decide,_,rfl,Q2 ?_ (fLR _ _)⟩,⟨by decide,_,rfl,Q2 ?_ (fL _)⟩,trivial⟩
       ·exact ZB (x:=i) (y:=lf0.r) (z:=lf0.d) (w:=(fs.getD i default).kind) hin hM
       ·(rw[Qc,if_pos hk,hM,h0];rfl))
   ·have hB:Wp (Qq fs ps i) (ps.getD i 0)=QM fs ps i:=by rw[Wp,if_pos hp];rfl
    have hb:=VB (fs:=fs) ha i (by omega) (ps.getD i 0).toNat (by omega)
    change 0≤(QM fs ps i).r∧(QM fs ps i).r≤(QM fs ps i).d∧(QM fs ps i).d≤_ at hb
    have hxp:(ZJ (Qq fs ps i) fs.length).getD (0+(ps.getD i 0).toNat) []=ZO (QM fs ps i):=by rw[Nat.zero_add];exact CP (by omega)
    repeat' first|refine And.intro ?_ ?_|(intro h;(try first|replace h:=of_decide_eq_true h|replace h:=of_decide_eq_false h);(try simp only[Qd,W1,Yi,Qn,Zb,Vr,Vq,Vp,QT,W0,YZ,YY,QC,Vo,Vn,Vm,Vk,YX,YW,YV,YU,Nat.zero_add,Nat.add_zero,Int.toNat_natCast,Int.toNat_zero]at h);try simp only[decide_eq_true_eq,decide_eq_false_iff_not,Int.not_lt,Int.not_le,Int.toNat_natCast,↓reduceIte,Nat.reduceAdd,reduceCtorEq,Int.reduceLT,Int.lt_irrefl,gt_iff_lt,not_true_eq_false,not_false_eq_true,Bool.not_true,Bool.not_false,decide_false,decide_true,Int.reduceLE,Int.reduceSub,Bool.false_eq_true,Bool.true_eq_false,Nat.reduceEqDiff,Nat.one_ne_zero,Nat.reduceLT,and_self,and_true,true_and,Int.natCast_zero,Int.cast_ofNat_Int,List.length_nil,ne_eq,Decidable.not_not]at h)
    all_goals(try first|exact PlanIs.mk (by kernel_rfl)|omega|(show(_:Int)*((32:Nat):Int)≤_;omega)|(show(_:Int)*((8:Nat):Int)≤_;omega)|(show(_:Int)*((24:Nat):Int)≤_;omega)|exact rfl|exact Nat.le_of_ble_eq_true rfl|(show(_:Nat)≤(_:Nat);simp;done)|(show(_:Nat)≤(_:Nat);simp;omega))
    ·exact NoSel.mk (by kernel_rfl)
    refine⟨lS fs ps i false,?_,?_⟩
    · repeat' first|refine And.intro ?_ ?_|(intro h;(try first|replace h:=of_decide_eq_true h|replace h:=of_decide_eq_false h);(try simp only[Qd,W1,Yi,Qn,Zb,Vr,Vq,Vp,QT,W0,YZ,YY,QC,Vo,Vn,Vm,Vk,YX,YW,YV,YU,Nat.zero_add,Nat.add_zero,Int.toNat_natCast,Int.toNat_zero]at h);try simp only[decide_eq_true_eq,decide_eq_false_iff_not,Int.not_lt,Int.not_le,Int.toNat_natCast,↓reduceIte,Nat.reduceAdd,reduceCtorEq,Int.reduceLT,Int.lt_irrefl,gt_iff_lt,not_true_eq_false,not_false_eq_true,Bool.not_true,Bool.not_false,decide_false,decide_true,Int.reduceLE,Int.reduceSub,Bool.false_eq_true,Bool.true_eq_false,Nat.reduceEqDiff,Nat.one_ne_zero,Nat.reduceLT,and_self,and_true,true_and,Int.natCast_zero,Int.cast_ofNat_Int,List.length_nil,ne_eq,Decidable.not_not]at h)
      all_goals(try first|exact PlanIs.mk (by kernel_rfl)|omega|(show(_:Int)*((32:Nat):Int)≤_;omega)|(show(_:Int)*((8:Nat):Int)≤_;omega)|(show(_:Int)*((24:Nat):Int)≤_;omega)|exact rfl|exact Nat.le_of_ble_eq_true rfl|(show(_:Nat)≤(_:Nat);simp;done)|(show(_:Nat)≤(_:Nat);simp;omega))
      all_goals(try exact Apart.mk (by kernel_rfl))
      all_goals(try first|(show isC _ _ (((ZJ (Qq fs ps i) fs.length).getD (0+(ps.getD i 0).toNat) []).getD _ _)=true;rw[hxp];exact rfl)|(show(0:Int)≤ps.getD i 0;omega)|(show ps.getD i 0<(fs.length:Int);omega))
      all_goals
       refine Exists.intro () ?_
       refine Q0 [0,1,3] (by exact rfl) ?_ ?_
       ·exact⟨.refl _,.refl _,.refl _,.refl _,.refl _,.refl _,.refl _,.refl _,.refl _,.refl _,.refl _,trivial⟩
       ·refine⟨⟨by decide,_,rfl,Q2 rfl (fLR _ _)⟩,⟨by decide,_,rfl,Q2 rfl (fF [fs.getD i default])⟩,⟨by decide,_,rfl,Q2 ?_ (fL [_])⟩,trivial⟩
        show[[AVal.int .i64 i,.int .i64 (asI (((ZJ (Qq fs ps i) fs.length).getD (0+(ps.getD i 0).toNat) []).getD 1 .any)),.int .i64 (asI (((ZJ (Qq fs ps i) fs.length).getD (0+(ps.getD i 0).toNat) []).getD 2 .any)),.int .i64 (fs.getD i default).kind]]=_
        rw[hxp];rfl
    repeat' first|refine And.intro ?_ ?_|(intro h;(try first|replace h:=of_decide_eq_true h|replace h:=of_decide_eq_false h);(try simp only[Qd,W1,Yi,Qn,Zb,Vr,Vq,Vp,QT,W0,YZ,YY,QC,Vo,Vn,Vm,Vk,YX,YW,YV,YU,Nat.zero_add,Nat.add_zero,Int.toNat_natCast,Int.toNat_zero]at h);try simp only[decide_eq_true_eq,decide_eq_false_iff_not,Int.not_lt,Int.not_le,Int.toNat_natCast,↓reduceIte,Nat.reduceAdd,reduceCtorEq,Int.reduceLT,Int.lt_irrefl,gt_iff_lt,not_true_eq_false,not_false_eq_true,Bool.not_true,Bool.not_false,decide_false,decide_true,Int.reduceLE,Int.reduceSub,Bool.false_eq_true,Bool.true_eq_false,Nat.reduceEqDiff,Nat.one_ne_zero,Nat.reduceLT,and_self,and_true,true_and,Int.natCast_zero,Int.cast_ofNat_Int,List.length_nil,ne_eq,Decidable.not_not]at h)
    all_goals(try first|exact PlanIs.mk (by kernel_rfl)|omega|(show(_:Int)*((32:Nat):Int)≤_;omega)|(show(_:Int)*((8:Nat):Int)≤_;omega)|(show(_:Int)*((24:Nat):Int)≤_;omega)|exact rfl|exact Nat.le_of_ble_eq_true rfl|(show(_:Nat)≤(_:Nat);simp;done)|(show(_:Nat)≤(_:Nat);simp;omega))
    all_goals(try first|(show(-9223372036854775808:Int)≤(QM fs ps i).r+1;first|decide|omega)|(show(-9223372036854775808:Int)≤(QM fs ps i).d+1;first|decide|omega)|(show(QM fs ps i).r+1≤(9223372036854775807:Int);first|decide|omega)|(show(QM fs ps i).d+1≤(9223372036854775807:Int);first|decide|omega))
    all_goals(try first|(show 0+i<(ZJ (Qq fs ps i) fs.length).length;rw[hln];omega)|(show 0+4≤(List.length ((ZJ (Qq fs ps i) fs.length).getD (0+i) []));rw[Nat.zero_add i,hxi];exact Nat.le_refl 4))
    all_goals first
    |(have hr:(fs.getD i default).rep=2:=by assumption
      have hk:(fs.getD i default).kind=0:=by assumption
      have hM:mkL fs ps (Qq fs ps i) i=⟨i,(QM fs ps i).r+1,(QM fs ps i).d+1,(fs.getD i default).kind⟩:=by(simp only[mkL,hB];rw[if_pos hr,if_pos (by omega)])
      refine⟨_,lA fs ps fs.length (i+1),Q0 [0] rfl ?_ ?_,⟨i+1,⟨by omega,rfl⟩,.inl ⟨by rw[Qc,if_neg (by omega)];exact h0,rfl⟩⟩,by omega⟩
      ·exact⟨.refl _,.refl _,.refl _,.refl _,.refl _,.refl _,.refl _,trivial⟩
      ·refine⟨⟨by decide,_,rfl,Q2 ?_ (fLR _ _)⟩,trivial⟩
       ·exact ZB (x:=i) (y:=(QM fs ps i).r+1) (z:=(QM fs ps i).d+1) (w:=(fs.getD i default).kind) hin hM)
    |(have hr:(fs.getD i default).rep=2:=by assumption
      have hk:¬(fs.getD i default).kind=0:=by assumption
      have hM:mkL fs ps (Qq fs ps i) i=⟨i,(QM fs ps i).r+1,(QM fs ps i).d+1,(fs.getD i default).kind⟩:=by(simp only[mkL,hB];rw[if_pos hr,if_pos (by omega)])
      refine⟨_,lB fs ps fs.length (i+1),Q0 [0,7] rfl ?_ ?_,⟨i+1,⟨by omega,rfl⟩,.inr rfl⟩,by omega⟩
      ·exact⟨.refl _,.refl _,.refl _,Q8 (by rw[Qc,if_pos hk,h0,List.length_append];rfl),.refl _,.refl _,.refl _,trivial⟩
      ·refine⟨⟨by decide,_,rfl,Q2 ?_ (fLR _ _)⟩,⟨by decide,_,rfl,Q2 ?_ (fL _)⟩,trivial⟩
       ·exact ZB (x:=i) (y:=(QM fs ps i).r+1) (z:=(QM fs ps i).d+1) (w:=(fs.getD i default).kind) hin hM
       ·(rw[Qc,if_pos hk,hM,h0];rfl))
    |(have hr:¬(fs.getD i default).rep=2:=by assumption
      have hz:¬(fs.getD i default).rep=0:=by assumption
      have hk:(fs.getD i default).kind=0:=by assumption
      have hM:mkL fs ps (Qq fs ps i) i=⟨i,(QM fs ps i).r,(QM fs ps i).d+1,(fs.getD i default).kind⟩:=by(simp only[mkL,hB];rw[if_neg hr,if_pos hz])
      refine⟨_,lA fs ps fs.length (i+1),Q0 [0] rfl ?_ ?_,⟨i+1,⟨by omega,rfl⟩,.inl ⟨by rw[Qc,if_neg (by omega)];exact h0,rfl⟩⟩,by omega⟩
      ·exact⟨.refl _,.refl _,.refl _,.refl _,.refl _,.refl _,.refl _,trivial⟩
      ·refine⟨⟨by decide,_,rfl,Q2 ?_ (fLR _ _)⟩,trivial⟩
       ·exact ZB (x:=i) (y:=(QM fs ps i).r) (z:=(QM fs ps i).d+1) (w:=(fs.getD i default).kind) hin hM)
    |(have hr:¬(fs.getD i default).rep=2:=by assumption
      have hz:¬(fs.getD i default).rep=0:=by assumption
      have hk:¬(fs.getD i default).kind=0:=by assumption
      have hM:mkL fs ps (Qq fs ps i) i=⟨i,(QM fs ps i).r,(QM fs ps i).d+1,(fs.getD i default).kind⟩:=by(simp only[mkL,hB];rw[if_neg hr,if_pos hz])
      refine⟨_,lB fs ps fs.length (i+1),Q0 [0,6] rfl ?_ ?_,⟨i+1,⟨by omega,rfl⟩,.inr rfl⟩,by omega⟩
      ·exact⟨.refl _,.refl _,.refl _,Q8 (by rw[Qc,if_pos hk,h0,List.length_append];rfl),.refl _,.refl _,.refl _,trivial⟩
      ·refine⟨⟨by decide,_,rfl,Q2 ?_ (fLR _ _)⟩,⟨by decide,_,rfl,Q2 ?_ (fL _)⟩,trivial⟩
       ·exact ZB (x:=i) (y:=(QM fs ps i).r) (z:=(QM fs ps i).d+1) (w:=(fs.getD i default).kind) hin hM
       ·(rw[Qc,if_pos hk,hM,h0];rfl))
    |(have hr:(fs.getD i default).rep=0:=by assumption
      have hk:(fs.getD i default).kind=0:=by assumption
      have hM:mkL fs ps (Qq fs ps i) i=⟨i,(QM fs ps i).r,(QM fs ps i).d,(fs.getD i default).kind⟩:=by(simp only[mkL,hB];rw[if_neg (by omega),if_neg (by omega)])
      refine⟨_,lA fs ps fs.length (i+1),Q0 [0] rfl ?_ ?_,⟨i+1,⟨by omega,rfl⟩,.inl ⟨by rw[Qc,if_neg (by omega)];exact h0,rfl⟩⟩,by omega⟩
      ·exact⟨.refl _,.refl _,.refl _,.refl _,.refl _,.refl _,.refl _,trivial⟩
      ·refine⟨⟨by decide,_,rfl,Q2 ?_ (fLR _ _)⟩,trivial⟩
       ·exact ZB (x:=i) (y:=(QM fs ps i).r) (z:=(QM fs ps i).d) (w:=(fs.getD i default).kind) hin hM)
    |(have hr:(fs.getD i default).rep=0:=by assumption
      have hk:¬(fs.getD i default).kind=0:=by assumption
      have hM:mkL fs ps (Qq fs ps i) i=⟨i,(QM fs ps i).r,(QM fs ps i).d,(fs.getD i default).kind⟩:=by(simp only[mkL,hB];rw[if_neg (by omega),if_neg (by omega)])
      refine⟨_,lB fs ps fs.length (i+1),Q0 [0,5] rfl ?_ ?_,⟨i+1,⟨by omega,rfl⟩,.inr rfl⟩,by omega⟩
      ·exact⟨.refl _,.refl _,.refl _,Q8 (by rw[Qc,if_pos hk,h0,List.length_append];rfl),.refl _,.refl _,.refl _,trivial⟩
      ·refine⟨⟨by decide,_,rfl,Q2 ?_ (fLR _ _)⟩,⟨by decide,_,rfl,Q2 ?_ (fL _)⟩,trivial⟩
       ·exact ZB (x:=i) (y:=(QM fs ps i).r) (z:=(QM fs ps i).d) (w:=(fs.getD i default).kind) hin hM
       ·(rw[Qc,if_pos hk,hM,h0];rfl))
  ·obtain rfl:i=fs.length:=by omega
   repeat' first|refine And.intro ?_ ?_|(intro h;(try first|replace h:=of_decide_eq_true h|replace h:=of_decide_eq_false h);(try simp only[Qd,W1,Yi,Qn,Zb,Vr,Vq,Vp,QT,W0,YZ,YY,QC,Vo,Vn,Vm,Vk,YX,YW,YV,YU,Nat.zero_add,Nat.add_zero,Int.toNat_natCast,Int.toNat_zero]at h);(try simp only[decide_eq_true_eq,decide_eq_false_iff_not,Int.not_lt,Int.not_le,Int.toNat_natCast,↓reduceIte,Nat.reduceAdd,reduceCtorEq,Int.reduceLT,Int.lt_irrefl,gt_iff_lt,not_true_eq_false,not_false_eq_true,Bool.not_true,Bool.not_false,decide_false,decide_true,Int.reduceLE,Int.reduceSub,Bool.false_eq_true,Bool.true_eq_false,Nat.reduceEqDiff,Nat.one_ne_zero,Nat.reduceLT,and_self,and_true,true_and,Int.natCast_zero,Int.cast_ofNat_Int,List.length_nil,ne_eq,Decidable.not_not]at h);try(exfalso;omega))
   all_goals(try first|exact PlanIs.mk (by kernel_rfl)|omega|(show(_:Int)*((32:Nat):Int)≤_;omega)|(show(_:Int)*((8:Nat):Int)≤_;omega)|(show(_:Int)*((24:Nat):Int)≤_;omega)|exact rfl|exact Nat.le_of_ble_eq_true rfl|(show(_:Nat)≤(_:Nat);simp;done)|(show(_:Nat)≤(_:Nat);simp;omega))
   all_goals(try first|exact U0 (enc:=ZO) (z:=4) (fun _=>rfl) _ _ _|(show(0+(Zk fs ps fs.length).length)*32≤_;omega))
   refine⟨_,.refl _ _ _,_,rfl,?_⟩
   refine⟨_,VQ (k:=2) 4 ZO default rfl,_,rfl,?_,rfl⟩
   rw[h0];rfl
 ·have hol:=Zf fs ps i
  have hll:=Zn fs ps i
  by_cases hin:i<fs.length
  ·have hxi:(ZJ (Qq fs ps i) fs.length).getD i []=ZO lf0:=by have:=JW (lv:=Qq fs ps i) (n:=fs.length) (by rw[Zn];exact hin);rwa [Zn]at this
   have hq:=ha i hin
   have hln:(ZJ (Qq fs ps i) fs.length).length=fs.length:=DC (by omega)
   rcases Int.lt_or_le (ps.getD i 0) 0 with hp|hp
   ·have hB:Wp (Qq fs ps i) (ps.getD i 0)=lf0:=by rw[Wp,if_neg (by omega)]
    repeat' first|refine And.intro ?_ ?_|(intro h;(try first|replace h:=of_decide_eq_true h|replace h:=of_decide_eq_false h);(try simp only[Qd,W1,Yi,Qn,Zb,Vr,Vq,Vp,QT,W0,YZ,YY,QC,Vo,Vn,Vm,Vk,YX,YW,YV,YU,Nat.zero_add,Nat.add_zero,Int.toNat_natCast,Int.toNat_zero]at h);try simp only[decide_eq_true_eq,decide_eq_false_iff_not,Int.not_lt,Int.not_le,Int.toNat_natCast,↓reduceIte,Nat.reduceAdd,reduceCtorEq,Int.reduceLT,Int.lt_irrefl,gt_iff_lt,not_true_eq_false,not_false_eq_true,Bool.not_true,Bool.not_false,decide_false,decide_true,Int.reduceLE,Int.reduceSub,Bool.false_eq_true,Bool.true_eq_false,Nat.reduceEqDiff,Nat.one_ne_zero,Nat.reduceLT,and_self,and_true,true_and,Int.natCast_zero,Int.cast_ofNat_Int,List.length_nil,ne_eq,Decidable.not_not]at h)
    all_goals(try first|exact PlanIs.mk (by kernel_rfl)|omega|(show(_:Int)*((32:Nat):Int)≤_;omega)|(show(_:Int)*((8:Nat):Int)≤_;omega)|(show(_:Int)*((24:Nat):Int)≤_;omega)|exact rfl|exact Nat.le_of_ble_eq_true rfl|(show(_:Nat)≤(_:Nat);simp;done)|(show(_:Nat)≤(_:Nat);simp;omega))
    all_goals(try first|(show(-9223372036854775808:Int)≤lf0.r+1;first|decide|omega)|(show(-9223372036854775808:Int)≤lf0.d+1;first|decide|omega)|(show lf0.r+1≤(9223372036854775807:Int);first|decide|omega)|(show lf0.d+1≤(9223372036854775807:Int);first|decide|omega))
    all_goals(try first|(show 0+i<(ZJ (Qq fs ps i) fs.length).length;rw[hln];omega)|(show 0+4≤(List.length ((ZJ (Qq fs ps i) fs.length).getD (0+i) []));rw[Nat.zero_add i,hxi];exact Nat.le_refl 4))
    all_goals first
    |(have hr:(fs.getD i default).rep=2:=by assumption
      have hk:(fs.getD i default).kind=0:=by assumption
      have hM:mkL fs ps (Qq fs ps i) i=⟨i,lf0.r+1,lf0.d+1,(fs.getD i default).kind⟩:=by(simp only[mkL,hB];rw[if_pos hr,if_pos (by omega)])
      refine⟨_,lB fs ps fs.length (i+1),Q0 [0,1] rfl ?_ ?_,⟨i+1,⟨by omega,rfl⟩,.inr rfl⟩,by omega⟩
      ·exact⟨.refl _,.refl _,.refl _,Q8 (by rw[Qc,if_neg (by omega)]),.refl _,.refl _,.refl _,trivial⟩
      ·refine⟨⟨by decide,_,rfl,Q2 ?_ (fLR _ _)⟩,⟨by decide,_,rfl,Q2 ?_ (fL _)⟩,trivial⟩
       ·exact ZB (x:=i) (y:=lf0.r+1) (z:=lf0.d+1) (w:=(fs.getD i default).kind) hin hM
       ·rw[Qc,if_neg (by omega)])
    |(have hr:(fs.getD i default).rep=2:=by assumption
      have hk:¬(fs.getD i default).kind=0:=by assumption
      have hM:mkL fs ps (Qq fs ps i) i=⟨i,lf0.r+1,lf0.d+1,(fs.getD i default).kind⟩:=by(simp only[mkL,hB];rw[if_pos hr,if_pos (by omega)])
      refine⟨_,lB fs ps fs.length (i+1),Q0 [0,10] rfl ?_ ?_,⟨i+1,⟨by omega,rfl⟩,.inr rfl⟩,by omega⟩
      ·exact⟨.refl _,.refl _,.refl _,Q8 (by rw[Qc,if_pos hk,List.length_append];rfl),.refl _,.refl _,.refl _,trivial⟩
      ·refine⟨⟨by decide,_,rfl,Q2 ?_ (fLR _ _)⟩,⟨by decide,_,rfl,Q2 ?_ (fL _)⟩,trivial⟩
       ·exact ZB (x:=i) (y:=lf0.r+1) (z:=lf0.d+1) (w:=(fs.getD i default).kind) hin hM
       ·(rw[Qc,if_pos hk,hM,List.map_append];show List.take _ (List.drop 0 ((Zk fs ps i).map ZO))++[_]=_;rw[List.drop_zero,List.take_of_length_le (by rw[List.length_map];exact Nat.le_refl _)];rfl))
    |(have hr:¬(fs.getD i default).rep=2:=by assumption
      have hz:¬(fs.getD i default).rep=0:=by assumption
      have hk:(fs.getD i default).kind=0:=by assumption
      have hM:mkL fs ps (Qq fs ps i) i=⟨i,lf0.r,lf0.d+1,(fs.getD i default).kind⟩:=by(simp only[mkL,hB];rw[if_neg hr,if_pos hz])
      refine⟨_,lB fs ps fs.length (i+1),Q0 [0,1] rfl ?_ ?_,⟨i+1,⟨by omega,rfl⟩,.inr rfl⟩,by omega⟩
      ·exact⟨.refl _,.refl _,.refl _,Q8 (by rw[Qc,if_neg (by omega)]),.refl _,.refl _,.refl _,trivial⟩
      ·refine⟨⟨by decide,_,rfl,Q2 ?_ (fLR _ _)⟩,⟨by decide,_,rfl,Q2 ?_ (fL _)⟩,trivial⟩
       ·exact ZB (x:=i) (y:=lf0.r) (z:=lf0.d+1) (w:=(fs.getD i default).kind) hin hM
       ·rw[Qc,if_neg (by omega)])
    |(have hr:¬(fs.getD i default).rep=2:=by assumption
      have hz:¬(fs.getD i default).rep=0:=by assumption
      have hk:¬(fs.getD i default).kind=0:=by assumption
      have hM:mkL fs ps (Qq fs ps i) i=⟨i,lf0.r,lf0.d+1,(fs.getD i default).kind⟩:=by(simp only[mkL,hB];rw[if_neg hr,if_pos hz])
      refine⟨_,lB fs ps fs.length (i+1),Q0 [0,9] rfl ?_ ?_,⟨i+1,⟨by omega,rfl⟩,.inr rfl⟩,by omega⟩
      ·exact⟨.refl _,.refl _,.refl _,Q8 (by rw[Qc,if_pos hk,List.length_append];rfl),.refl _,.refl _,.refl _,trivial⟩
      ·refine⟨⟨by decide,_,rfl,Q2 ?_ (fLR _ _)⟩,⟨by decide,_,rfl,Q2 ?_ (fL _)⟩,trivial⟩
       ·exact ZB (x:=i) (y:=lf0.r) (z:=lf0.d+1) (w:=(fs.getD i default).kind) hin hM
       ·(rw[Qc,if_pos hk,hM,List.map_append];show List.take _ (List.drop 0 ((Zk fs ps i).map ZO))++[_]=_;rw[List.drop_zero,List.take_of_length_le (by rw[List.length_map];exact Nat.le_refl _)];rfl))
    |(have hr:(fs.getD i default).rep=0:=by assumption
      have hk:(fs.getD i default).kind=0:=by assumption
      have hM:mkL fs ps (Qq fs ps i) i=⟨i,lf0.r,lf0.d,(fs.getD i default).kind⟩:=by(simp only[mkL,hB];rw[if_neg (by omega),if_neg (by omega)])
      refine⟨_,lB fs ps fs.length (i+1),Q0 [0,1] rfl ?_ ?_,⟨i+1,⟨by omega,rfl⟩,.inr rfl⟩,by omega⟩
      ·exact⟨.refl _,.refl _,.refl _,Q8 (by rw[Qc,if_neg (by omega)]),.refl _,.refl _,.refl _,trivial⟩
      ·refine⟨⟨by decide,_,rfl,Q2 ?_ (fLR _ _)⟩,⟨by decide,_,rfl,Q2 ?_ (fL _)⟩,trivial⟩
       ·exact ZB (x:=i) (y:=lf0.r) (z:=lf0.d) (w:=(fs.getD i default).kind) hin hM
       ·rw[Qc,if_neg (by omega)])
    |(have hr:(fs.getD i default).rep=0:=by assumption
      have hk:¬(fs.getD i default).kind=0:=by assumption
      have hM:mkL fs ps (Qq fs ps i) i=⟨i,lf0.r,lf0.d,(fs.getD i default).kind⟩:=by(simp only[mkL,hB];rw[if_neg (by omega),if_neg (by omega)])
      refine⟨_,lB fs ps fs.length (i+1),Q0 [0,8] rfl ?_ ?_,⟨i+1,⟨by omega,rfl⟩,.inr rfl⟩,by omega⟩
      ·exact⟨.refl _,.refl _,.refl _,Q8 (by rw[Qc,if_pos hk,List.length_append];rfl),.refl _,.refl _,.refl _,trivial⟩
      ·refine⟨⟨by decide,_,rfl,Q2 ?_ (fLR _ _)⟩,⟨by decide,_,rfl,Q2 ?_ (fL _)⟩,trivial⟩
       ·exact ZB (x:=i) (y:=lf0.r) (z:=lf0.d) (w:=(fs.getD i default).kind) hin hM
       ·(rw[Qc,if_pos hk,hM,List.map_append];show List.take _ (List.drop 0 ((Zk fs ps i).map ZO))++[_]=_;rw[List.drop_zero,List.take_of_length_le (by rw[List.length_map];exact Nat.le_refl _)];rfl))
   ·have hB:Wp (Qq fs ps i) (ps.getD i 0)=QM fs ps i:=by rw[Wp,if_pos hp];rfl
    have hb:=VB (fs:=fs) ha i (by omega) (ps.getD i 0).toNat (by omega)
    change 0≤(QM fs ps i).r∧(QM fs ps i).r≤(QM fs ps i).d∧(QM fs ps i).d≤_ at hb
    have hxp:(ZJ (Qq fs ps i) fs.length).getD (0+(ps.getD i 0).toNat) []=ZO (QM fs ps i):=by rw[Nat.zero_add];exact CP (by omega)
    repeat' first|refine And.intro ?_ ?_|(intro h;(try first|replace h:=of_decide_eq_true h|replace h:=of_decide_eq_false h);(try simp only[Qd,W1,Yi,Qn,Zb,Vr,Vq,Vp,QT,W0,YZ,YY,QC,Vo,Vn,Vm,Vk,YX,YW,YV,YU,Nat.zero_add,Nat.add_zero,Int.toNat_natCast,Int.toNat_zero]at h);try simp only[decide_eq_true_eq,decide_eq_false_iff_not,Int.not_lt,Int.not_le,Int.toNat_natCast,↓reduceIte,Nat.reduceAdd,reduceCtorEq,Int.reduceLT,Int.lt_irrefl,gt_iff_lt,not_true_eq_false,not_false_eq_true,Bool.not_true,Bool.not_false,decide_false,decide_true,Int.reduceLE,Int.reduceSub,Bool.false_eq_true,Bool.true_eq_false,Nat.reduceEqDiff,Nat.one_ne_zero,Nat.reduceLT,and_self,and_true,true_and,Int.natCast_zero,Int.cast_ofNat_Int,List.length_nil,ne_eq,Decidable.not_not]at h)
    all_goals(try first|exact PlanIs.mk (by kernel_rfl)|omega|(show(_:Int)*((32:Nat):Int)≤_;omega)|(show(_:Int)*((8:Nat):Int)≤_;omega)|(show(_:Int)*((24:Nat):Int)≤_;omega)|exact rfl|exact Nat.le_of_ble_eq_true rfl|(show(_:Nat)≤(_:Nat);simp;done)|(show(_:Nat)≤(_:Nat);simp;omega))
    ·exact NoSel.mk (by kernel_rfl)
    refine⟨lS fs ps i true,?_,?_⟩
    · repeat' first|refine And.intro ?_ ?_|(intro h;(try first|replace h:=of_decide_eq_true h|replace h:=of_decide_eq_false h);(try simp only[Qd,W1,Yi,Qn,Zb,Vr,Vq,Vp,QT,W0,YZ,YY,QC,Vo,Vn,Vm,Vk,YX,YW,YV,YU,Nat.zero_add,Nat.add_zero,Int.toNat_natCast,Int.toNat_zero]at h);try simp only[decide_eq_true_eq,decide_eq_false_iff_not,Int.not_lt,Int.not_le,Int.toNat_natCast,↓reduceIte,Nat.reduceAdd,reduceCtorEq,Int.reduceLT,Int.lt_irrefl,gt_iff_lt,not_true_eq_false,not_false_eq_true,Bool.not_true,Bool.not_false,decide_false,decide_true,Int.reduceLE,Int.reduceSub,Bool.false_eq_true,Bool.true_eq_false,Nat.reduceEqDiff,Nat.one_ne_zero,Nat.reduceLT,and_self,and_true,true_and,Int.natCast_zero,Int.cast_ofNat_Int,List.length_nil,ne_eq,Decidable.not_not]at h)
      all_goals(try first|exact PlanIs.mk (by kernel_rfl)|omega|(show(_:Int)*((32:Nat):Int)≤_;omega)|(show(_:Int)*((8:Nat):Int)≤_;omega)|(show(_:Int)*((24:Nat):Int)≤_;omega)|exact rfl|exact Nat.le_of_ble_eq_true rfl|(show(_:Nat)≤(_:Nat);simp;done)|(show(_:Nat)≤(_:Nat);simp;omega))
      all_goals(try exact Apart.mk (by kernel_rfl))
      all_goals(try first|(show isC _ _ (((ZJ (Qq fs ps i) fs.length).getD (0+(ps.getD i 0).toNat) []).getD _ _)=true;rw[hxp];exact rfl)|(show(0:Int)≤ps.getD i 0;omega)|(show ps.getD i 0<(fs.length:Int);omega))
      all_goals
       refine Exists.intro () ?_
       refine Q0 [0,1,2,4] (by exact rfl) ?_ ?_
       ·exact⟨.refl _,.refl _,.refl _,.refl _,.refl _,.refl _,.refl _,.refl _,.refl _,.refl _,.refl _,trivial⟩
       ·refine⟨⟨by decide,_,rfl,Q2 rfl (fLR _ _)⟩,⟨by decide,_,rfl,Q2 rfl (fL _)⟩,⟨by decide,_,rfl,Q2 rfl (fF [fs.getD i default])⟩,⟨by decide,_,rfl,Q2 ?_ (fL [_])⟩,trivial⟩
        show[[AVal.int .i64 i,.int .i64 (asI (((ZJ (Qq fs ps i) fs.length).getD (0+(ps.getD i 0).toNat) []).getD 1 .any)),.int .i64 (asI (((ZJ (Qq fs ps i) fs.length).getD (0+(ps.getD i 0).toNat) []).getD 2 .any)),.int .i64 (fs.getD i default).kind]]=_
        rw[hxp];rfl
    repeat' first|refine And.intro ?_ ?_|(intro h;(try first|replace h:=of_decide_eq_true h|replace h:=of_decide_eq_false h);(try simp only[Qd,W1,Yi,Qn,Zb,Vr,Vq,Vp,QT,W0,YZ,YY,QC,Vo,Vn,Vm,Vk,YX,YW,YV,YU,Nat.zero_add,Nat.add_zero,Int.toNat_natCast,Int.toNat_zero]at h);try simp only[decide_eq_true_eq,decide_eq_false_iff_not,Int.not_lt,Int.not_le,Int.toNat_natCast,↓reduceIte,Nat.reduceAdd,reduceCtorEq,Int.reduceLT,Int.lt_irrefl,gt_iff_lt,not_true_eq_false,not_false_eq_true,Bool.not_true,Bool.not_false,decide_false,decide_true,Int.reduceLE,Int.reduceSub,Bool.false_eq_true,Bool.true_eq_false,Nat.reduceEqDiff,Nat.one_ne_zero,Nat.reduceLT,and_self,and_true,true_and,Int.natCast_zero,Int.cast_ofNat_Int,List.length_nil,ne_eq,Decidable.not_not]at h)
    all_goals(try first|exact PlanIs.mk (by kernel_rfl)|omega|(show(_:Int)*((32:Nat):Int)≤_;omega)|(show(_:Int)*((8:Nat):Int)≤_;omega)|(show(_:Int)*((24:Nat):Int)≤_;omega)|exact rfl|exact Nat.le_of_ble_eq_true rfl|(show(_:Nat)≤(_:Nat);simp;done)|(show(_:Nat)≤(_:Nat);simp;omega))
    all_goals(try first|(show(-9223372036854775808:Int)≤(QM fs ps i).r+1;first|decide|omega)|(show(-9223372036854775808:Int)≤(QM fs ps i).d+1;first|decide|omega)|(show(QM fs ps i).r+1≤(9223372036854775807:Int);first|decide|omega)|(show(QM fs ps i).d+1≤(9223372036854775807:Int);first|decide|omega))
    all_goals(try first|(show 0+i<(ZJ (Qq fs ps i) fs.length).length;rw[hln];omega)|(show 0+4≤(List.length ((ZJ (Qq fs ps i) fs.length).getD (0+i) []));rw[Nat.zero_add i,hxi];exact Nat.le_refl 4))
    all_goals first
    |(have hr:(fs.getD i default).rep=2:=by assumption
      have hk:(fs.getD i default).kind=0:=by assumption
      have hM:mkL fs ps (Qq fs ps i) i=⟨i,(QM fs ps i).r+1,(QM fs ps i).d+1,(fs.getD i default).kind⟩:=by(simp only[mkL,hB];rw[if_pos hr,if_pos (by omega)])
      refine⟨_,lB fs ps fs.length (i+1),Q0 [0,1] rfl ?_ ?_,⟨i+1,⟨by omega,rfl⟩,.inr rfl⟩,by omega⟩
      ·exact⟨.refl _,.refl _,.refl _,Q8 (by rw[Qc,if_neg (by omega)]),.refl _,.refl _,.refl _,trivial⟩
      ·refine⟨⟨by decide,_,rfl,Q2 ?_ (fLR _ _)⟩,⟨by decide,_,rfl,Q2 ?_ (fL _)⟩,trivial⟩
       ·exact ZB (x:=i) (y:=(QM fs ps i).r+1) (z:=(QM fs ps i).d+1) (w:=(fs.getD i default).kind) hin hM
       ·rw[Qc,if_neg (by omega)])
    |(have hr:(fs.getD i default).rep=2:=by assumption
      have hk:¬(fs.getD i default).kind=0:=by assumption
      have hM:mkL fs ps (Qq fs ps i) i=⟨i,(QM fs ps i).r+1,(QM fs ps i).d+1,(fs.getD i default).kind⟩:=by(simp only[mkL,hB];rw[if_pos hr,if_pos (by omega)])
      refine⟨_,lB fs ps fs.length (i+1),Q0 [0,8] rfl ?_ ?_,⟨i+1,⟨by omega,rfl⟩,.inr rfl⟩,by omega⟩
      ·exact⟨.refl _,.refl _,.refl _,Q8 (by rw[Qc,if_pos hk,List.length_append];rfl),.refl _,.refl _,.refl _,trivial⟩
      ·refine⟨⟨by decide,_,rfl,Q2 ?_ (fLR _ _)⟩,⟨by decide,_,rfl,Q2 ?_ (fL _)⟩,trivial⟩
       ·exact ZB (x:=i) (y:=(QM fs ps i).r+1) (z:=(QM fs ps i).d+1) (w:=(fs.getD i default).kind) hin hM
       ·(rw[Qc,if_pos hk,hM,List.map_append];show List.take _ (List.drop 0 ((Zk fs ps i).map ZO))++[_]=_;rw[List.drop_zero,List.take_of_length_le (by rw[List.length_map];exact Nat.le_refl _)];rfl))
    |(have hr:¬(fs.getD i default).rep=2:=by assumption
      have hz:¬(fs.getD i default).rep=0:=by assumption
      have hk:(fs.getD i default).kind=0:=by assumption
      have hM:mkL fs ps (Qq fs ps i) i=⟨i,(QM fs ps i).r,(QM fs ps i).d+1,(fs.getD i default).kind⟩:=by(simp only[mkL,hB];rw[if_neg hr,if_pos hz])
      refine⟨_,lB fs ps fs.length (i+1),Q0 [0,1] rfl ?_ ?_,⟨i+1,⟨by omega,rfl⟩,.inr rfl⟩,by omega⟩
      ·exact⟨.refl _,.refl _,.refl _,Q8 (by rw[Qc,if_neg (by omega)]),.refl _,.refl _,.refl _,trivial⟩
      ·refine⟨⟨by decide,_,rfl,Q2 ?_ (fLR _ _)⟩,⟨by decide,_,rfl,Q2 ?_ (fL _)⟩,trivial⟩
       ·exact ZB (x:=i) (y:=(QM fs ps i).r) (z:=(QM fs ps i).d+1) (w:=(fs.getD i default).kind) hin hM
       ·rw[Qc,if_neg (by omega)])
    |(have hr:¬(fs.getD i default).rep=2:=by assumption
      have hz:¬(fs.getD i default).rep=0:=by assumption
      have hk:¬(fs.getD i default).kind=0:=by assumption
      have hM:mkL fs ps (Qq fs ps i) i=⟨i,(QM fs ps i).r,(QM fs ps i).d+1,(fs.getD i default).kind⟩:=by(simp only[mkL,hB];rw[if_neg hr,if_pos hz])
      refine⟨_,lB fs ps fs.length (i+1),Q0 [0,7] rfl ?_ ?_,⟨i+1,⟨by omega,rfl⟩,.inr rfl⟩,by omega⟩
      ·exact⟨.refl _,.refl _,.refl _,Q8 (by rw[Qc,if_pos hk,List.length_append];rfl),.refl _,.refl _,.refl _,trivial⟩
      ·refine⟨⟨by decide,_,rfl,Q2 ?_ (fLR _ _)⟩,⟨by decide,_,rfl,Q2 ?_ (fL _)⟩,trivial⟩
       ·exact ZB (x:=i) (y:=(QM fs ps i).r) (z:=(QM fs ps i).d+1) (w:=(fs.getD i default).kind) hin hM
       ·(rw[Qc,if_pos hk,hM,List.map_append];show List.take _ (List.drop 0 ((Zk fs ps i).map ZO))++[_]=_;rw[List.drop_zero,List.take_of_length_le (by rw[List.length_map];exact Nat.le_refl _)];rfl))
    |(have hr:(fs.getD i default).rep=0:=by assumption
      have hk:(fs.getD i default).kind=0:=by assumption
      have hM:mkL fs ps (Qq fs ps i) i=⟨i,(QM fs ps i).r,(QM fs ps i).d,(fs.getD i default).kind⟩:=by(simp only[mkL,hB];rw[if_neg (by omega),if_neg (by omega)])
      refine⟨_,lB fs ps fs.length (i+1),Q0 [0,1] rfl ?_ ?_,⟨i+1,⟨by omega,rfl⟩,.inr rfl⟩,by omega⟩
      ·exact⟨.refl _,.refl _,.refl _,Q8 (by rw[Qc,if_neg (by omega)]),.refl _,.refl _,.refl _,trivial⟩
      ·refine⟨⟨by decide,_,rfl,Q2 ?_ (fLR _ _)⟩,⟨by decide,_,rfl,Q2 ?_ (fL _)⟩,trivial⟩
       ·exact ZB (x:=i) (y:=(QM fs ps i).r) (z:=(QM fs ps i).d) (w:=(fs.getD i default).kind) hin hM
       ·rw[Qc,if_neg (by omega)])
    |(have hr:(fs.getD i default).rep=0:=by assumption
      have hk:¬(fs.getD i default).kind=0:=by assumption
      have hM:mkL fs ps (Qq fs ps i) i=⟨i,(QM fs ps i).r,(QM fs ps i).d,(fs.getD i default).kind⟩:=by(simp only[mkL,hB];rw[if_neg (by omega),if_neg (by omega)])
      refine⟨_,lB fs ps fs.length (i+1),Q0 [0,6] rfl ?_ ?_,⟨i+1,⟨by omega,rfl⟩,.inr rfl⟩,by omega⟩
      ·exact⟨.refl _,.refl _,.refl _,Q8 (by rw[Qc,if_pos hk,List.length_append];rfl),.refl _,.refl _,.refl _,trivial⟩
      ·refine⟨⟨by decide,_,rfl,Q2 ?_ (fLR _ _)⟩,⟨by decide,_,rfl,Q2 ?_ (fL _)⟩,trivial⟩
       ·exact ZB (x:=i) (y:=(QM fs ps i).r) (z:=(QM fs ps i).d) (w:=(fs.getD i default).kind) hin hM
       ·(rw[Qc,if_pos hk,hM,List.map_append];show List.take _ (List.drop 0 ((Zk fs ps i).map ZO))++[_]=_;rw[List.drop_zero,List.take_of_length_le (by rw[List.length_map];exact Nat.le_refl _)];rfl))
  ·obtain rfl:i=fs.length:=by omega
   repeat' first|refine And.intro ?_ ?_|(intro h;(try first|replace h:=of_decide_eq_true h|replace h:=of_decide_eq_false h);(try simp only[Qd,W1,Yi,Qn,Zb,Vr,Vq,Vp,QT,W0,YZ,YY,QC,Vo,Vn,Vm,Vk,YX,YW,YV,YU,Nat.zero_add,Nat.add_zero,Int.toNat_natCast,Int.toNat_zero]at h);(try simp only[decide_eq_true_eq,decide_eq_false_iff_not,Int.not_lt,Int.not_le,Int.toNat_natCast,↓reduceIte,Nat.reduceAdd,reduceCtorEq,Int.reduceLT,Int.lt_irrefl,gt_iff_lt,not_true_eq_false,not_false_eq_true,Bool.not_true,Bool.not_false,decide_false,decide_true,Int.reduceLE,Int.reduceSub,Bool.false_eq_true,Bool.true_eq_false,Nat.reduceEqDiff,Nat.one_ne_zero,Nat.reduceLT,and_self,and_true,true_and,Int.natCast_zero,Int.cast_ofNat_Int,List.length_nil,ne_eq,Decidable.not_not]at h);try(exfalso;omega))
   all_goals(try first|exact PlanIs.mk (by kernel_rfl)|omega|(show(_:Int)*((32:Nat):Int)≤_;omega)|(show(_:Int)*((8:Nat):Int)≤_;omega)|(show(_:Int)*((24:Nat):Int)≤_;omega)|exact rfl|exact Nat.le_of_ble_eq_true rfl|(show(_:Nat)≤(_:Nat);simp;done)|(show(_:Nat)≤(_:Nat);simp;omega))
   all_goals(try first|exact U0 (enc:=ZO) (z:=4) (fun _=>rfl) _ _ _|(show(0+(Zk fs ps fs.length).length)*32≤_;omega))
   ·refine⟨_,.refl _ _ _,_,rfl,?_⟩
    refine⟨_,VQ (k:=2) 4 ZO default rfl,_,rfl,?_,rfl⟩
    have h0:Zk fs ps fs.length=[]:=List.eq_nil_of_length_eq_zero (by omega)
    rw[h0];rfl
   ·refine⟨_,.refl _ _ _,_,rfl,?_⟩
    refine⟨_,YS (enc:=ZO) (k:=2) default (l:=Zk fs ps fs.length) rfl rfl (QA QL (G2 (fL _))) ?_ ?_,_,rfl,rfl,rfl⟩
    ·show List.take (0+(Zk fs ps fs.length).length) ([]++List.take (Zk fs ps fs.length).length (List.drop 0 ((Zk fs ps fs.length).map ZO)))=_
     rw[List.nil_append,List.drop_zero,Nat.zero_add,List.take_take,Nat.min_self]
     exact List.take_of_length_le (Nat.le_of_eq (List.length_map ..))
    ·show 0+(Zk fs ps fs.length).length≤([]++List.take (Zk fs ps fs.length).length (List.drop 0 ((Zk fs ps fs.length).map ZO))).length
     simp
end
def S_leaves:SpecI:=fun args K=>∃fs,args=[vF fs]∧FsOk fs∧K (vL (Qt fs))
theorem DA[Syms]:Zs Try.prog 44 S_leaves:=by
 rintro args K ⟨fs,rfl,h,hk⟩
 exact⟨rfl,_,rfl,hk,fnI Qf Qg Q3 (Qh NM (Xn (XY Qf Qg Q3 Q9 Qw) Q9)) Qw (Ob fs h)⟩
section
set_option maxRecDepth 100000
set_option maxHeartbeats 4000000
theorem Ft:∀(k:Nat) (r:BR) (s:List Fd),Wh s→Wh (Zi k r s).1∧(Zi k r s).1.length≤s.length+k
 |0,r,s,h=>⟨h,Nat.le_refl _⟩
 |k+1,r,s,h=>by
  rw[Zi]
  split
  ·exact⟨h,by dsimp only;omega⟩
  ·obtain⟨h1,h2⟩:=Ft k (fieldR r).2 (s++[(fieldR r).1]) (h.snoc r)
   exact⟨h1,by rw[List.length_append]at h2;simp at h2;omega⟩
theorem Kf(b:List UInt8):Wh (ZD b).1∧(ZD b).1.length≤40:=by
 show Wh (V8 _ _).1∧(V8 _ _).1.length≤40
 obtain⟨h1,h2⟩:=Ft (QD 40 4 ⟨b,0⟩).1 (QD 40 4 ⟨b,0⟩).2 [] (fun f hf=>nomatch hf)
 have h3:=Zr (m:=40) (w:=4) (by decide) ⟨b,0⟩
 generalize Zi (QD 40 4 ⟨b,0⟩).1 (QD 40 4 ⟨b,0⟩).2 []=q at *
 have key:∀r':BR,Wh (if r'.e≠0 then(([]:List Fd),r'.e)else(q.1,0)).1∧(if r'.e≠0 then(([]:List Fd),r'.e)else(q.1,0)).1.length≤40:=by
  intro r'
  split
  ·exact⟨fun f hf=>(nomatch hf),Nat.zero_le _⟩
  ·exact⟨h1,by simp at h2 ⊢;omega⟩
 exact key _
abbrev cFme[Syms]:CallT:=Q6 55 (QG FX) (Q6 54 (QG JB) (Q6 27 (QG UT) (Q6 57 (QG UD) (Q6 56 (X0 S_prs) (Q6 44 (X0 S_leaves) (Q6 58 (QG JC) (Q6 59 (FG Q7 Q7 (Qx fns) (Qo tys) (Qz plt) 100) Q7)))))))
theorem Sa[Syms]:cFme.ok Try.prog:=Q4 M7 (Q4 J4 (Q4 Uu (Q4 UN (Qh T8 (Qh DA (Q4 LH (Xn (XY Qf Qg Q3 Q9 Qw) Q9)))))))
noncomputable def plMe:Nat→Nat→Pl:=XD [(26,14),(26,16),(26,11)] (Qz plt)
abbrev QK(s:AVal)(n:Int)(g:AVal):List AVal:=[s,.int .i64 n,g]
def meS(ls:List Lf)(n i:Nat)(q:BR)(s:List Fd)(c:Int)(gs:List Rw):St:=⟨[(0,.ptr 0 0 0),(2,.ptr 1 0 0),(3,.ptr 2 0 0),(8,vL ls),(36,.int .i64 n),(37,.int .i64 i)],[(0,rdB q),(1,some (.cells [QK .nils 0 .nils] false)),(2,some (.cells [QK (vF s) c (.slice 3 0 gs.length 2 none)] false)),(3,some (.cells (gs.map encR) false))],4⟩
def meN(ls:List Lf)(n i:Nat)(q:BR)(s:List Fd)(c:Int):St:=⟨[(0,.ptr 0 0 0),(2,.ptr 1 0 0),(3,.ptr 2 0 0),(8,vL ls),(36,.int .i64 n),(37,.int .i64 i)],[(0,rdB q),(1,some (.cells [QK .nils 0 .nils] false)),(2,some (.cells [QK (vF s) c .nils] false))],3⟩
def meF(q:BR)(s:List Fd)(c:Int)(gs:List Rw):St:=⟨[(0,.ptr 0 0 0),(2,.ptr 1 0 0),(3,.ptr 2 0 0)],[(0,rdB q),(1,some (.cells [QK .nils 0 .nils] false)),(2,some (.cells [QK (vF s) c (.vs 2 (gs.map encR))] false))],3⟩
theorem Kh[Syms]{N K nx:Nat}{e:Env}{H:Heap}{ls:List Lf}{c i1:Int}{n i:Nat}{q:BR}{s:List Fd}{gs:List Rw}{rows:List (List AVal)}{len:Nat}(hn:QJ 1 nx [0,1,2,K]=true)(h0:e.get 0= .ptr 0 0 0)(h2:e.get 2= .ptr 1 0 0)(h3:e.get 3= .ptr 2 0 0)(h8:e.get 8=vL ls)(h36:e.get 36= .int .i64 n)(h37:e.get 37= .int .i64 i1)(hi:i1=i)
 (H0:H.get 0=rdB q) (H1:H.get 1=some (.cells [QK .nils 0 .nils] false)) (H2:H.get 2=some (.cells [QK (vF s) c (.slice K 0 len 2 none)] false)) (HK:H.get K=some (.cells rows false)) (hr:rows=gs.map encR) (hl:len=gs.length):Reb 1 N ⟨e,H,nx⟩ (meS ls n i q s c gs):=by
 subst hr hl hi
 exact Q0 [0,1,2,K] hn ⟨by rw[h0];exact .refl _,by rw[h2];exact .refl _,by rw[h3];exact .refl _,by rw[h8];exact .refl _,by rw[h36];exact .refl _,by rw[h37];exact .refl _,trivial⟩
  ⟨⟨show 0<4 by decide,_,H0,.refl _⟩,⟨show 1<4 by decide,_,H1,.refl _⟩,⟨show 2<4 by decide,_,H2,.refl _⟩,⟨show 3<4 by decide,_,HK,Qa (fR _)⟩,trivial⟩
theorem Rj[Syms]{N K nx:Nat}{e:Env}{H:Heap}{c:Int}{q:BR}{s:List Fd}{gs:List Rw}{rows:List (List AVal)}{len:Nat}(hp:0<gs.length)(hn:QJ 1 nx [0,1,2,K]=true)(h0:e.get 0= .ptr 0 0 0)(h2:e.get 2= .ptr 1 0 0)(h3:e.get 3= .ptr 2 0 0)
 (H0:H.get 0=rdB q) (H1:H.get 1=some (.cells [QK .nils 0 .nils] false)) (H2:H.get 2=some (.cells [QK (vF s) c (.slice K 0 len 2 none)] false)) (HK:H.get K=some (.cells rows false)) (hr:rows=gs.map encR) (hl:len=gs.length):Reb 1 N ⟨e,H,nx⟩ (meF q s c gs):=by
 subst hr hl
 have hcut:((gs.map encR).drop 0).take gs.length=gs.map encR:=by rw[List.drop_zero,List.take_of_length_le (by simp)]
 have hs:FzV 3 (gs.map encR) (.slice 3 0 gs.length 2 none) (.vs 2 (gs.map encR)):=by
  have:=FzV.sl (n:=3) (rows:=gs.map encR) 0 gs.length 2 none hp (by simp)
  rwa [hcut]at this
 refine(Q0 (e3:=[(0,.ptr 0 0 0),(2,.ptr 1 0 0),(3,.ptr 2 0 0)]) (H3:=[(0,rdB q),(1,some (.cells [QK .nils 0 .nils] false)),(2,some (.cells [QK (vF s) c (.slice 3 0 gs.length 2 none)] false)),(3,some (.cells (gs.map encR) false))]) [0,1,2,K] hn ⟨by rw[h0];exact .refl _,by rw[h2];exact .refl _,by rw[h3];exact .refl _,trivial⟩
  ⟨⟨show 0<4 by decide,_,H0,.refl _⟩,⟨show 1<4 by decide,_,H1,.refl _⟩,⟨show 2<4 by decide,_,H2,.refl _⟩,⟨show 3<4 by decide,_,HK,Qa (fR _)⟩,trivial⟩).trans ?_
 refine(QH (n:=3) (e3:=[(0,.ptr 0 0 0),(2,.ptr 1 0 0),(3,.ptr 2 0 0)]) (H3:=[(0,rdB q),(1,some (.cells [QK .nils 0 .nils] false)),(2,some (.cells [QK (vF s) c (.vs 2 (gs.map encR))] false))]) rfl (fR gs) ⟨.same _,.same _,.same _,trivial⟩
  ⟨⟨by decide,_,rfl,.same _⟩,⟨by decide,_,rfl,.same _⟩,⟨by decide,_,rfl,.cells [QK (vF s) c (.slice 3 0 gs.length 2 none)] [QK (vF s) c (.vs 2 (gs.map encR))] false rfl (fun j r r' h h'=>?_)⟩,trivial⟩).trans (Q0 [0,1,2] rfl ⟨.refl _,.refl _,.refl _,trivial⟩ ⟨⟨by decide,_,rfl,.refl _⟩,⟨by decide,_,rfl,.refl _⟩,⟨by decide,_,rfl,.refl _⟩,trivial⟩)
 cases j with
 |zero=>
  cases h;cases h'
  exact⟨.same _,.same _,hs,trivial⟩
 |succ j=>simp at h
theorem O2[Syms]{N nx:Nat}{e:Env}{H:Heap}{c:Int}{q:BR}{s:List Fd}(hn:QJ 1 nx [0,1,2]=true)(h0:e.get 0= .ptr 0 0 0)(h2:e.get 2= .ptr 1 0 0)(h3:e.get 3= .ptr 2 0 0)
 (H0:H.get 0=rdB q) (H1:H.get 1=some (.cells [QK .nils 0 .nils] false)) (H2:H.get 2=some (.cells [QK (vF s) c .nils] false)):Reb 1 N ⟨e,H,nx⟩ (meF q s c []):=
 Q0 [0,1,2] hn ⟨by rw[h0];exact .refl _,by rw[h2];exact .refl _,by rw[h3];exact .refl _,trivial⟩
  ⟨⟨show 0<3 by decide,_,H0,.refl _⟩,⟨show 1<3 by decide,_,H1,.refl _⟩,⟨show 2<3 by decide,_,H2,QE (row:=QK (vF s) c (.vs 2 [])) ⟨.refl _,.refl _,.zero _ _ rfl,trivial⟩⟩,trivial⟩
theorem eM(m:Mt):∀x∈Qv m,x.flat=true:=fun x hx=>by simp[Qv]at hx;rcases hx with rfl|rfl|rfl<;>rfl
theorem U6(ps:List Rw)(p:Rw):List.take ps.length (List.drop 0 (ps.map encR))++[encR p]=(ps++[p]).map encR:=by
 rw[List.drop_zero,List.take_of_length_le (by simp),List.map_append];rfl
theorem J2(ks:List Int)(k:Nat)(r:BR)(s:List Rw)(h:r.e=0):Za ks (k+1) r s=Za ks k (Zo ks r).2 (s++[(Zo ks r).1]):=by
 rw[Za,if_neg (fun x=>x h)]
theorem Ww(ks:List Int)(k:Nat)(r:BR)(s:List Rw)(h:r.e≠0):Za ks k r s=(s,r):=by
 cases k with
 |zero=>rfl
 |succ k=>rw[Za,if_pos h]
theorem RA[Syms]{Post:AVal→Heap→Nat→Prop}(r:BR)(hl:r.b.length≤1000000)(hP:Post (.agg (Qv (W5 r).1)) [(0,rdB (W5 r).2)] 2):
 fnT Q7 cFme (Qx fns) (Qo tys) plMe 100 26 [.ptr 0 0 0] [(0,rdB r)] 1 (Vv Post):=by
 unfold W5 at hP
 dsimp only at hP
 repeat' first|refine And.intro ?_ ?_|(intro h;try first|exact dz|replace h:=cv)
 all_goals try exact cz
 refine⟨[0],[.ptr 0 0 0,.int .i64 ((2000:Nat):Int),.int .i64 5],[(0,rdB r)],rfl,⟨.refl _,.refl _,.refl _,trivial⟩,⟨⟨by decide,_,rfl,.refl _⟩,trivial⟩,r,2000,5,rfl,rfl,rfl,⟨by omega,by omega,by decide⟩,?_⟩
 have l_r1:(QD 2000 5 r).2.b.length≤r.b.length:=QR _ _ _
 have n_v1:(QD 2000 5 r).1≤2000:=Zr (by decide) _
 generalize QD 2000 5 r=q at *
 obtain⟨v1,r1⟩:=q
 replace l_r1:r1.b.length≤r.b.length:=l_r1
 replace n_v1:v1≤2000:=n_v1
 dsimp only at hP
 refine⟨[0],[.ptr 0 0 0,.int .i64 (v1:Nat)],[(0,rdB r1)],rfl,⟨.refl _,.refl _,trivial⟩,⟨⟨by decide,_,rfl,.refl _⟩,trivial⟩,r1,v1,rfl,rfl,rfl,⟨by omega,by omega⟩,?_⟩
 have l_r2:(QF v1 r1).2.b.length≤r1.b.length:=Vu _ _
 have l_t:(QF v1 r1).1.length≤v1:=KJ _ _
 generalize QF v1 r1=y at *
 obtain⟨t,r2⟩:=y
 replace l_r2:r2.b.length≤r1.b.length:=l_r2
 replace l_t:t.length≤v1:=l_t
 dsimp only at hP
 have hx1:=fun ρ=>YB ρ r2.b r2.e
 have hx2:=hx1
 have hx3:=hx1
 have hx4:=hx1
 by_cases h0:r2.e=0
 ·rw[if_neg (fun h=>h h0)]at hP
  repeat' first|refine And.intro ?_ ?_|(intro h;try first|exact dzi|replace h:=cvi)
  all_goals try exact cz
  refine⟨t,rfl,by omega,?_⟩
  have hok:=Kf t
  generalize ZD t=y at *
  obtain⟨s,x⟩:=y
  dsimp only at hP hok
  obtain⟨hok,hs40⟩:=hok
  have hfs:=hok.fs hs40
  have hkin:QS s=Q5 (Qt s):=rfl
  have hll:(Qt s).length≤1000:=by have:(Qt s).length≤s.length:=Zf _ _ _;omega
  rw[hkin]at hP
  repeat' first|refine And.intro ?_ ?_|(intro h;try first|exact dz|replace h:=cv)
  all_goals try exact cz
  refine⟨[0],[.ptr 0 0 0,.int .i64 x],[(0,rdB r2)],rfl,⟨.refl _,.refl _,trivial⟩,⟨⟨by decide,_,rfl,.refl _⟩,trivial⟩,r2,x,rfl,rfl,rfl,?_⟩
  have l_r3:(Qy r2 x).b.length≤r2.b.length:=by rw[Bz];exact Nat.le_refl _
  generalize Qy r2 x=r3 at *
  repeat' first|refine And.intro ?_ ?_|(intro h;try first|exact dz|replace h:=cv)
  all_goals try exact cz
  refine⟨[0],[.ptr 0 0 0],[(0,rdB r3)],rfl,⟨.refl _,trivial⟩,⟨⟨by decide,_,rfl,.refl _⟩,trivial⟩,r3,rfl,rfl,rfl,by omega,?_⟩
  have l_r4:(plainR r3).2.b.length≤r3.b.length:=QR _ _ _
  have n_c:(plainR r3).1≤1048576:=Zr (by decide) _
  generalize plainR r3=q at *
  obtain⟨c,r4⟩:=q
  replace l_r4:r4.b.length≤r3.b.length:=l_r4
  replace n_c:c≤1048576:=n_c
  dsimp only at hP
  repeat' first|refine And.intro ?_ ?_|(intro h;try first|exact dz|replace h:=cv)
  all_goals try exact cz
  refine⟨[0],[.ptr 0 0 0,.int .i64 ((200:Nat):Int),.int .i64 4],[(0,rdB r4)],rfl,⟨.refl _,.refl _,.refl _,trivial⟩,⟨⟨by decide,_,rfl,.refl _⟩,trivial⟩,r4,200,4,rfl,rfl,rfl,⟨by omega,by omega,by decide⟩,?_⟩
  have l_r5:(QD 200 4 r4).2.b.length≤r4.b.length:=QR _ _ _
  have n_n:(QD 200 4 r4).1≤200:=Zr (by decide) _
  generalize QD 200 4 r4=q at *
  obtain⟨n,r5⟩:=q
  replace l_r5:r5.b.length≤r4.b.length:=l_r5
  replace n_n:n≤200:=n_n
  dsimp only at hP
  repeat' first|refine And.intro ?_ ?_|(intro h;try first|exact dz|replace h:=cv)
  all_goals try exact cz
  refine⟨s,rfl,hfs,?_⟩
  generalize Qt s=ls at *
  repeat' first|refine And.intro ?_ ?_|(intro h;try first|exact dz|replace h:=cv)
  all_goals try exact cz
  refine⟨meN ls n 0 r5 s c,Q0 [0,1,2] (by exact rfl) ⟨.refl _,.refl _,.refl _,.refl _,.refl _,.refl _,trivial⟩ ⟨⟨by decide,_,rfl,.refl _⟩,⟨by decide,_,rfl,.refl _⟩,⟨by decide,_,rfl,.refl _⟩,trivial⟩,?_⟩
  refine⟨fun m st=>∃(i:Nat) (q:BR) (gs:List Rw),(i≤n∧m=n-i∧gs.length≤i∧q.b.length≤r.b.length∧Za (Q5 ls) (n-i) q gs=Za (Q5 ls) n r5 [])∧(st=meS ls n i q s c gs∧0<gs.length∨st=meN ls n i q s c∧gs=[]),⟨_,meN ls n 0 r5 s c,.refl _ _ _,0,r5,[],⟨by omega,rfl,by simp,by omega,rfl⟩,.inr ⟨rfl,rfl⟩⟩,?_⟩
  clear l_t hx1 hx2 hx3 hx4
  rintro m st ⟨i,q,gs,⟨hi,rfl,hgl,hql,hfr⟩,⟨rfl,hp0⟩|⟨rfl,rfl⟩⟩
  ·by_cases h1:i<n
   ·by_cases h2:q.e=0
    ·have hst:n-i=n-(i+1)+1:=by omega
     have hgs:=J2 (Q5 ls) (n-(i+1)) q gs h2
     have hpl2:=Fj (Q5 ls) q
     have hcall:∀(K:AVal→Heap→Nat→Prop),K (.agg (encR (Zo (Q5 ls) q).1)) [(0,rdB (Zo (Q5 ls) q).2)] 2→JC [.ptr 0 0 0,vL ls] [(0,rdB q)] 1 K:=fun K hk=>⟨ls,q,rfl,rfl,rfl,⟨by omega,hll⟩,hk⟩
     generalize Zo (Q5 ls) q=y at *
     obtain⟨p,q2⟩:=y
     dsimp only at hgs hpl2 hcall
     repeat' first|refine And.intro ?_ ?_|(intro h;try first|exact dz|replace h:=cv)
     all_goals try exact cz
     refine⟨meS ls n i q2 s c (gs++[p]),?_,?_⟩
     · repeat' first|refine And.intro ?_ ?_|(intro h;try first|exact dz|replace h:=cv)
       all_goals try exact cz
       all_goals(refine⟨[0],[.ptr 0 0 0,vL ls],[(0,rdB q)],rfl,⟨.refl _,.refl _,trivial⟩,⟨⟨by decide,_,rfl,.refl _⟩,trivial⟩,?_⟩;refine hcall _ ?_)
       repeat' first|refine And.intro ?_ ?_|(intro h;try first|exact dz|replace h:=cv)
       all_goals try exact cz
       all_goals(refine Exists.intro () ?_;first|exact Kh (K:=7) (by exact rfl) rfl rfl rfl rfl rfl rfl rfl rfl rfl rfl rfl (U6 _ _) (by simp)|exact Kh (K:=6) (by exact rfl) rfl rfl rfl rfl rfl rfl rfl rfl rfl rfl rfl (U6 _ _) (by simp))
     · repeat' first|refine And.intro ?_ ?_|(intro h;try first|exact dz|replace h:=cv)
       all_goals try exact cz
       exact⟨_,meS ls n (i+1) q2 s c (gs++[p]),Kh (K:=3) rfl rfl rfl rfl rfl rfl rfl (by omega) rfl rfl rfl rfl rfl rfl,⟨i+1,q2,gs++[p],⟨by omega,rfl,by simp;omega,by omega,by rw[←hfr,hst,hgs]⟩,.inl ⟨rfl,by simp⟩⟩,by omega⟩
    · repeat' first|refine And.intro ?_ ?_|(intro h;try first|exact dz|replace h:=cv)
      all_goals try exact cz
      exact⟨_,meS ls n (i+1) q s c gs,Kh (K:=3) rfl rfl rfl rfl rfl rfl rfl (by omega) rfl rfl rfl rfl rfl rfl,⟨i+1,q,gs,⟨by omega,rfl,by omega,hql,by rw[←hfr,Ww _ _ _ _ h2,Ww _ _ _ _ h2]⟩,.inl ⟨rfl,hp0⟩⟩,by omega⟩
   ·have hfe:Za (Q5 ls) n r5 []=(gs,q):=by
     rw[←hfr,show n-i=0 by omega];rfl
    rw[hfe]at hP
    dsimp only at hP
    repeat' first|refine And.intro ?_ ?_|(intro h;try first|exact dz|replace h:=cv)
    all_goals try exact cz
    ·show Yo 2 (List.take gs.length (List.drop 0 (gs.map encR)))=true
     rw[List.drop_zero,List.take_of_length_le (by simp)];exact Z0 (enc:=encR) (z:=2) (fun _=>rfl) _
    refine⟨_,.refl _ _ _,_,rfl,?_⟩
    repeat' first|refine And.intro ?_ ?_|(intro h;try first|exact dz|replace h:=cv)
    all_goals try exact cz
    refine⟨_,Rj (K:=5) hp0 (by exact rfl) rfl rfl rfl rfl rfl rfl rfl (by show[]++List.take gs.length (List.drop 0 (gs.map encR))=_;rw[List.drop_zero,List.take_of_length_le (by simp)];rfl) (Nat.zero_add _),?_⟩
    repeat' first|refine And.intro ?_ ?_|(intro h;try first|exact dz|replace h:=cv)
    all_goals try exact cz
    exact Xi (k:=2) (n:=1) (row:=Qv ⟨s,c,gs⟩) rfl rfl rfl ⟨.un rfl,.refl _,.refl _,trivial⟩ (eM _) (by first|rfl|kernel_rfl) rfl hP
  ·by_cases h1:i<n
   ·by_cases h2:q.e=0
    ·have hst:n-i=n-(i+1)+1:=by omega
     have hgs:=J2 (Q5 ls) (n-(i+1)) q [] h2
     have hpl2:=Fj (Q5 ls) q
     have hcall:∀(K:AVal→Heap→Nat→Prop),K (.agg (encR (Zo (Q5 ls) q).1)) [(0,rdB (Zo (Q5 ls) q).2)] 2→JC [.ptr 0 0 0,vL ls] [(0,rdB q)] 1 K:=fun K hk=>⟨ls,q,rfl,rfl,rfl,⟨by omega,hll⟩,hk⟩
     generalize Zo (Q5 ls) q=y at *
     obtain⟨p,q2⟩:=y
     dsimp only at hgs hpl2 hcall
     repeat' first|refine And.intro ?_ ?_|(intro h;try first|exact dz|replace h:=cv)
     all_goals try exact cz
     refine⟨meS ls n i q2 s c ([]++[p]),?_,?_⟩
     · repeat' first|refine And.intro ?_ ?_|(intro h;try first|exact dz|replace h:=cv)
       all_goals try exact cz
       all_goals(refine⟨[0],[.ptr 0 0 0,vL ls],[(0,rdB q)],rfl,⟨.refl _,.refl _,trivial⟩,⟨⟨by decide,_,rfl,.refl _⟩,trivial⟩,?_⟩;refine hcall _ ?_)
       repeat' first|refine And.intro ?_ ?_|(intro h;try first|exact dz|replace h:=cv)
       all_goals try exact cz
       all_goals(refine Exists.intro () ?_;first|exact Kh (K:=6) (by exact rfl) rfl rfl rfl rfl rfl rfl rfl rfl rfl rfl rfl rfl rfl|exact Kh (K:=5) (by exact rfl) rfl rfl rfl rfl rfl rfl rfl rfl rfl rfl rfl rfl rfl)
     · repeat' first|refine And.intro ?_ ?_|(intro h;try first|exact dz|replace h:=cv)
       all_goals try exact cz
       exact⟨_,meS ls n (i+1) q2 s c ([]++[p]),Kh (K:=3) rfl rfl rfl rfl rfl rfl rfl (by omega) rfl rfl rfl rfl rfl rfl,⟨i+1,q2,[]++[p],⟨by omega,rfl,by simp,by omega,by rw[←hfr,hst,hgs]⟩,.inl ⟨rfl,by simp⟩⟩,by omega⟩
    · repeat' first|refine And.intro ?_ ?_|(intro h;try first|exact dz|replace h:=cv)
      all_goals try exact cz
      exact⟨_,meN ls n (i+1) q s c,Q0 [0,1,2] rfl ⟨.refl _,.refl _,.refl _,.refl _,.refl _,Qm (by omega),trivial⟩ ⟨⟨by decide,_,rfl,.refl _⟩,⟨by decide,_,rfl,.refl _⟩,⟨by decide,_,rfl,.refl _⟩,trivial⟩,⟨i+1,q,[],⟨by omega,rfl,by simp,hql,by rw[←hfr,Ww _ _ _ _ h2,Ww _ _ _ _ h2]⟩,.inr ⟨rfl,rfl⟩⟩,by omega⟩
   ·have hfe:Za (Q5 ls) n r5 []=([],q):=by
     rw[←hfr,show n-i=0 by omega];rfl
    rw[hfe]at hP
    dsimp only at hP
    repeat' first|refine And.intro ?_ ?_|(intro h;try first|exact dz|replace h:=cv)
    all_goals try exact cz
    refine⟨_,.refl _ _ _,_,rfl,?_⟩
    repeat' first|refine And.intro ?_ ?_|(intro h;try first|exact dz|replace h:=cv)
    all_goals try exact cz
    refine⟨_,O2 (by exact rfl) rfl rfl rfl rfl rfl rfl,?_⟩
    repeat' first|refine And.intro ?_ ?_|(intro h;try first|exact dz|replace h:=cv)
    all_goals try exact cz
    exact Xi (k:=2) (n:=1) (row:=Qv ⟨s,c,[]⟩) rfl rfl rfl ⟨.un rfl,.refl _,.refl _,trivial⟩ (eM _) (by first|rfl|kernel_rfl) rfl hP
 ·rw[if_pos h0]at hP
  repeat' first|refine And.intro ?_ ?_|(intro h;try first|exact dzi|replace h:=cvi)
  all_goals try exact cz
  exact Xi (k:=2) (n:=1) (row:=Qv mt0) rfl rfl rfl ⟨.zero _ _ rfl,.refl _,.zero _ _ rfl,trivial⟩ (eM _) (by first|rfl|kernel_rfl) rfl hP
def IK:SpecT:=fun args H nx Post=>∃(r:BR),args=[.ptr 0 0 0]∧H=[(0,rdB r)]∧nx=1∧r.b.length≤1000000∧Post (.agg (Qv (W5 r).1)) [(0,rdB (W5 r).2)] 2
theorem Oy[Syms]:IK.ok Try.prog 26:=by
 rintro args H nx Post ⟨r,rfl,rfl,rfl,h1,h⟩
 exact XF.forget (Qj Qf Qg Q3 Sa Qw (RA r h1 h))
end
end Go.Proofs.Ytajieadpaeggcaa
