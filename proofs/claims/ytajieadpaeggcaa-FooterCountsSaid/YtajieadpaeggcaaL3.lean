/-
  The footer's reader:a number of so many bytes,a truth,a number,a value. The program's. The footer's reader:a page. The program's. The footer's reader:a chunk. The program's. The footer's reader:a group of records. The program's. 'Leaves':the fields that are no groups. What is asked of the function of leaves,and what it answers. The program's. The footer's reader:all of it. The program's.
-/
import Derived.Test.YtajieadpaeggcaaL2
import Derived.Test.YtajieadpaeggcaaSxOne
import Derived.Test.YtajieadpaeggcaaL1
set_option linter.unusedVariables false
set_option linter.unusedSimpArgs false
namespace Go.Proofs.Ytajieadpaeggcaa
open Go Go.Av
section
set_option maxRecDepth 100000
set_option maxHeartbeats 4000000
def Vt(Post:AVal→Heap→Nat→Prop):AVal→Heap→Nat→Prop:=fun v H nx=>∃K:Heap,K.sub H∧Post v K nx
theorem XB.forget[Syms]{P:Program}{f:FuncId}{args:List AVal}{H:Heap}{nx:Nat}{Post:AVal→Heap→Nat→Prop}(h:XB P f args H nx (Vt Post)):XB P f args H nx Post:=by
 refine⟨h.1,fun ι w vs hv hH hb=>(h.2 ι w vs hv hH hb).mono ?_⟩
 rintro e w' ⟨v,H',nx',r,κ,⟨K,hs,hp⟩,h2,h3,h4,h5,h6,h7⟩
 exact⟨v,K,nx',r,κ,hp,h2,h3,h4.sub hs,⟨h5.keep,h5.fzle,h5.os,h5.tape,h5.output,h5.size,h5.same,fun g hg=>h5.own g (hg.sub hs),h5.fzs,h5.fresh⟩,h6,h7⟩
theorem QM{ρ:Nat→Nat}{row row':List AVal}(h:Ww row' row)(hf:∀x∈row,x.flat=true):WkB (.cells [row'] false) ((Blk.cells [row] false).ren ρ):=by
 rw[Jn ρ (Xe hf QK)]
 refine .each _ _ _ rfl fun k r r' h1 h2=>?_
 cases k with
 |zero=>
  cases h1;cases h2
  exact⟨h.at.1.symm,h.at.2⟩
 |succ k=>simp at h1
theorem QB{ρ:Nat→Nat}{row row':List AVal}(h:Ww row' (AVal.renL ρ row)):WkB (.cells [row'] false) ((Blk.cells [row] false).ren ρ):=by
 simp only[Blk.ren,List.map_cons,List.map_nil]
 refine .each _ _ _ rfl fun k r r' h1 h2=>?_
 cases k with
 |zero=>
  cases h1;cases h2
  exact⟨h.at.1.symm,h.at.2⟩
 |succ k=>simp at h1
theorem Hz{b:Option Blk}{l:Heap}:Heap.sub [(0,b)] ((0,b)::l):=fun n c h=>by
 rw[Heap.get_cons]at h ⊢
 by_cases hz:n=0
 ·subst hz;exact h
 ·rw[QS hz]at h;rw[show(bif false then b else Heap.get [] n)=none from Heap.get_nil n]at h;cases h
theorem Xj[Syms]{N k n nx:Nat}{e:Env}{H:Heap}{row' row:List AVal}{r:BR}{rs:List ResultVar}{Post:AVal→Heap→Nat→Prop}(hk:e.get k= .ptr n 0 0)(H0:H.get 0=rdB r)(Hn:H.get n=some (.cells [row'] false))(hrow:Ww row' row)(hf:∀x∈row,x.flat=true)
 (hn:QG 1 nx [0,n]=true) (hrs:Zc (Qn tys) ⟨[(k,.ptr 1 0 0)],[(0,rdB r),(1,some (.cells [row] false))],2⟩ rs=some (.agg row)) (hP:Post (.agg row) [(0,rdB r)] 2):
 ∃s3,Reb 1 N ⟨e,H,nx⟩ s3∧ ∃v,Zc (Qn tys) s3 rs=some v∧Vt Post v s3.heap s3.nx:=
 ⟨⟨[(k,.ptr 1 0 0)],[(0,rdB r),(1,some (.cells [row] false))],2⟩,Q0 [0,n] hn ⟨by rw[hk];exact .refl _,trivial⟩ ⟨⟨Nat.succ_pos _,_,H0,.refl _⟩,⟨Nat.lt_succ_self _,_,Hn,QM hrow hf⟩,trivial⟩,_,hrs,_,Hz,hP⟩
theorem Ei{a b:List UInt8}(h:a=b):WkV (.str a) (.str b):=h▸ .refl _
theorem fV(v:Vl):∀x∈ZU v,x.flat=true:=fun x hx=>by simp[ZU]at hx;rcases hx with rfl|rfl<;>rfl
abbrev cFx:CallT:=Q6 54 (QD Jy) (Q6 111 (QD Hp) (Q6 112 (QD Hq) Q7))
theorem TS[Syms]:cFx.ok Try.prog:=Q4 J0 (Q4 Io (Q4 Iq Q9))
theorem D1(n:Nat)(r:BR):(QC n r).1.length=n∨(QC n r).1=[]:=by
 unfold QC
 by_cases h:r.b.length<n
 ·simp only[if_pos h]
  have:(Qs r 8).e≠0:=by
   unfold Qs
   by_cases h0:r.e=0
   ·rw[if_pos h0];show(8:Int)≠0;decide
   ·rw[if_neg h0];exact h0
  rw[if_pos this];exact .inr rfl
 ·simp only[if_neg h]
  by_cases h0:r.e≠0
  ·rw[if_pos h0];exact .inr rfl
  ·rw[if_neg h0];left;simp;omega
theorem Tg[Syms]{Post:AVal→Heap→Nat→Prop}(r:BR)(n:Nat)(hn:0<n∧n≤8)(hl:r.b.length≤1000000)(hP:Post (.int .u64 ((Z0 n r).1:Nat)) [(0,rdB (Z0 n r).2)] 1):
 fnT Q7 cFx (Qv fns) (Qn tys) (Qz plt) 100 102 [.ptr 0 0 0,.int .i64 n] [(0,rdB r)] 1 Post:=by
 refine⟨[0],[.ptr 0 0 0,.int .i64 n],[(0,rdB r)],rfl,⟨.refl _,.refl _,trivial⟩,⟨⟨by decide,_,rfl,.refl _⟩,trivial⟩,r,n,rfl,rfl,rfl,⟨hl,by omega⟩,?_⟩
 unfold Z0 at hP
 have h2:=D1 n r
 generalize QC n r=q at *
 obtain⟨t,r2⟩:=q
 have hP:Post (.int .u64 (leV t:Nat)) [(0,rdB r2)] 1:=hP
 rcases h2 with h2|h2
 ·have h2:t.length=n:=h2
  refine⟨[],[vB t],[],rfl,⟨.refl _,trivial⟩,trivial,t,rfl,rfl,rfl,by omega,?_⟩
  have ht:t.take n=t:=List.take_of_length_le (by omega)
  refine⟨[2],[.ptr 0 0 0,.int .i64 (n:Nat)],[(0,rdB ⟨t,0⟩)],rfl,⟨.refl _,.refl _,trivial⟩,⟨⟨by decide,_,rfl,.refl _⟩,trivial⟩,t,n,rfl,rfl,rfl,⟨by omega,by omega⟩,.inl ⟨by omega,?_⟩⟩
  rw[ht]
  repeat' first|refine And.intro ?_ ?_|(intro h;try first|exact dz|replace h:=cv)
  all_goals try exact cz
  exact⟨⟨[(4,.int .u64 (leV t:Nat))],[(0,rdB r2)],1⟩,Q0 [0] (by first|rfl|kernel_rfl) ⟨.refl _,trivial⟩ ⟨⟨by decide,_,rfl,.refl _⟩,trivial⟩,_,rfl,hP⟩
 ·have h2:t=[]:=h2
  subst h2
  refine⟨[],[vB []],[],rfl,⟨.refl _,trivial⟩,trivial,[],rfl,rfl,rfl,by simp,?_⟩
  refine⟨[2],[.ptr 0 0 0,.int .i64 (n:Nat)],[(0,rdB ⟨[],0⟩)],rfl,⟨.refl _,.refl _,trivial⟩,⟨⟨by decide,_,rfl,.refl _⟩,trivial⟩,[],n,rfl,rfl,rfl,⟨by simp,by omega⟩,.inr ⟨hn.1,?_⟩⟩
  repeat' first|refine And.intro ?_ ?_|(intro h;try first|exact dz|replace h:=cv)
  all_goals try exact cz
  exact⟨⟨[(4,.int .u64 (leV []:Nat))],[(0,rdB r2)],1⟩,Q0 [0] (by first|rfl|kernel_rfl) ⟨.refl _,trivial⟩ ⟨⟨by decide,_,rfl,.refl _⟩,trivial⟩,_,rfl,hP⟩
def FM:SpecT:=fun args H nx Post=>∃(r:BR) (n:Nat),args=[.ptr 0 0 0,.int .i64 n]∧H=[(0,rdB r)]∧nx=1∧((0<n∧n≤8)∧r.b.length≤1000000)∧Post (.int .u64 ((Z0 n r).1:Nat)) [(0,rdB (Z0 n r).2)] 1
theorem M8[Syms]:FM.ok Try.prog 102:=by
 rintro args H nx Post ⟨r,n,rfl,rfl,rfl,⟨h1,h2⟩,h⟩
 exact Qg Qh Qi Q3 TS Qt (Tg r n h1 h2 h)
abbrev cFt:CallT:=Q6 102 (QD FM) (Q6 27 (QD UL) Q7)
theorem TV[Syms]:cFt.ok Try.prog:=Q4 M8 (Q4 Um Q9)
theorem Oi[Syms]{Post:AVal→Heap→Nat→Prop}(r:BR)(hl:r.b.length≤1000000)(hP:Post (.int .i64 ((truthR r).1:Nat)) [(0,rdB (truthR r).2)] 1):
 fnT Q7 cFt (Qv fns) (Qn tys) (Qz plt) 100 105 [.ptr 0 0 0] [(0,rdB r)] 1 Post:=by
 refine⟨[0],[.ptr 0 0 0,.int .i64 ((1:Nat):Int)],[(0,rdB r)],rfl,⟨.refl _,.refl _,trivial⟩,⟨⟨by decide,_,rfl,.refl _⟩,trivial⟩,r,1,rfl,rfl,rfl,⟨⟨by omega,by omega⟩,hl⟩,?_⟩
 unfold truthR at hP
 generalize Z0 1 r=q at *
 obtain⟨v,r2⟩:=q
 have hP:Post (.int .i64 ((if 1<v then(0,Qs r2 10)else(v,r2)).1:Nat)) [(0,rdB (if 1<v then(0,Qs r2 10)else(v,r2)).2)] 1:=hP
 by_cases h1:1<v
 ·rw[if_pos h1]at hP
  repeat' first|refine And.intro ?_ ?_|(intro h;try first|exact dz|replace h:=cv)
  all_goals try exact cz
  refine⟨[0],[.ptr 0 0 0,.int .i64 10],[(0,rdB r2)],rfl,⟨.refl _,.refl _,trivial⟩,⟨⟨by decide,_,rfl,.refl _⟩,trivial⟩,r2,10,rfl,rfl,rfl,?_⟩
  generalize Qs r2 10=r3 at *
  repeat' first|refine And.intro ?_ ?_|(intro h;try first|exact dz|replace h:=cv)
  all_goals try exact cz
  exact⟨⟨[(2,.int .i64 (0:Nat))],[(0,rdB r3)],1⟩,Q0 [0] (by first|rfl|kernel_rfl) ⟨.refl _,trivial⟩ ⟨⟨by decide,_,rfl,.refl _⟩,trivial⟩,_,rfl,hP⟩
 ·rw[if_neg h1]at hP
  have hw:=IM (n:=v) (by omega)
  repeat' first|refine And.intro ?_ ?_|(intro h;try first|exact dz|replace h:=cv)
  all_goals try exact cz
  exact⟨⟨[(2,.int .i64 (v:Nat))],[(0,rdB r2)],1⟩,Q0 [0] (by first|rfl|kernel_rfl) ⟨Qp hw,trivial⟩ ⟨⟨by decide,_,rfl,.refl _⟩,trivial⟩,_,rfl,hP⟩
def FI:SpecT:=fun args H nx Post=>∃(r:BR),args=[.ptr 0 0 0]∧H=[(0,rdB r)]∧nx=1∧r.b.length≤1000000∧Post (.int .i64 ((truthR r).1:Nat)) [(0,rdB (truthR r).2)] 1
theorem Dt[Syms]:FI.ok Try.prog 105:=by
 rintro args H nx Post ⟨r,rfl,rfl,rfl,h1,h⟩
 exact Qg Qh Qi Q3 TV Qt (Oi r h1 h)
abbrev cFpl:CallT:=Q6 55 (QD FK) Q7
theorem RV[Syms]:cFpl.ok Try.prog:=Q4 M5 Q9
theorem Ok[Syms]{Post:AVal→Heap→Nat→Prop}(r:BR)(hl:r.b.length≤1000000)(hP:Post (.int .i64 ((plainR r).1:Nat)) [(0,rdB (plainR r).2)] 1):
 fnT Q7 cFpl (Qv fns) (Qn tys) (Qz plt) 100 57 [.ptr 0 0 0] [(0,rdB r)] 1 Post:=by
 refine⟨[0],[.ptr 0 0 0,.int .i64 ((1048576:Nat):Int),.int .i64 14],[(0,rdB r)],rfl,⟨.refl _,.refl _,.refl _,trivial⟩,⟨⟨by decide,_,rfl,.refl _⟩,trivial⟩,r,1048576,14,rfl,rfl,rfl,⟨hl,by omega,by decide⟩,?_⟩
 replace hP:Post (.int .i64 ((Qx 1048576 14 r).1:Nat)) [(0,rdB (Qx 1048576 14 r).2)] 1:=hP
 generalize Qx 1048576 14 r=q at *
 obtain⟨v,r2⟩:=q
 repeat' first|refine And.intro ?_ ?_|(intro h;try first|exact dz|replace h:=cv)
 all_goals try exact cz
 exact⟨⟨[(2,.int .i64 (v:Nat))],[(0,rdB r2)],1⟩,Q0 [0] (by first|rfl|kernel_rfl) ⟨.refl _,trivial⟩ ⟨⟨by decide,_,rfl,.refl _⟩,trivial⟩,_,rfl,hP⟩
def Uw:SpecT:=fun args H nx Post=>∃(r:BR),args=[.ptr 0 0 0]∧H=[(0,rdB r)]∧nx=1∧r.b.length≤1000000∧Post (.int .i64 ((plainR r).1:Nat)) [(0,rdB (plainR r).2)] 1
theorem UF[Syms]:Uw.ok Try.prog 57:=by
 rintro args H nx Post ⟨r,rfl,rfl,rfl,h1,h⟩
 exact Qg Qh Qi Q3 RV Qt (Ok r h1 h)
abbrev cFv[Syms]:CallT:=Q6 97 (Ft Q7 Q7 (Qv fns) (Qn tys) (Qz plt) 100) (Q6 105 (QD FI) (Q6 102 (QD FM) (Q6 55 (QD FK) (Q6 54 (QD Jy) Q7))))
theorem TU[Syms]:cFv.ok Try.prog:=Xz (XX Qh Qi Q3 Q9 Qt) (Q4 Dt (Q4 M8 (Q4 M5 (Q4 J0 Q9))))
theorem Sw(x:Int):wr .i64 (wr .i32 x)=wr .i32 x:=by
 apply wrI
 unfold wr
 split
 ·rename_i h
  have h1:(-2147483648:Int)≤x:=h.1
  have h2:x≤(2147483647:Int):=h.2
  omega
 ·show(-9223372036854775808:Int)≤(if(true&&decide (x%(2^32:Int)≥(2^31:Int)))=true then x%(2^32:Int)-(2^32:Int)else x%(2^32:Int))∧(if(true&&decide (x%(2^32:Int)≥(2^31:Int)))=true then x%(2^32:Int)-(2^32:Int)else x%(2^32:Int))≤(9223372036854775807:Int)
  split<;>omega
theorem Ek(r:BR):Ym 1 r=(⟨((truthR r).1:Nat),[]⟩,(truthR r).2):=rfl
theorem N3(r:BR):Ym 2 r=(⟨wr .i32 ((Z0 4 r).1:Nat),[]⟩,(Z0 4 r).2):=rfl
theorem N2(r:BR):Ym 3 r=(⟨wr .i64 ((Z0 8 r).1:Nat),[]⟩,(Z0 8 r).2):=rfl
theorem DY{k:Int}(h:¬k=1∧ ¬k=2∧ ¬k=3)(r:BR):Ym k r=(⟨0,(QC (Qx 100 5 r).1 (Qx 100 5 r).2).1⟩,(QC (Qx 100 5 r).1 (Qx 100 5 r).2).2):=by
 unfold Ym
 rw[if_neg h.1,if_neg h.2.1,if_neg h.2.2]
theorem Ta[Syms]{Post:AVal→Heap→Nat→Prop}(k:Int)(r:BR)(hl:r.b.length≤1000000)(hP:Post (.agg (ZU (Ym k r).1)) [(0,rdB (Ym k r).2)] 2):
 fnT Q7 cFv (Qv fns) (Qn tys) (Qz plt) 100 106 [.ptr 0 0 0,.int .i64 k] [(0,rdB r)] 1 (Vt Post):=by
 by_cases h1:k=1
 ·subst h1
  rw[Ek]at hP
  repeat' first|refine And.intro ?_ ?_|(intro h;try first|exact dz|replace h:=cv)
  all_goals try exact cz
  refine⟨_,.refl _ _ _,_,rfl,?_⟩
  repeat' first|refine And.intro ?_ ?_|(intro h;try first|exact dz|replace h:=cv)
  all_goals try exact cz
  refine⟨[0],[.ptr 0 0 0],[(0,rdB r)],rfl,⟨.refl _,trivial⟩,⟨⟨by decide,_,rfl,.refl _⟩,trivial⟩,r,rfl,rfl,rfl,hl,?_⟩
  generalize truthR r=q at *
  obtain⟨v,r2⟩:=q
  repeat' first|refine And.intro ?_ ?_|(intro h;try first|exact dz|replace h:=cv)
  all_goals try exact cz
  exact Xj (k:=4) (n:=1) (row:=ZU ⟨(v:Nat),[]⟩) rfl rfl rfl ⟨.refl _,.refl _,trivial⟩ (fV _) (by first|rfl|kernel_rfl) rfl hP
 by_cases h2:k=2
 ·subst h2
  rw[N3]at hP
  repeat' first|refine And.intro ?_ ?_|(intro h;try first|exact dz|replace h:=cv)
  all_goals try exact cz
  refine⟨_,.refl _ _ _,_,rfl,?_⟩
  repeat' first|refine And.intro ?_ ?_|(intro h;try first|exact dz|replace h:=cv)
  all_goals try exact cz
  refine⟨[0],[.ptr 0 0 0,.int .i64 ((4:Nat):Int)],[(0,rdB r)],rfl,⟨.refl _,.refl _,trivial⟩,⟨⟨by decide,_,rfl,.refl _⟩,trivial⟩,r,4,rfl,rfl,rfl,⟨by decide,hl⟩,?_⟩
  generalize Z0 4 r=q at *
  obtain⟨v,r2⟩:=q
  have hw:=Sw (v:Nat)
  repeat' first|refine And.intro ?_ ?_|(intro h;try first|exact dz|replace h:=cv)
  all_goals try exact cz
  exact Xj (k:=4) (n:=1) (row:=ZU ⟨wr .i32 (v:Nat),[]⟩) rfl rfl rfl ⟨Qp hw,.refl _,trivial⟩ (fV _) (by first|rfl|kernel_rfl) rfl hP
 by_cases h3:k=3
 ·subst h3
  rw[N2]at hP
  repeat' first|refine And.intro ?_ ?_|(intro h;try first|exact dz|replace h:=cv)
  all_goals try exact cz
  refine⟨_,.refl _ _ _,_,rfl,?_⟩
  repeat' first|refine And.intro ?_ ?_|(intro h;try first|exact dz|replace h:=cv)
  all_goals try exact cz
  refine⟨[0],[.ptr 0 0 0,.int .i64 ((8:Nat):Int)],[(0,rdB r)],rfl,⟨.refl _,.refl _,trivial⟩,⟨⟨by decide,_,rfl,.refl _⟩,trivial⟩,r,8,rfl,rfl,rfl,⟨by decide,hl⟩,?_⟩
  generalize Z0 8 r=q at *
  obtain⟨v,r2⟩:=q
  repeat' first|refine And.intro ?_ ?_|(intro h;try first|exact dz|replace h:=cv)
  all_goals try exact cz
  exact Xj (k:=4) (n:=1) (row:=ZU ⟨wr .i64 (v:Nat),[]⟩) rfl rfl rfl ⟨.refl _,.refl _,trivial⟩ (fV _) (by first|rfl|kernel_rfl) rfl hP
 rw[DY ⟨h1,h2,h3⟩]at hP
 repeat' first|refine And.intro ?_ ?_|(intro h;try first|exact dz|replace h:=cv)
 all_goals try exact cz
 refine⟨_,.refl _ _ _,_,rfl,?_⟩
 repeat' first|refine And.intro ?_ ?_|(intro h;try first|exact dz|replace h:=cv)
 all_goals try exact cz
 refine⟨[0],[.ptr 0 0 0,.int .i64 ((100:Nat):Int),.int .i64 5],[(0,rdB r)],rfl,⟨.refl _,.refl _,.refl _,trivial⟩,⟨⟨by decide,_,rfl,.refl _⟩,trivial⟩,r,100,5,rfl,rfl,rfl,⟨hl,by omega,by decide⟩,?_⟩
 have l0:=QJ 100 5 r
 have n0:=Zo (m:=100) (w:=5) (by decide) r
 generalize Qx 100 5 r=q at *
 obtain⟨v,r2⟩:=q
 have l0:r2.b.length≤r.b.length:=l0
 have n0:v≤100:=n0
 refine⟨[0],[.ptr 0 0 0,.int .i64 (v:Nat)],[(0,rdB r2)],rfl,⟨.refl _,.refl _,trivial⟩,⟨⟨by decide,_,rfl,.refl _⟩,trivial⟩,r2,v,rfl,rfl,rfl,⟨by omega,by omega⟩,?_⟩
 replace hP:Post (.agg (ZU ⟨0,(QC v r2).1⟩)) [(0,rdB (QC v r2).2)] 2:=hP
 generalize QC v r2=q at *
 obtain⟨t,r3⟩:=q
 repeat' first|refine And.intro ?_ ?_|(intro h;try first|exact dz|replace h:=cv)
 all_goals try exact cz
 ·exact(Vq t).1
 exact Xj (k:=4) (n:=1) (row:=ZU ⟨0,t⟩) rfl rfl rfl ⟨.refl _,Ei (Vq t).2,trivial⟩ (fV _) (by first|rfl|kernel_rfl) rfl hP
def P9:SpecT:=fun args H nx Post=>∃(k:Int) (r:BR),args=[.ptr 0 0 0,.int .i64 k]∧H=[(0,rdB r)]∧nx=1∧r.b.length≤1000000∧Post (.agg (ZU (Ym k r).1)) [(0,rdB (Ym k r).2)] 2
theorem Rk[Syms]:P9.ok Try.prog 106:=by
 rintro args H nx Post ⟨k,r,rfl,rfl,rfl,h1,h⟩
 exact XB.forget (Qg Qh Qi Q3 TU Qt (Ta k r h1 h))
end
section
set_option maxRecDepth 100000
set_option maxHeartbeats 4000000
theorem Xg(r:BR):(truthR r).2.b.length≤r.b.length:=by
 have:=XV 1 r
 unfold truthR
 split
 ·show(Qs _ _).b.length≤_;rw[Bl];exact this
 ·exact this
theorem Uy(r:BR):(truthR r).1≤1:=by
 unfold truthR
 split
 ·exact Nat.zero_le _
 ·omega
theorem Ht{v:Nat}(h:v<256^4):wr .u32 (v:Int)=(v:Nat):=if_pos ⟨show(0:Int)≤_ by omega,show _≤(4294967295:Int) by omega⟩
theorem eP(p:Pg):∀x∈encP p,x.flat=true:=fP [p] _ (List.mem_singleton.2 rfl)
abbrev cFpg:CallT:=Q6 57 (QD Uw) (Q6 102 (QD FM) Q7)
theorem RW[Syms]:cFpg.ok Try.prog:=Q4 UF (Q4 M8 Q9)
theorem Rm[Syms]{Post:AVal→Heap→Nat→Prop}(r:BR)(hl:r.b.length≤1000000)(hP:Post (.agg (encP (pageR r).1)) [(0,rdB (pageR r).2)] 2):
 fnT Q7 cFpg (Qv fns) (Qn tys) (Qz plt) 100 103 [.ptr 0 0 0] [(0,rdB r)] 1 (Vt Post):=by
 unfold pageR at hP
 dsimp only at hP
 refine⟨[0],[.ptr 0 0 0],[(0,rdB r)],rfl,⟨.refl _,trivial⟩,⟨⟨by decide,_,rfl,.refl _⟩,trivial⟩,r,rfl,rfl,rfl,by omega,?_⟩
 have l_r1:(plainR r).2.b.length≤r.b.length:=QJ _ _ _
 have n_v1:(plainR r).1≤1048576:=Zo (by decide) _
 generalize plainR r=q at *
 obtain⟨v1,r1⟩:=q
 replace l_r1:r1.b.length≤r.b.length:=l_r1
 replace n_v1:v1≤1048576:=n_v1
 dsimp only at hP
 refine⟨[0],[.ptr 0 0 0],[(0,rdB r1)],rfl,⟨.refl _,trivial⟩,⟨⟨by decide,_,rfl,.refl _⟩,trivial⟩,r1,rfl,rfl,rfl,by omega,?_⟩
 have l_r2:(plainR r1).2.b.length≤r1.b.length:=QJ _ _ _
 have n_v2:(plainR r1).1≤1048576:=Zo (by decide) _
 generalize plainR r1=q at *
 obtain⟨v2,r2⟩:=q
 replace l_r2:r2.b.length≤r1.b.length:=l_r2
 replace n_v2:v2≤1048576:=n_v2
 dsimp only at hP
 refine⟨[0],[.ptr 0 0 0],[(0,rdB r2)],rfl,⟨.refl _,trivial⟩,⟨⟨by decide,_,rfl,.refl _⟩,trivial⟩,r2,rfl,rfl,rfl,by omega,?_⟩
 have l_r3:(plainR r2).2.b.length≤r2.b.length:=QJ _ _ _
 have n_v3:(plainR r2).1≤1048576:=Zo (by decide) _
 generalize plainR r2=q at *
 obtain⟨v3,r3⟩:=q
 replace l_r3:r3.b.length≤r2.b.length:=l_r3
 replace n_v3:v3≤1048576:=n_v3
 dsimp only at hP
 refine⟨[0],[.ptr 0 0 0],[(0,rdB r3)],rfl,⟨.refl _,trivial⟩,⟨⟨by decide,_,rfl,.refl _⟩,trivial⟩,r3,rfl,rfl,rfl,by omega,?_⟩
 have l_r4:(plainR r3).2.b.length≤r3.b.length:=QJ _ _ _
 have n_v4:(plainR r3).1≤1048576:=Zo (by decide) _
 generalize plainR r3=q at *
 obtain⟨v4,r4⟩:=q
 replace l_r4:r4.b.length≤r3.b.length:=l_r4
 replace n_v4:v4≤1048576:=n_v4
 dsimp only at hP
 refine⟨[0],[.ptr 0 0 0],[(0,rdB r4)],rfl,⟨.refl _,trivial⟩,⟨⟨by decide,_,rfl,.refl _⟩,trivial⟩,r4,rfl,rfl,rfl,by omega,?_⟩
 have l_r5:(plainR r4).2.b.length≤r4.b.length:=QJ _ _ _
 have n_v5:(plainR r4).1≤1048576:=Zo (by decide) _
 generalize plainR r4=q at *
 obtain⟨v5,r5⟩:=q
 replace l_r5:r5.b.length≤r4.b.length:=l_r5
 replace n_v5:v5≤1048576:=n_v5
 dsimp only at hP
 refine⟨[0],[.ptr 0 0 0],[(0,rdB r5)],rfl,⟨.refl _,trivial⟩,⟨⟨by decide,_,rfl,.refl _⟩,trivial⟩,r5,rfl,rfl,rfl,by omega,?_⟩
 have l_r6:(plainR r5).2.b.length≤r5.b.length:=QJ _ _ _
 have n_v6:(plainR r5).1≤1048576:=Zo (by decide) _
 generalize plainR r5=q at *
 obtain⟨v6,r6⟩:=q
 replace l_r6:r6.b.length≤r5.b.length:=l_r6
 replace n_v6:v6≤1048576:=n_v6
 dsimp only at hP
 repeat' first|refine And.intro ?_ ?_|(intro h;try first|exact dz|replace h:=cv)
 all_goals try exact cz
 refine⟨[0],[.ptr 0 0 0,.int .i64 ((4:Nat):Int)],[(0,rdB r6)],rfl,⟨.refl _,.refl _,trivial⟩,⟨⟨by decide,_,rfl,.refl _⟩,trivial⟩,r6,4,rfl,rfl,rfl,⟨by decide,by omega⟩,?_⟩
 have l_r7:(Z0 4 r6).2.b.length≤r6.b.length:=XV _ _
 have n_v7:(Z0 4 r6).1<256^4:=M6 _ _
 generalize Z0 4 r6=q at *
 obtain⟨v7,r7⟩:=q
 replace l_r7:r7.b.length≤r6.b.length:=l_r7
 replace n_v7:v7<256^4:=n_v7
 dsimp only at hP
 repeat' first|refine And.intro ?_ ?_|(intro h;try first|exact dz|replace h:=cv)
 all_goals try exact cz
 exact Xj (k:=2) (n:=1) (row:=encP ⟨v1,v2,v3,v4,v5,v6,v7⟩) rfl rfl rfl ⟨.refl _,.refl _,.refl _,.refl _,.refl _,.refl _,Qp (Ht n_v7),trivial⟩ (eP _) (by first|rfl|kernel_rfl) rfl hP
def Md:SpecT:=fun args H nx Post=>∃(r:BR),args=[.ptr 0 0 0]∧H=[(0,rdB r)]∧nx=1∧r.b.length≤1000000∧Post (.agg (encP (pageR r).1)) [(0,rdB (pageR r).2)] 2
theorem Om[Syms]:Md.ok Try.prog 103:=by
 rintro args H nx Post ⟨r,rfl,rfl,rfl,h1,h⟩
 exact XB.forget (Qg Qh Qi Q3 RW Qt (Rm r h1 h))
end
section
set_option maxRecDepth 100000
set_option maxHeartbeats 4000000
abbrev cFck[Syms]:CallT:=Q6 57 (QD Uw) (Q6 102 (QD FM) (Q6 55 (QD FK) (Q6 103 (QD Md) (Q6 105 (QD FI) (Q6 106 (QD P9) (Q6 104 (Ft Q7 Q7 (Qv fns) (Qn tys) (Qz plt) 100) Q7))))))
theorem S0[Syms]:cFck.ok Try.prog:=Q4 UF (Q4 M8 (Q4 M5 (Q4 Om (Q4 Dt (Q4 Rk (Xz (XX Qh Qi Q3 Q9 Qt) Q9))))))
noncomputable def plCk:Nat→Nat→Pl:=XG [(84,6),(84,8),(84,9),(84,13)] (Qz plt)
def Y2(a b c:Int)(v:AVal):List AVal:=[.int .i64 a,.int .i64 b,.int .u32 c,v,.bool false,.int .i64 0,.bool false,.int .i64 0,.str [],.int .i64 0,.str []]
def ckS(k:Int)(n i:Nat)(r:BR)(a b c:Int)(ps:List Pg):St:=⟨[(0,.ptr 0 0 0),(1,.int .i64 k),(4,.ptr 1 0 0),(5,.ptr 2 0 0),(17,.int .i64 n),(18,.int .i64 i)],[(0,rdB r),(1,some (.cells [Y2 0 0 0 .nils] false)),(2,some (.cells [Y2 a b c (.slice 3 0 ps.length 7 none)] false)),(3,some (.cells (ps.map encP) false))],4⟩
def ckN(k:Int)(n i:Nat)(r:BR)(a b c:Int):St:=⟨[(0,.ptr 0 0 0),(1,.int .i64 k),(4,.ptr 1 0 0),(5,.ptr 2 0 0),(17,.int .i64 n),(18,.int .i64 i)],[(0,rdB r),(1,some (.cells [Y2 0 0 0 .nils] false)),(2,some (.cells [Y2 a b c .nils] false))],3⟩
theorem JQ(r:BR):(pageR r).2.b.length≤r.b.length:=by
 unfold pageR plainR
 exact Nat.le_trans (XV _ _) (Nat.le_trans (QJ _ _ _) (Nat.le_trans (QJ _ _ _) (Nat.le_trans (QJ _ _ _) (Nat.le_trans (QJ _ _ _) (Nat.le_trans (QJ _ _ _) (QJ _ _ _))))))
theorem Gu(k:Nat)(r:BR)(s:List Pg)(h:r.e=0):ZC (k+1) r s=ZC k (pageR r).2 (s++[(pageR r).1]):=by
 rw[ZC,if_neg (fun x=>x h)]
theorem V0(k:Nat)(r:BR)(s:List Pg)(h:r.e≠0):ZC k r s=(s,r):=by
 cases k with
 |zero=>rfl
 |succ k=>rw[ZC,if_pos h]
theorem KA(k:Int)(r:BR):(Ym k r).2.b.length≤r.b.length:=by
 unfold Ym
 split
 ·exact Xg _
 ·split
  ·exact XV _ _
  ·split
   ·exact XV _ _
   ·exact Nat.le_trans (Vs _ _) (QJ _ _ _)
theorem eC(p:Ck):∀x∈encC p,x.flat=true:=fC [p] _ (List.mem_singleton.2 rfl)
theorem Ko[Syms]{N K nx:Nat}{e:Env}{H:Heap}{k a b c i1:Int}{n i:Nat}{q:BR}{ps:List Pg}{rows:List (List AVal)}{len:Nat}(hn:QG 1 nx [0,1,2,K]=true)(h0:e.get 0= .ptr 0 0 0)(h1:e.get 1= .int .i64 k)(h4:e.get 4= .ptr 1 0 0)(h5:e.get 5= .ptr 2 0 0)(h17:e.get 17= .int .i64 n)(h18:e.get 18= .int .i64 i1)(hi:i1=i)
 (H0:H.get 0=rdB q) (H1:H.get 1=some (.cells [Y2 0 0 0 .nils] false)) (H2:H.get 2=some (.cells [Y2 a b c (.slice K 0 len 7 none)] false)) (HK:H.get K=some (.cells rows false)) (hr:rows=ps.map encP) (hl:len=ps.length):Reb 1 N ⟨e,H,nx⟩ (ckS k n i q a b c ps):=by
 subst hr hl hi
 exact Q0 [0,1,2,K] hn ⟨by rw[h0];exact .refl _,by rw[h1];exact .refl _,by rw[h4];exact .refl _,by rw[h5];exact .refl _,by rw[h17];exact .refl _,by rw[h18];exact .refl _,trivial⟩
  ⟨⟨show 0<4 by decide,_,H0,.refl _⟩,⟨show 1<4 by decide,_,H1,.refl _⟩,⟨show 2<4 by decide,_,H2,.refl _⟩,⟨show 3<4 by decide,_,HK,Qb (fP _)⟩,trivial⟩
def ckF(k:Int)(q:BR)(a b c:Int)(ps:List Pg):St:=⟨[(0,.ptr 0 0 0),(1,.int .i64 k),(4,.ptr 1 0 0),(5,.ptr 2 0 0)],[(0,rdB q),(1,some (.cells [Y2 0 0 0 .nils] false)),(2,some (.cells [Y2 a b c (.vs 7 (ps.map encP))] false))],3⟩
theorem RC[Syms]{N K nx:Nat}{e:Env}{H:Heap}{k a b c:Int}{q:BR}{ps:List Pg}{rows:List (List AVal)}{len:Nat}(hp:0<ps.length)(hn:QG 1 nx [0,1,2,K]=true)(h0:e.get 0= .ptr 0 0 0)(h1:e.get 1= .int .i64 k)(h4:e.get 4= .ptr 1 0 0)(h5:e.get 5= .ptr 2 0 0)
 (H0:H.get 0=rdB q) (H1:H.get 1=some (.cells [Y2 0 0 0 .nils] false)) (H2:H.get 2=some (.cells [Y2 a b c (.slice K 0 len 7 none)] false)) (HK:H.get K=some (.cells rows false)) (hr:rows=ps.map encP) (hl:len=ps.length):Reb 1 N ⟨e,H,nx⟩ (ckF k q a b c ps):=by
 subst hr hl
 have hcut:((ps.map encP).drop 0).take ps.length=ps.map encP:=by rw[List.drop_zero,List.take_of_length_le (by simp)]
 have hs:FzV 3 (ps.map encP) (.slice 3 0 ps.length 7 none) (.vs 7 (ps.map encP)):=by
  have:=FzV.sl (n:=3) (rows:=ps.map encP) 0 ps.length 7 none hp (by simp)
  rwa [hcut]at this
 refine(Q0 (e3:=[(0,.ptr 0 0 0),(1,.int .i64 k),(4,.ptr 1 0 0),(5,.ptr 2 0 0)]) (H3:=[(0,rdB q),(1,some (.cells [Y2 0 0 0 .nils] false)),(2,some (.cells [Y2 a b c (.slice 3 0 ps.length 7 none)] false)),(3,some (.cells (ps.map encP) false))]) [0,1,2,K] hn ⟨by rw[h0];exact .refl _,by rw[h1];exact .refl _,by rw[h4];exact .refl _,by rw[h5];exact .refl _,trivial⟩
  ⟨⟨show 0<4 by decide,_,H0,.refl _⟩,⟨show 1<4 by decide,_,H1,.refl _⟩,⟨show 2<4 by decide,_,H2,.refl _⟩,⟨show 3<4 by decide,_,HK,Qb (fP _)⟩,trivial⟩).trans ?_
 refine(QV (n:=3) (e3:=[(0,.ptr 0 0 0),(1,.int .i64 k),(4,.ptr 1 0 0),(5,.ptr 2 0 0)]) (H3:=[(0,rdB q),(1,some (.cells [Y2 0 0 0 .nils] false)),(2,some (.cells [Y2 a b c (.vs 7 (ps.map encP))] false))]) rfl (fP ps) ⟨.same _,.same _,.same _,.same _,trivial⟩
  ⟨⟨by decide,_,rfl,.same _⟩,⟨by decide,_,rfl,.same _⟩,⟨by decide,_,rfl,.cells [Y2 a b c (.slice 3 0 ps.length 7 none)] [Y2 a b c (.vs 7 (ps.map encP))] false rfl (fun j r r' h h'=>?_)⟩,trivial⟩).trans (Q0 [0,1,2] rfl ⟨.refl _,.refl _,.refl _,.refl _,trivial⟩ ⟨⟨by decide,_,rfl,.refl _⟩,⟨by decide,_,rfl,.refl _⟩,⟨by decide,_,rfl,.refl _⟩,trivial⟩)
 cases j with
 |zero=>
  cases h;cases h'
  exact⟨.same _,.same _,.same _,hs,.same _,.same _,.same _,.same _,.same _,.same _,.same _,trivial⟩
 |succ j=>simp at h
theorem OO[Syms]{N nx:Nat}{e:Env}{H:Heap}{k a b c:Int}{q:BR}(hn:QG 1 nx [0,1,2]=true)(h0:e.get 0= .ptr 0 0 0)(h1:e.get 1= .int .i64 k)(h4:e.get 4= .ptr 1 0 0)(h5:e.get 5= .ptr 2 0 0)
 (H0:H.get 0=rdB q) (H1:H.get 1=some (.cells [Y2 0 0 0 .nils] false)) (H2:H.get 2=some (.cells [Y2 a b c .nils] false)):Reb 1 N ⟨e,H,nx⟩ (ckF k q a b c []):=
 Q0 [0,1,2] hn ⟨by rw[h0];exact .refl _,by rw[h1];exact .refl _,by rw[h4];exact .refl _,by rw[h5];exact .refl _,trivial⟩
  ⟨⟨show 0<3 by decide,_,H0,.refl _⟩,⟨show 1<3 by decide,_,H1,.refl _⟩,⟨show 2<3 by decide,_,H2,QB (row:=Y2 a b c (.vs 7 [])) ⟨.refl _,.refl _,.refl _,.zero _ _ rfl,.refl _,.refl _,.refl _,.refl _,.refl _,.refl _,.refl _,trivial⟩⟩,trivial⟩
abbrev XQ(a b c:Int)(v:AVal)(kn:Bool)(nu:Int)(ha:Bool):List AVal:=[.int .i64 a,.int .i64 b,.int .u32 c,v,.bool kn,.int .i64 nu,.bool ha,.int .i64 0,.str [],.int .i64 0,.str []]
abbrev ckG(k:Int)(q:BR)(a b c:Int)(ps:List Pg)(kn:Bool)(nu:Int)(ha:Bool):St:=⟨[(0,.ptr 0 0 0),(1,.int .i64 k),(4,.ptr 1 0 0),(5,.ptr 2 0 0)],[(0,rdB q),(1,some (.cells [Y2 0 0 0 .nils] false)),(2,some (.cells [XQ a b c (.vs 7 (ps.map encP)) kn nu ha] false))],3⟩
theorem Va[Syms]{N nx:Nat}{e:Env}{H:Heap}{k a b c nu:Int}{q:BR}{ps:List Pg}{kn ha:Bool}{row:List AVal}(hn:QG 1 nx [0,1,2]=true)(h0:e.get 0= .ptr 0 0 0)(h1:e.get 1= .int .i64 k)(h4:e.get 4= .ptr 1 0 0)(h5:e.get 5= .ptr 2 0 0)
 (H0:H.get 0=rdB q) (H1:H.get 1=some (.cells [Y2 0 0 0 .nils] false)) (H2:H.get 2=some (.cells [row] false)) (hr:Ww row (XQ a b c (.vs 7 (ps.map encP)) kn nu ha)):Reb 1 N ⟨e,H,nx⟩ (ckG k q a b c ps kn nu ha):=
 Q0 [0,1,2] hn ⟨by rw[h0];exact .refl _,by rw[h1];exact .refl _,by rw[h4];exact .refl _,by rw[h5];exact .refl _,trivial⟩
  ⟨⟨show 0<3 by decide,_,H0,.refl _⟩,⟨show 1<3 by decide,_,H1,.refl _⟩,⟨show 2<3 by decide,_,H2,QB hr⟩,trivial⟩
theorem ON(ps:List Pg)(p:Pg):List.take ps.length (List.drop 0 (ps.map encP))++[encP p]=(ps++[p]).map encP:=by
 rw[List.drop_zero,List.take_of_length_le (by simp),List.map_append];rfl
theorem Oy[Syms]{Post:AVal→Heap→Nat→Prop}(k:Int)(r:BR)(hl:r.b.length≤1000000)(hP:Post (.agg (encC (Zl k r).1)) [(0,rdB (Zl k r).2)] 2):
 fnT Q7 cFck (Qv fns) (Qn tys) plCk 100 84 [.ptr 0 0 0,.int .i64 k] [(0,rdB r)] 1 (Vt Post):=by
 unfold Zl ckR0 at hP
 dsimp only at hP
 refine⟨[0],[.ptr 0 0 0],[(0,rdB r)],rfl,⟨.refl _,trivial⟩,⟨⟨by decide,_,rfl,.refl _⟩,trivial⟩,r,rfl,rfl,rfl,by omega,?_⟩
 have l_r1:(plainR r).2.b.length≤r.b.length:=QJ _ _ _
 have n_v1:(plainR r).1≤1048576:=Zo (by decide) _
 generalize plainR r=q at *
 obtain⟨v1,r1⟩:=q
 replace l_r1:r1.b.length≤r.b.length:=l_r1
 replace n_v1:v1≤1048576:=n_v1
 dsimp only at hP
 refine⟨[0],[.ptr 0 0 0],[(0,rdB r1)],rfl,⟨.refl _,trivial⟩,⟨⟨by decide,_,rfl,.refl _⟩,trivial⟩,r1,rfl,rfl,rfl,by omega,?_⟩
 have l_r2:(plainR r1).2.b.length≤r1.b.length:=QJ _ _ _
 have n_v2:(plainR r1).1≤1048576:=Zo (by decide) _
 generalize plainR r1=q at *
 obtain⟨v2,r2⟩:=q
 replace l_r2:r2.b.length≤r1.b.length:=l_r2
 replace n_v2:v2≤1048576:=n_v2
 dsimp only at hP
 refine⟨[0],[.ptr 0 0 0,.int .i64 ((4:Nat):Int)],[(0,rdB r2)],rfl,⟨.refl _,.refl _,trivial⟩,⟨⟨by decide,_,rfl,.refl _⟩,trivial⟩,r2,4,rfl,rfl,rfl,⟨by decide,by omega⟩,?_⟩
 have l_r3:(Z0 4 r2).2.b.length≤r2.b.length:=XV _ _
 have n_v3:(Z0 4 r2).1<256^4:=M6 _ _
 generalize Z0 4 r2=q at *
 obtain⟨v3,r3⟩:=q
 replace l_r3:r3.b.length≤r2.b.length:=l_r3
 replace n_v3:v3<256^4:=n_v3
 dsimp only at hP
 have hw:=Ht n_v3
 repeat' first|refine And.intro ?_ ?_|(intro h;try first|exact dz|replace h:=cv)
 all_goals try exact cz
 refine⟨[0],[.ptr 0 0 0,.int .i64 ((200:Nat):Int),.int .i64 4],[(0,rdB r3)],rfl,⟨.refl _,.refl _,.refl _,trivial⟩,⟨⟨by decide,_,rfl,.refl _⟩,trivial⟩,r3,200,4,rfl,rfl,rfl,⟨by omega,by omega,by decide⟩,?_⟩
 have l_r4:(Qx 200 4 r3).2.b.length≤r3.b.length:=QJ _ _ _
 have n_n:(Qx 200 4 r3).1≤200:=Zo (by decide) _
 generalize Qx 200 4 r3=q at *
 obtain⟨n,r4⟩:=q
 replace l_r4:r4.b.length≤r3.b.length:=l_r4
 replace n_n:n≤200:=n_n
 dsimp only at hP
 repeat' first|refine And.intro ?_ ?_|(intro h;try first|exact dz|replace h:=cv)
 all_goals try exact cz
 refine⟨fun m s=>∃(i:Nat) (q:BR) (ps:List Pg),(i≤n∧m=n-i∧ps.length≤i∧q.b.length≤r.b.length∧ZC (n-i) q ps=ZC n r4 [])∧(s=ckS k n i q v1 v2 v3 ps∧0<ps.length∨s=ckN k n i q v1 v2 v3∧ps=[]),⟨_,ckN k n 0 r4 v1 v2 v3,Q0 [0,1,5] (by first|rfl|kernel_rfl) ⟨.refl _,.refl _,.refl _,.refl _,.refl _,.refl _,trivial⟩ ⟨⟨by decide,_,rfl,.refl _⟩,⟨by decide,_,rfl,.refl _⟩,⟨by decide,_,rfl,QB (row:=Y2 v1 v2 v3 .nils) ⟨.refl _,.refl _,Qp hw,.refl _,.refl _,.refl _,.refl _,.refl _,.refl _,.refl _,.refl _,trivial⟩⟩,trivial⟩,0,r4,[],⟨by omega,rfl,by simp,by omega,rfl⟩,.inr ⟨rfl,rfl⟩⟩,?_⟩
 rintro m s ⟨i,q,ps,⟨hi,rfl,hpl,hql,hfr⟩,⟨rfl,hp0⟩|⟨rfl,rfl⟩⟩
 ·by_cases h1:i<n
  ·by_cases h2:q.e=0
   ·skip
    have hst:n-i=n-(i+1)+1:=by omega
    have hfs:=Gu (n-(i+1)) q ps h2
    have hpl2:=JQ q
    have hcall:∀(K:AVal→Heap→Nat→Prop),K (.agg (encP (pageR q).1)) [(0,rdB (pageR q).2)] 2→Md [.ptr 0 0 0] [(0,rdB q)] 1 K:=fun K hk=>⟨q,rfl,rfl,rfl,by omega,hk⟩
    generalize pageR q=y at *
    obtain⟨p,q2⟩:=y
    dsimp only at hfs hpl2 hcall
    repeat' first|refine And.intro ?_ ?_|(intro h;try first|exact dz|replace h:=cv)
    all_goals try exact cz
    refine⟨ckS k n i q2 v1 v2 v3 (ps++[p]),?_,?_⟩
    · repeat' first|refine And.intro ?_ ?_|(intro h;try first|exact dz|replace h:=cv)
      all_goals try exact cz
      all_goals(refine⟨[0],[.ptr 0 0 0],[(0,rdB q)],rfl,⟨.refl _,trivial⟩,⟨⟨by decide,_,rfl,.refl _⟩,trivial⟩,?_⟩;refine hcall _ ?_)
      repeat' first|refine And.intro ?_ ?_|(intro h;try first|exact dz|replace h:=cv)
      all_goals try exact cz
      all_goals(refine Exists.intro () ?_;first|exact Ko (K:=7) (by exact rfl) rfl rfl rfl rfl rfl rfl rfl rfl rfl rfl rfl (ON _ _) (by simp)|exact Ko (K:=6) (by exact rfl) rfl rfl rfl rfl rfl rfl rfl rfl rfl rfl rfl (ON _ _) (by simp))
    · repeat' first|refine And.intro ?_ ?_|(intro h;try first|exact dz|replace h:=cv)
      all_goals try exact cz
      exact⟨_,ckS k n (i+1) q2 v1 v2 v3 (ps++[p]),Ko (K:=3) rfl rfl rfl rfl rfl rfl rfl (by omega) rfl rfl rfl rfl rfl rfl,⟨i+1,q2,ps++[p],⟨by omega,rfl,by simp;omega,by omega,by rw[←hfr,hst,hfs]⟩,.inl ⟨rfl,by simp⟩⟩,by omega⟩
   ·skip
    repeat' first|refine And.intro ?_ ?_|(intro h;try first|exact dz|replace h:=cv)
    all_goals try exact cz
    exact⟨_,ckS k n (i+1) q v1 v2 v3 ps,Ko (K:=3) rfl rfl rfl rfl rfl rfl rfl (by omega) rfl rfl rfl rfl rfl rfl,⟨i+1,q,ps,⟨by omega,rfl,by omega,hql,by rw[←hfr,V0 _ _ _ h2,V0 _ _ _ h2]⟩,.inl ⟨rfl,hp0⟩⟩,by omega⟩
  ·skip
   have hfe:ZC n r4 []=(ps,q):=by
    rw[←hfr,show n-i=0 by omega];rfl
   rw[hfe]at hP
   dsimp only at hP
   repeat' first|refine And.intro ?_ ?_|(intro h;try first|exact dz|replace h:=cv)
   all_goals try exact cz
   ·show YD 7 (List.take ps.length (List.drop 0 (ps.map encP)))=true
    rw[List.drop_zero,List.take_of_length_le (by simp)];exact Zv (enc:=encP) (z:=7) (fun _=>rfl) _
   refine⟨_,.refl _ _ _,_,rfl,?_⟩
   repeat' first|refine And.intro ?_ ?_|(intro h;try first|exact dz|replace h:=cv)
   all_goals try exact cz
   refine⟨_,RC (K:=5) hp0 (by exact rfl) rfl rfl rfl rfl rfl rfl rfl rfl (by show[]++List.take ps.length (List.drop 0 (ps.map encP))=_;rw[List.drop_zero,List.take_of_length_le (by simp)];rfl) (Nat.zero_add _),?_⟩
   unfold YC at hP
   dsimp only at hP
   refine⟨[0],[.ptr 0 0 0],[(0,rdB q)],rfl,⟨.refl _,trivial⟩,⟨⟨by decide,_,rfl,.refl _⟩,trivial⟩,q,rfl,rfl,rfl,by omega,?_⟩
   have l_q1:(truthR q).2.b.length≤q.b.length:=Xg _
   have n_t1:(truthR q).1≤1:=Uy _
   generalize truthR q=q at *
   obtain⟨t1,q1⟩:=q
   replace l_q1:q1.b.length≤q.b.length:=l_q1
   replace n_t1:t1≤1:=n_t1
   dsimp only at hP
   by_cases ht1:t1=1
   ·subst ht1
    rw[if_neg (fun h=>h rfl)]at hP
    repeat' first|refine And.intro ?_ ?_|(intro h;try first|exact dz|replace h:=cv)
    all_goals try exact cz
    refine⟨_,Va (k:=k) (q:=q1) (a:=v1) (b:=v2) (c:=v3) (ps:=ps) (kn:=true) (nu:=0) (ha:=false) (by exact rfl) rfl rfl rfl rfl rfl rfl rfl ⟨.refl _,.refl _,.refl _,.refl _,ZV rfl,.refl _,.refl _,.refl _,.refl _,.refl _,.refl _,trivial⟩,?_⟩
    repeat' first|refine And.intro ?_ ?_|(intro h;try first|exact dz|replace h:=cv)
    all_goals try exact cz
    refine⟨[0],[.ptr 0 0 0],[(0,rdB q1)],rfl,⟨.refl _,trivial⟩,⟨⟨by decide,_,rfl,.refl _⟩,trivial⟩,q1,rfl,rfl,rfl,by omega,?_⟩
    have l_q2:(plainR q1).2.b.length≤q1.b.length:=QJ _ _ _
    have n_v4:(plainR q1).1≤1048576:=Zo (by decide) _
    generalize plainR q1=q at *
    obtain⟨v4,q2⟩:=q
    replace l_q2:q2.b.length≤q1.b.length:=l_q2
    replace n_v4:v4≤1048576:=n_v4
    dsimp only at hP
    repeat' first|refine And.intro ?_ ?_|(intro h;try first|exact dz|replace h:=cv)
    all_goals try exact cz
    refine⟨[0],[.ptr 0 0 0],[(0,rdB q2)],rfl,⟨.refl _,trivial⟩,⟨⟨by decide,_,rfl,.refl _⟩,trivial⟩,q2,rfl,rfl,rfl,by omega,?_⟩
    have l_q3:(truthR q2).2.b.length≤q2.b.length:=Xg _
    have n_t2:(truthR q2).1≤1:=Uy _
    generalize truthR q2=q at *
    obtain⟨t2,q3⟩:=q
    replace l_q3:q3.b.length≤q2.b.length:=l_q3
    replace n_t2:t2≤1:=n_t2
    dsimp only at hP
    by_cases ht2:t2=1
    ·subst ht2
     rw[if_neg (fun h=>h rfl)]at hP
     repeat' first|refine And.intro ?_ ?_|(intro h;try first|exact dz|replace h:=cv)
     all_goals try exact cz
     refine⟨_,Va (k:=k) (q:=q3) (a:=v1) (b:=v2) (c:=v3) (ps:=ps) (kn:=true) (nu:=v4) (ha:=true) (by exact rfl) rfl rfl rfl rfl rfl rfl rfl ⟨.refl _,.refl _,.refl _,.refl _,.refl _,.refl _,ZV rfl,.refl _,.refl _,.refl _,.refl _,trivial⟩,?_⟩
     repeat' first|refine And.intro ?_ ?_|(intro h;try first|exact dz|replace h:=cv)
     all_goals try exact cz
     refine⟨[0],[.ptr 0 0 0,.int .i64 k],[(0,rdB q3)],rfl,⟨.refl _,.refl _,trivial⟩,⟨⟨by decide,_,rfl,.refl _⟩,trivial⟩,k,q3,rfl,rfl,rfl,by omega,?_⟩
     have l_q4:(Ym k q3).2.b.length≤q3.b.length:=KA _ _
     generalize Ym k q3=y at *
     obtain⟨w1,q4⟩:=y
     replace l_q4:q4.b.length≤q3.b.length:=l_q4
     dsimp only at hP
     refine⟨[0],[.ptr 0 0 0,.int .i64 k],[(0,rdB q4)],rfl,⟨.refl _,.refl _,trivial⟩,⟨⟨by decide,_,rfl,.refl _⟩,trivial⟩,k,q4,rfl,rfl,rfl,by omega,?_⟩
     generalize Ym k q4=y at *
     obtain⟨w2,q5⟩:=y
     dsimp only at hP
     repeat' first|refine And.intro ?_ ?_|(intro h;try first|exact dz|replace h:=cv)
     all_goals try exact cz
     exact Xj (k:=4) (n:=1) (row:=encC ⟨v1,v2,v3,ps,true,v4,true,w1,w2⟩) rfl rfl rfl ⟨.refl _,.refl _,.refl _,.refl _,.refl _,.refl _,.refl _,.refl _,.refl _,.refl _,.refl _,trivial⟩ (eC _) (by first|rfl|kernel_rfl) rfl hP
    ·rw[if_pos ht2]at hP
     obtain rfl:t2=0:=by omega
     repeat' first|refine And.intro ?_ ?_|(intro h;try first|exact dz|replace h:=cv)
     all_goals try exact cz
     refine⟨_,Va (k:=k) (q:=q3) (a:=v1) (b:=v2) (c:=v3) (ps:=ps) (kn:=true) (nu:=v4) (ha:=false) (by exact rfl) rfl rfl rfl rfl rfl rfl rfl ⟨.refl _,.refl _,.refl _,.refl _,.refl _,.refl _,ZV rfl,.refl _,.refl _,.refl _,.refl _,trivial⟩,?_⟩
     repeat' first|refine And.intro ?_ ?_|(intro h;try first|exact dz|replace h:=cv)
     all_goals try exact cz
     exact Xj (k:=4) (n:=1) (row:=encC ⟨v1,v2,v3,ps,true,v4,false,default,default⟩) rfl rfl rfl ⟨.refl _,.refl _,.refl _,.refl _,.refl _,.refl _,.refl _,.refl _,.refl _,.refl _,.refl _,trivial⟩ (eC _) (by first|rfl|kernel_rfl) rfl hP
   ·rw[if_pos ht1]at hP
    obtain rfl:t1=0:=by omega
    repeat' first|refine And.intro ?_ ?_|(intro h;try first|exact dz|replace h:=cv)
    all_goals try exact cz
    refine⟨_,Va (k:=k) (q:=q1) (a:=v1) (b:=v2) (c:=v3) (ps:=ps) (kn:=false) (nu:=0) (ha:=false) (by exact rfl) rfl rfl rfl rfl rfl rfl rfl ⟨.refl _,.refl _,.refl _,.refl _,ZV rfl,.refl _,.refl _,.refl _,.refl _,.refl _,.refl _,trivial⟩,?_⟩
    repeat' first|refine And.intro ?_ ?_|(intro h;try first|exact dz|replace h:=cv)
    all_goals try exact cz
    exact Xj (k:=4) (n:=1) (row:=encC ⟨v1,v2,v3,ps,false,default⟩) rfl rfl rfl ⟨.refl _,.refl _,.refl _,.refl _,.refl _,.refl _,.refl _,.refl _,.refl _,.refl _,.refl _,trivial⟩ (eC _) (by first|rfl|kernel_rfl) rfl hP
 ·by_cases h1:i<n
  ·by_cases h2:q.e=0
   ·skip
    have hst:n-i=n-(i+1)+1:=by omega
    have hfs:=Gu (n-(i+1)) q [] h2
    have hpl2:=JQ q
    have hcall:∀(K:AVal→Heap→Nat→Prop),K (.agg (encP (pageR q).1)) [(0,rdB (pageR q).2)] 2→Md [.ptr 0 0 0] [(0,rdB q)] 1 K:=fun K hk=>⟨q,rfl,rfl,rfl,by omega,hk⟩
    generalize pageR q=y at *
    obtain⟨p,q2⟩:=y
    dsimp only at hfs hpl2 hcall
    repeat' first|refine And.intro ?_ ?_|(intro h;try first|exact dz|replace h:=cv)
    all_goals try exact cz
    refine⟨ckS k n i q2 v1 v2 v3 ([p]),?_,?_⟩
    · repeat' first|refine And.intro ?_ ?_|(intro h;try first|exact dz|replace h:=cv)
      all_goals try exact cz
      all_goals(refine⟨[0],[.ptr 0 0 0],[(0,rdB q)],rfl,⟨.refl _,trivial⟩,⟨⟨by decide,_,rfl,.refl _⟩,trivial⟩,?_⟩;refine hcall _ ?_)
      repeat' first|refine And.intro ?_ ?_|(intro h;try first|exact dz|replace h:=cv)
      all_goals try exact cz
      all_goals(refine Exists.intro () ?_;first|exact Ko (K:=6) (by exact rfl) rfl rfl rfl rfl rfl rfl rfl rfl rfl rfl rfl (rfl) rfl|exact Ko (K:=5) (by exact rfl) rfl rfl rfl rfl rfl rfl rfl rfl rfl rfl rfl (rfl) rfl)
    · repeat' first|refine And.intro ?_ ?_|(intro h;try first|exact dz|replace h:=cv)
      all_goals try exact cz
      exact⟨_,ckS k n (i+1) q2 v1 v2 v3 ([p]),Ko (K:=3) rfl rfl rfl rfl rfl rfl rfl (by omega) rfl rfl rfl rfl rfl rfl,⟨i+1,q2,[p],⟨by omega,rfl,by simp,by omega,by rw[←hfr,hst,hfs];rfl⟩,.inl ⟨rfl,by simp⟩⟩,by omega⟩
   ·skip
    repeat' first|refine And.intro ?_ ?_|(intro h;try first|exact dz|replace h:=cv)
    all_goals try exact cz
    exact⟨_,ckN k n (i+1) q v1 v2 v3,Q0 [0,1,2] rfl ⟨.refl _,.refl _,.refl _,.refl _,.refl _,Qp (by omega),trivial⟩ ⟨⟨by decide,_,rfl,.refl _⟩,⟨by decide,_,rfl,.refl _⟩,⟨by decide,_,rfl,.refl _⟩,trivial⟩,⟨i+1,q,[],⟨by omega,rfl,by simp,hql,by rw[←hfr,V0 _ _ _ h2,V0 _ _ _ h2]⟩,.inr ⟨rfl,rfl⟩⟩,by omega⟩
  ·skip
   have hfe:ZC n r4 []=([],q):=by
    rw[←hfr,show n-i=0 by omega];rfl
   rw[hfe]at hP
   dsimp only at hP
   repeat' first|refine And.intro ?_ ?_|(intro h;try first|exact dz|replace h:=cv)
   all_goals try exact cz
   refine⟨_,.refl _ _ _,_,rfl,?_⟩
   repeat' first|refine And.intro ?_ ?_|(intro h;try first|exact dz|replace h:=cv)
   all_goals try exact cz
   refine⟨_,OO (by exact rfl) rfl rfl rfl rfl rfl rfl rfl,?_⟩
   unfold YC at hP
   dsimp only at hP
   refine⟨[0],[.ptr 0 0 0],[(0,rdB q)],rfl,⟨.refl _,trivial⟩,⟨⟨by decide,_,rfl,.refl _⟩,trivial⟩,q,rfl,rfl,rfl,by omega,?_⟩
   have l_q1:(truthR q).2.b.length≤q.b.length:=Xg _
   have n_t1:(truthR q).1≤1:=Uy _
   generalize truthR q=q at *
   obtain⟨t1,q1⟩:=q
   replace l_q1:q1.b.length≤q.b.length:=l_q1
   replace n_t1:t1≤1:=n_t1
   dsimp only at hP
   by_cases ht1:t1=1
   ·subst ht1
    rw[if_neg (fun h=>h rfl)]at hP
    repeat' first|refine And.intro ?_ ?_|(intro h;try first|exact dz|replace h:=cv)
    all_goals try exact cz
    refine⟨_,Va (k:=k) (q:=q1) (a:=v1) (b:=v2) (c:=v3) (ps:=[]) (kn:=true) (nu:=0) (ha:=false) (by exact rfl) rfl rfl rfl rfl rfl rfl rfl ⟨.refl _,.refl _,.refl _,.refl _,ZV rfl,.refl _,.refl _,.refl _,.refl _,.refl _,.refl _,trivial⟩,?_⟩
    repeat' first|refine And.intro ?_ ?_|(intro h;try first|exact dz|replace h:=cv)
    all_goals try exact cz
    refine⟨[0],[.ptr 0 0 0],[(0,rdB q1)],rfl,⟨.refl _,trivial⟩,⟨⟨by decide,_,rfl,.refl _⟩,trivial⟩,q1,rfl,rfl,rfl,by omega,?_⟩
    have l_q2:(plainR q1).2.b.length≤q1.b.length:=QJ _ _ _
    have n_v4:(plainR q1).1≤1048576:=Zo (by decide) _
    generalize plainR q1=q at *
    obtain⟨v4,q2⟩:=q
    replace l_q2:q2.b.length≤q1.b.length:=l_q2
    replace n_v4:v4≤1048576:=n_v4
    dsimp only at hP
    repeat' first|refine And.intro ?_ ?_|(intro h;try first|exact dz|replace h:=cv)
    all_goals try exact cz
    refine⟨[0],[.ptr 0 0 0],[(0,rdB q2)],rfl,⟨.refl _,trivial⟩,⟨⟨by decide,_,rfl,.refl _⟩,trivial⟩,q2,rfl,rfl,rfl,by omega,?_⟩
    have l_q3:(truthR q2).2.b.length≤q2.b.length:=Xg _
    have n_t2:(truthR q2).1≤1:=Uy _
    generalize truthR q2=q at *
    obtain⟨t2,q3⟩:=q
    replace l_q3:q3.b.length≤q2.b.length:=l_q3
    replace n_t2:t2≤1:=n_t2
    dsimp only at hP
    by_cases ht2:t2=1
    ·subst ht2
     rw[if_neg (fun h=>h rfl)]at hP
     repeat' first|refine And.intro ?_ ?_|(intro h;try first|exact dz|replace h:=cv)
     all_goals try exact cz
     refine⟨_,Va (k:=k) (q:=q3) (a:=v1) (b:=v2) (c:=v3) (ps:=[]) (kn:=true) (nu:=v4) (ha:=true) (by exact rfl) rfl rfl rfl rfl rfl rfl rfl ⟨.refl _,.refl _,.refl _,.refl _,.refl _,.refl _,ZV rfl,.refl _,.refl _,.refl _,.refl _,trivial⟩,?_⟩
     repeat' first|refine And.intro ?_ ?_|(intro h;try first|exact dz|replace h:=cv)
     all_goals try exact cz
     refine⟨[0],[.ptr 0 0 0,.int .i64 k],[(0,rdB q3)],rfl,⟨.refl _,.refl _,trivial⟩,⟨⟨by decide,_,rfl,.refl _⟩,trivial⟩,k,q3,rfl,rfl,rfl,by omega,?_⟩
     have l_q4:(Ym k q3).2.b.length≤q3.b.length:=KA _ _
     generalize Ym k q3=y at *
     obtain⟨w1,q4⟩:=y
     replace l_q4:q4.b.length≤q3.b.length:=l_q4
     dsimp only at hP
     refine⟨[0],[.ptr 0 0 0,.int .i64 k],[(0,rdB q4)],rfl,⟨.refl _,.refl _,trivial⟩,⟨⟨by decide,_,rfl,.refl _⟩,trivial⟩,k,q4,rfl,rfl,rfl,by omega,?_⟩
     generalize Ym k q4=y at *
     obtain⟨w2,q5⟩:=y
     dsimp only at hP
     repeat' first|refine And.intro ?_ ?_|(intro h;try first|exact dz|replace h:=cv)
     all_goals try exact cz
     exact Xj (k:=4) (n:=1) (row:=encC ⟨v1,v2,v3,[],true,v4,true,w1,w2⟩) rfl rfl rfl ⟨.refl _,.refl _,.refl _,.refl _,.refl _,.refl _,.refl _,.refl _,.refl _,.refl _,.refl _,trivial⟩ (eC _) (by first|rfl|kernel_rfl) rfl hP
    ·rw[if_pos ht2]at hP
     obtain rfl:t2=0:=by omega
     repeat' first|refine And.intro ?_ ?_|(intro h;try first|exact dz|replace h:=cv)
     all_goals try exact cz
     refine⟨_,Va (k:=k) (q:=q3) (a:=v1) (b:=v2) (c:=v3) (ps:=[]) (kn:=true) (nu:=v4) (ha:=false) (by exact rfl) rfl rfl rfl rfl rfl rfl rfl ⟨.refl _,.refl _,.refl _,.refl _,.refl _,.refl _,ZV rfl,.refl _,.refl _,.refl _,.refl _,trivial⟩,?_⟩
     repeat' first|refine And.intro ?_ ?_|(intro h;try first|exact dz|replace h:=cv)
     all_goals try exact cz
     exact Xj (k:=4) (n:=1) (row:=encC ⟨v1,v2,v3,[],true,v4,false,default,default⟩) rfl rfl rfl ⟨.refl _,.refl _,.refl _,.refl _,.refl _,.refl _,.refl _,.refl _,.refl _,.refl _,.refl _,trivial⟩ (eC _) (by first|rfl|kernel_rfl) rfl hP
   ·rw[if_pos ht1]at hP
    obtain rfl:t1=0:=by omega
    repeat' first|refine And.intro ?_ ?_|(intro h;try first|exact dz|replace h:=cv)
    all_goals try exact cz
    refine⟨_,Va (k:=k) (q:=q1) (a:=v1) (b:=v2) (c:=v3) (ps:=[]) (kn:=false) (nu:=0) (ha:=false) (by exact rfl) rfl rfl rfl rfl rfl rfl rfl ⟨.refl _,.refl _,.refl _,.refl _,ZV rfl,.refl _,.refl _,.refl _,.refl _,.refl _,.refl _,trivial⟩,?_⟩
    repeat' first|refine And.intro ?_ ?_|(intro h;try first|exact dz|replace h:=cv)
    all_goals try exact cz
    exact Xj (k:=4) (n:=1) (row:=encC ⟨v1,v2,v3,[],false,default⟩) rfl rfl rfl ⟨.refl _,.refl _,.refl _,.refl _,.refl _,.refl _,.refl _,.refl _,.refl _,.refl _,.refl _,trivial⟩ (eC _) (by first|rfl|kernel_rfl) rfl hP
def JA:SpecT:=fun args H nx Post=>∃(k:Int) (r:BR),args=[.ptr 0 0 0,.int .i64 k]∧H=[(0,rdB r)]∧nx=1∧r.b.length≤1000000∧Post (.agg (encC (Zl k r).1)) [(0,rdB (Zl k r).2)] 2
theorem LE[Syms]:JA.ok Try.prog 84:=by
 rintro args H nx Post ⟨k,r,rfl,rfl,rfl,h1,h⟩
 exact XB.forget (Qg Qh Qi Q3 S0 Qt (Oy k r h1 h))
theorem Kp(k:Int)(r:BR):(Zl k r).2.b.length≤r.b.length:=by
 have pagesR_len:∀(k:Nat) (r:BR) (s:List Pg),(ZC k r s).2.b.length≤r.b.length:=by
  intro k
  induction k with
  |zero=>intro r s;exact Nat.le_refl _
  |succ k ih=>
   intro r s
   rw[ZC]
   split
   ·exact Nat.le_refl _
   ·exact Nat.le_trans (ih _ _) (JQ _)
 have knowR_len:∀(r:BR),(YC k r).2.b.length≤r.b.length:=by
  intro r
  unfold YC plainR
  dsimp only
  split
  ·exact Xg _
  ·split
   ·exact Nat.le_trans (Xg _) (Nat.le_trans (QJ _ _ _) (Xg _))
   ·exact Nat.le_trans (KA _ _) (Nat.le_trans (KA _ _) (Nat.le_trans (Xg _) (Nat.le_trans (QJ _ _ _) (Xg _))))
 unfold Zl ckR0 plainR
 exact Nat.le_trans (knowR_len _) (Nat.le_trans (pagesR_len _ _ _) (Nat.le_trans (QJ _ _ _) (Nat.le_trans (XV _ _) (Nat.le_trans (QJ _ _ _) (QJ _ _ _)))))
end
section
set_option maxRecDepth 100000
set_option maxHeartbeats 4000000
abbrev cFgr[Syms]:CallT:=Q6 57 (QD Uw) (Q6 84 (QD JA) (Q6 85 (Ft Q7 Q7 (Qv fns) (Qn tys) (Qz plt) 100) Q7))
theorem RZ[Syms]:cFgr.ok Try.prog:=Q4 UF (Q4 LE (Xz (XX Qh Qi Q3 Q9 Qt) Q9))
noncomputable def plGr:Nat→Nat→Pl:=XG [(58,4),(58,6),(58,2)] (Qz plt)
abbrev Zs(a:Int)(v:AVal):List AVal:=[.int .i64 a,v]
def gpS(ls:List Lf)(i:Nat)(q:BR)(n:Int)(cs:List Ck):St:=⟨[(0,.ptr 0 0 0),(1,vL ls),(4,.ptr 1 0 0),(5,.ptr 2 0 0),(6,.int .i64 i)],[(0,rdB q),(1,some (.cells [Zs 0 .nils] false)),(2,some (.cells [Zs n (.slice 3 0 cs.length 11 none)] false)),(3,some (.cells (cs.map encC) false))],4⟩
def gpF(q:BR)(n:Int)(cs:List Ck):St:=⟨[(0,.ptr 0 0 0),(4,.ptr 1 0 0),(5,.ptr 2 0 0)],[(0,rdB q),(1,some (.cells [Zs 0 .nils] false)),(2,some (.cells [Zs n (.vs 11 (cs.map encC))] false))],3⟩
theorem JZ[Syms]{N B K nx:Nat}{e:Env}{H:Heap}{ls:List Lf}{n i1:Int}{i:Nat}{q:BR}{cs:List Ck}{rows:List (List AVal)}{len:Nat}(hn:QG 1 nx [0,1,B,K]=true)(h0:e.get 0= .ptr 0 0 0)(h1:e.get 1=vL ls)(h4:e.get 4= .ptr 1 0 0)(h5:e.get 5= .ptr B 0 0)(h6:e.get 6= .int .i64 i1)(hi:i1=i)
 (H0:H.get 0=rdB q) (H1:H.get 1=some (.cells [Zs 0 .nils] false)) (H2:H.get B=some (.cells [Zs n (.slice K 0 len 11 none)] false)) (HK:H.get K=some (.cells rows false)) (hr:rows=cs.map encC) (hl:len=cs.length):Reb 1 N ⟨e,H,nx⟩ (gpS ls i q n cs):=by
 subst hr hl hi
 exact Q0 [0,1,B,K] hn ⟨by rw[h0];exact .refl _,by rw[h1];exact .refl _,by rw[h4];exact .refl _,by rw[h5];exact .refl _,by rw[h6];exact .refl _,trivial⟩
  ⟨⟨show 0<4 by decide,_,H0,.refl _⟩,⟨show 1<4 by decide,_,H1,.refl _⟩,⟨show 2<4 by decide,_,H2,.refl _⟩,⟨show 3<4 by decide,_,HK,Qb (fC _)⟩,trivial⟩
theorem Rh[Syms]{N B K nx:Nat}{e:Env}{H:Heap}{n:Int}{q:BR}{cs:List Ck}{rows:List (List AVal)}{len:Nat}(hp:0<cs.length)(hn:QG 1 nx [0,1,B,K]=true)(h0:e.get 0= .ptr 0 0 0)(h4:e.get 4= .ptr 1 0 0)(h5:e.get 5= .ptr B 0 0)
 (H0:H.get 0=rdB q) (H1:H.get 1=some (.cells [Zs 0 .nils] false)) (H2:H.get B=some (.cells [Zs n (.slice K 0 len 11 none)] false)) (HK:H.get K=some (.cells rows false)) (hr:rows=cs.map encC) (hl:len=cs.length):Reb 1 N ⟨e,H,nx⟩ (gpF q n cs):=by
 subst hr hl
 have hcut:((cs.map encC).drop 0).take cs.length=cs.map encC:=by rw[List.drop_zero,List.take_of_length_le (by simp)]
 have hs:FzV 3 (cs.map encC) (.slice 3 0 cs.length 11 none) (.vs 11 (cs.map encC)):=by
  have:=FzV.sl (n:=3) (rows:=cs.map encC) 0 cs.length 11 none hp (by simp)
  rwa [hcut]at this
 refine(Q0 (e3:=[(0,.ptr 0 0 0),(4,.ptr 1 0 0),(5,.ptr 2 0 0)]) (H3:=[(0,rdB q),(1,some (.cells [Zs 0 .nils] false)),(2,some (.cells [Zs n (.slice 3 0 cs.length 11 none)] false)),(3,some (.cells (cs.map encC) false))]) [0,1,B,K] hn ⟨by rw[h0];exact .refl _,by rw[h4];exact .refl _,by rw[h5];exact .refl _,trivial⟩
  ⟨⟨show 0<4 by decide,_,H0,.refl _⟩,⟨show 1<4 by decide,_,H1,.refl _⟩,⟨show 2<4 by decide,_,H2,.refl _⟩,⟨show 3<4 by decide,_,HK,Qb (fC _)⟩,trivial⟩).trans ?_
 refine(QV (n:=3) (e3:=[(0,.ptr 0 0 0),(4,.ptr 1 0 0),(5,.ptr 2 0 0)]) (H3:=[(0,rdB q),(1,some (.cells [Zs 0 .nils] false)),(2,some (.cells [Zs n (.vs 11 (cs.map encC))] false))]) rfl (fC cs) ⟨.same _,.same _,.same _,trivial⟩
  ⟨⟨by decide,_,rfl,.same _⟩,⟨by decide,_,rfl,.same _⟩,⟨by decide,_,rfl,.cells [Zs n (.slice 3 0 cs.length 11 none)] [Zs n (.vs 11 (cs.map encC))] false rfl (fun j r r' h h'=>?_)⟩,trivial⟩).trans (Q0 [0,1,2] rfl ⟨.refl _,.refl _,.refl _,trivial⟩ ⟨⟨by decide,_,rfl,.refl _⟩,⟨by decide,_,rfl,.refl _⟩,⟨by decide,_,rfl,.refl _⟩,trivial⟩)
 cases j with
 |zero=>
  cases h;cases h'
  exact⟨.same _,hs,trivial⟩
 |succ j=>simp at h
theorem Oe[Syms]{N B nx:Nat}{e:Env}{H:Heap}{n:Int}{q:BR}(hn:QG 1 nx [0,1,B]=true)(h0:e.get 0= .ptr 0 0 0)(h4:e.get 4= .ptr 1 0 0)(h5:e.get 5= .ptr B 0 0)
 (H0:H.get 0=rdB q) (H1:H.get 1=some (.cells [Zs 0 .nils] false)) (H2:H.get B=some (.cells [Zs n .nils] false)):Reb 1 N ⟨e,H,nx⟩ (gpF q n []):=
 Q0 [0,1,B] hn ⟨by rw[h0];exact .refl _,by rw[h4];exact .refl _,by rw[h5];exact .refl _,trivial⟩
  ⟨⟨show 0<3 by decide,_,H0,.refl _⟩,⟨show 1<3 by decide,_,H1,.refl _⟩,⟨show 2<3 by decide,_,H2,QB (row:=Zs n (.vs 11 [])) ⟨.refl _,.zero _ _ rfl,trivial⟩⟩,trivial⟩
def gpN(ls:List Lf)(q:BR)(n:Int):St:=⟨[(0,.ptr 0 0 0),(1,vL ls),(4,.ptr 1 0 0),(5,.ptr 2 0 0),(6,.int .i64 0)],[(0,rdB q),(1,some (.cells [Zs 0 .nils] false)),(2,some (.cells [Zs n .nils] false))],3⟩
theorem eR(p:Rw):∀x∈encR p,x.flat=true:=fR [p] _ (List.mem_singleton.2 rfl)
theorem Xd(ps:List Ck)(p:Ck):List.take ps.length (List.drop 0 (ps.map encC))++[encC p]=(ps++[p]).map encC:=by
 rw[List.drop_zero,List.take_of_length_le (by simp),List.map_append];rfl
abbrev Q5(ls:List Lf):List Int:=ls.map (·.kind)
theorem Jd{ls:List Lf}{i:Nat}(hi:i<ls.length)(r:BR)(s:List Ck)(h:r.e=0):Z6 ((Q5 ls).drop i) r s=Z6 ((Q5 ls).drop (i+1)) (Zl (ls.getD i default).kind r).2 (s++[(Zl (ls.getD i default).kind r).1]):=by
 have:(Q5 ls).drop i=(ls.getD i default).kind::(Q5 ls).drop (i+1):=by
  rw[List.drop_eq_getElem_cons (by simpa using hi)]
  simp[hi]
 rw[this,Z6,if_neg (fun x=>x h)]
theorem Jc(k:List Int)(r:BR)(s:List Ck)(h:r.e≠0):Z6 k r s=(s,r):=by
 cases k with
 |nil=>rfl
 |cons k ks=>rw[Z6,if_pos h]
theorem Ox[Syms]{Post:AVal→Heap→Nat→Prop}(ls:List Lf)(r:BR)(hl:r.b.length≤1000000)(hll:ls.length≤1000)(hP:Post (.agg (encR (Ze (Q5 ls) r).1)) [(0,rdB (Ze (Q5 ls) r).2)] 2):
 fnT Q7 cFgr (Qv fns) (Qn tys) plGr 100 58 [.ptr 0 0 0,vL ls] [(0,rdB r)] 1 (Vt Post):=by
 unfold Ze at hP
 dsimp only at hP
 refine .inr ⟨fun l m s=>l=0∧ ∃(n:Int) (i:Nat) (q:BR) (cs:List Ck),(i≤ls.length∧m=ls.length-i∧0<cs.length∧cs.length≤i∧q.b.length≤r.b.length∧((plainR r).1:Nat)=n∧Z6 ((Q5 ls).drop i) q cs=Z6 (Q5 ls) (plainR r).2 [])∧s=gpS ls i q n cs,?_,?_⟩
 ·refine⟨[0],[.ptr 0 0 0],[(0,rdB r)],rfl,⟨.refl _,trivial⟩,⟨⟨by decide,_,rfl,.refl _⟩,trivial⟩,r,rfl,rfl,rfl,by omega,?_⟩
  have l_r1:(plainR r).2.b.length≤r.b.length:=QJ _ _ _
  have n_v1:(plainR r).1≤1048576:=Zo (by decide) _
  generalize plainR r=q at *
  obtain⟨v1,r1⟩:=q
  replace l_r1:r1.b.length≤r.b.length:=l_r1
  replace n_v1:v1≤1048576:=n_v1
  dsimp only at hP
  repeat' first|refine And.intro ?_ ?_|(intro h;try first|exact dz|replace h:=cv)
  all_goals try exact cz
  refine⟨gpN ls r1 v1,Q0 [0,1,3] (by exact rfl) ⟨.refl _,.refl _,.refl _,.refl _,.refl _,trivial⟩ ⟨⟨by decide,_,rfl,.refl _⟩,⟨by decide,_,rfl,.refl _⟩,⟨by decide,_,rfl,.refl _⟩,trivial⟩,?_⟩
  by_cases h1:0<ls.length∧r1.e=0
  ·obtain⟨h1,h2⟩:=h1
   have hfs:=Jd (i:=0) (by omega) r1 [] h2
   have hpl2:=Kp (ls.getD 0 default).kind r1
   have hcall:∀(K:AVal→Heap→Nat→Prop),K (.agg (encC (Zl (ls.getD 0 default).kind r1).1)) [(0,rdB (Zl (ls.getD 0 default).kind r1).2)] 2→JA [.ptr 0 0 0,.int .i64 (ls.getD 0 default).kind] [(0,rdB r1)] 1 K:=fun K hk=>⟨_,r1,rfl,rfl,rfl,by omega,hk⟩
   generalize Zl (ls.getD 0 default).kind r1=y at *
   obtain⟨p,q2⟩:=y
   dsimp only at hfs hpl2 hcall
   repeat' first|refine And.intro ?_ ?_|(intro h;try first|exact dz|replace h:=cv)
   all_goals try exact cz
   refine⟨gpS ls 0 q2 v1 ([p]),?_,?_⟩
   · repeat' first|refine And.intro ?_ ?_|(intro h;try first|exact dz|replace h:=cv)
     all_goals try exact cz
     all_goals(refine⟨[0],[.ptr 0 0 0,.int .i64 (ls.getD 0 default).kind],[(0,rdB r1)],rfl,⟨.refl _,.refl _,trivial⟩,⟨⟨by decide,_,rfl,.refl _⟩,trivial⟩,?_⟩;refine hcall _ ?_)
     repeat' first|refine And.intro ?_ ?_|(intro h;try first|exact dz|replace h:=cv)
     all_goals try exact cz
     all_goals(refine Exists.intro () ?_;first|exact JZ (B:=2) (K:=6) (by exact rfl) rfl rfl rfl rfl rfl (by rfl) rfl rfl rfl rfl rfl rfl|exact JZ (B:=2) (K:=5) (by exact rfl) rfl rfl rfl rfl rfl (by rfl) rfl rfl rfl rfl rfl rfl)
   · repeat' first|refine And.intro ?_ ?_|(intro h;try first|exact dz|replace h:=cv)
     all_goals try exact cz
     exact⟨_,gpS ls (0+1) q2 v1 ([p]),JZ (B:=2) (K:=3) rfl rfl rfl rfl rfl rfl (by omega) rfl rfl rfl rfl rfl rfl,⟨rfl,v1,0+1,q2,[p],⟨by omega,rfl,by simp,by simp,by omega,rfl,by rw[show([]:List Ck)++[p]=[p] from rfl]at hfs;rw[←hfs];rfl⟩,rfl⟩⟩
  ·skip
   have hfe:Z6 (Q5 ls) r1 []=([],r1):=by
    by_cases h2:r1.e=0
    ·have:ls=[]:=List.eq_nil_of_length_eq_zero (by omega)
     subst this;rfl
    ·exact Jc _ _ _ h2
   rw[hfe]at hP
   dsimp only at hP
   repeat' first|refine And.intro ?_ ?_|(intro h;try first|exact dz|replace h:=cv)
   all_goals try exact cz
   all_goals refine⟨_,.refl _ _ _,_,rfl,?_⟩
   repeat' first|refine And.intro ?_ ?_|(intro h;try first|exact dz|replace h:=cv)
   all_goals try exact cz
   all_goals refine⟨_,Oe (B:=2) (by exact rfl) rfl rfl rfl rfl rfl rfl,?_⟩
   repeat' first|refine And.intro ?_ ?_|(intro h;try first|exact dz|replace h:=cv)
   all_goals try exact cz
   all_goals exact Xj (k:=4) (n:=1) (row:=encR ⟨v1,[]⟩) rfl rfl rfl ⟨.refl _,.refl _,trivial⟩ (eR _) (by first|rfl|kernel_rfl) rfl hP
 ·rintro l rest m s hl0 ⟨rfl,n,i,q,cs,⟨hi,rfl,hc0,hci,hql,hn,hfr⟩,rfl⟩
  cases hl0
  by_cases h1:i<ls.length∧q.e=0
  ·obtain⟨h1,h2⟩:=h1
   have hfs:=Jd (i:=i) (by omega) q cs h2
   have hpl2:=Kp (ls.getD i default).kind q
   have hcall:∀(K:AVal→Heap→Nat→Prop),K (.agg (encC (Zl (ls.getD i default).kind q).1)) [(0,rdB (Zl (ls.getD i default).kind q).2)] 2→JA [.ptr 0 0 0,.int .i64 (ls.getD i default).kind] [(0,rdB q)] 1 K:=fun K hk=>⟨_,q,rfl,rfl,rfl,by omega,hk⟩
   generalize Zl (ls.getD i default).kind q=y at *
   obtain⟨p,q2⟩:=y
   dsimp only at hfs hpl2 hcall
   repeat' first|refine And.intro ?_ ?_|(intro h;try first|exact dz|replace h:=cv)
   all_goals try exact cz
   refine⟨gpS ls i q2 n (cs++[p]),?_,?_⟩
   · repeat' first|refine And.intro ?_ ?_|(intro h;try first|exact dz|replace h:=cv)
     all_goals try exact cz
     all_goals(refine⟨[0],[.ptr 0 0 0,.int .i64 (ls.getD i default).kind],[(0,rdB q)],rfl,⟨.refl _,.refl _,trivial⟩,⟨⟨by decide,_,rfl,.refl _⟩,trivial⟩,?_⟩;refine hcall _ ?_)
     repeat' first|refine And.intro ?_ ?_|(intro h;try first|exact dz|replace h:=cv)
     all_goals try exact cz
     all_goals(refine Exists.intro () ?_;first|exact JZ (B:=2) (K:=7) (by exact rfl) rfl rfl rfl rfl rfl (by rfl) rfl rfl rfl rfl (Xd _ _) (by simp)|exact JZ (B:=2) (K:=6) (by exact rfl) rfl rfl rfl rfl rfl (by rfl) rfl rfl rfl rfl (Xd _ _) (by simp))
   · repeat' first|refine And.intro ?_ ?_|(intro h;try first|exact dz|replace h:=cv)
     all_goals try exact cz
     exact⟨_,gpS ls (i+1) q2 n (cs++[p]),JZ (B:=2) (K:=3) rfl rfl rfl rfl rfl rfl (by omega) rfl rfl rfl rfl rfl rfl,⟨rfl,n,i+1,q2,cs++[p],⟨by omega,rfl,by simp,by simp;omega,by omega,hn,by rw[←hfr,hfs]⟩,rfl⟩,by omega⟩
  ·skip
   have hfe:Z6 (Q5 ls) (plainR r).2 []=(cs,q):=by
    rw[←hfr]
    by_cases h2:q.e=0
    ·have:(Q5 ls).drop i=[]:=List.drop_of_length_le (by simp;omega)
     rw[this];rfl
    ·exact Jc _ _ _ h2
   rw[hfe,hn]at hP
   dsimp only at hP
   repeat' first|refine And.intro ?_ ?_|(intro h;try first|exact dz|replace h:=cv)
   all_goals try exact cz
   all_goals(try((with_reducible show _=true);show YD 11 (List.take cs.length (List.drop 0 (cs.map encC)))=true;rw[List.drop_zero,List.take_of_length_le (by simp)];exact Zv (enc:=encC) (z:=11) (fun _=>rfl) _))
   all_goals refine⟨_,.refl _ _ _,_,rfl,?_⟩
   repeat' first|refine And.intro ?_ ?_|(intro h;try first|exact dz|replace h:=cv)
   all_goals try exact cz
   all_goals refine⟨_,Rh (B:=2) (K:=5) hc0 (by exact rfl) rfl rfl rfl rfl rfl rfl rfl (by show[]++List.take cs.length (List.drop 0 (cs.map encC))=_;rw[List.drop_zero,List.take_of_length_le (by simp)];rfl) (Nat.zero_add _),?_⟩
   repeat' first|refine And.intro ?_ ?_|(intro h;try first|exact dz|replace h:=cv)
   all_goals try exact cz
   all_goals exact Xj (k:=4) (n:=1) (row:=encR ⟨n,cs⟩) rfl rfl rfl ⟨.refl _,.refl _,trivial⟩ (eR _) (by first|rfl|kernel_rfl) rfl hP
def Jz:SpecT:=fun args H nx Post=>∃(ls:List Lf) (r:BR),args=[.ptr 0 0 0,vL ls]∧H=[(0,rdB r)]∧nx=1∧(r.b.length≤1000000∧ls.length≤1000)∧Post (.agg (encR (Ze (Q5 ls) r).1)) [(0,rdB (Ze (Q5 ls) r).2)] 2
theorem LD[Syms]:Jz.ok Try.prog 58:=by
 rintro args H nx Post ⟨ls,r,rfl,rfl,rfl,⟨h1,h2⟩,h⟩
 exact XB.forget (Qg Qh Qi Q3 RZ Qt (Ox ls r h1 h2 h))
theorem F8(ks:List Int)(r:BR):(Ze ks r).2.b.length≤r.b.length:=by
 have chunksR_len:∀(ks:List Int) (r:BR) (s:List Ck),(Z6 ks r s).2.b.length≤r.b.length:=by
  intro ks
  induction ks with
  |nil=>intro r s;exact Nat.le_refl _
  |cons k ks ih=>
   intro r s
   rw[Z6]
   split
   ·exact Nat.le_refl _
   ·exact Nat.le_trans (ih _ _) (Kp _ _)
 unfold Ze plainR
 exact Nat.le_trans (chunksR_len _ _ _) (QJ _ _ _)
end
section
set_option maxRecDepth 100000
set_option maxHeartbeats 4000000
def ZJ(lv:List Lf)(n:Nat):List (List AVal):=lv.map ZM++List.replicate (n-lv.length) (ZM lf0)
def lE(fs:List Fd)(ps:List Int)(n i:Nat)(out:AVal):Env:=[(0,vF fs),(3,vI ps),(4,.slice 0 0 n 4 none),(5,out),(15,vF fs),(16,.int .i64 n),(17,.int .i64 i)]
def lA(fs:List Fd)(ps:List Int)(n i:Nat):St:=⟨lE fs ps n i .nils,[(0,some (.cells (ZJ (Qo fs ps i) n) false))],1⟩
def lB(fs:List Fd)(ps:List Int)(n i:Nat):St:=⟨lE fs ps n i (.slice 1 0 (Zh fs ps i).length 4 none),[(0,some (.cells (ZJ (Qo fs ps i) n) false)),(1,some (.cells ((Zh fs ps i).map ZM) false))],2⟩
theorem Th(n:Nat):Qm (List.replicate n (ZM lf0)):=fun r hr x hx=>by
 rw[List.eq_of_mem_replicate hr]at hx
 simp[ZM]at hx;rcases hx with rfl|rfl|rfl|rfl<;>rfl
theorem fLR(lv:List Lf)(n:Nat):Qm (ZJ lv n):=Qw (fL _) (Th _)
theorem Dr{lv:List Lf}{n:Nat}(h:lv.length≤n):(ZJ lv n).length=n:=by simp[ZJ];omega
theorem Cz{lv:List Lf}{n p:Nat}(h:p<lv.length):(ZJ lv n).getD p []=ZM (lv.getD p default):=by
 simp[ZJ,List.getD_eq_getElem?_getD,List.getElem?_append_left,h]
theorem JU{lv:List Lf}{n:Nat}(h:lv.length<n):(ZJ lv n).getD lv.length []=ZM lf0:=by
 obtain⟨m,hm⟩:∃m,n-lv.length=m+1:=⟨n-lv.length-1,by omega⟩
 simp[ZJ,List.getD_eq_getElem?_getD,hm,List.replicate_succ]
theorem Ln{lv:List Lf}{n:Nat}(h:lv.length<n)(x:Lf):(ZJ lv n).set lv.length (ZM x)=ZJ (lv++[x]) n:=by
 obtain⟨m,hm⟩:∃m,n-lv.length=m+1:=⟨n-lv.length-1,by omega⟩
 simp only[ZJ,hm,List.replicate_succ]
 rw[List.set_append_right (h:=by simp)]
 simp
 omega
theorem Zy{fs:List Fd}{ps:List Int}{n i:Nat}{x y z w:Int}(h:i<n)(hM:mkL fs ps (Qo fs ps i) i=⟨x,y,z,w⟩):
 (ZJ (Qo fs ps i) n).set (0+i) (QF ((ZJ (Qo fs ps i) n).getD (0+i) []) 0 [.int .i64 x,.int .i64 y,.int .i64 z,.int .i64 w])=ZJ (Qo fs ps (i+1)) n:=by
 have h1:=JU (lv:=Qo fs ps i) (n:=n) (by rw[Zk];exact h)
 have h2:=Ln (lv:=Qo fs ps i) (n:=n) (by rw[Zk];exact h) ⟨x,y,z,w⟩
 rw[Zk]at h1 h2
 rw[Nat.zero_add,h1,Qo,hM,←h2]
 rfl
def QH(fs:List Fd)(ps:List Int)(i:Nat):Lf:=(Qo fs ps i).getD (ps.getD i 0).toNat default
def lS(fs:List Fd)(ps:List Int)(i:Nat)(b:Bool):St:=match b with
 |false=>⟨lE fs ps fs.length i .nils++[(6,.int .i64 i),(7,.ptr 1 0 0),(8,.ptr 2 0 0),(9,.int .i64 (ps.getD i 0))],[(0,some (.cells (ZJ (Qo fs ps i) fs.length) false)),(1,some (.cells [encF (fs.getD i default)] false)),(2,some (.cells [ZM ⟨i,(QH fs ps i).r,(QH fs ps i).d,(fs.getD i default).kind⟩] false))],3⟩
 |true=>⟨lE fs ps fs.length i (.slice 1 0 (Zh fs ps i).length 4 none)++[(6,.int .i64 i),(7,.ptr 2 0 0),(8,.ptr 3 0 0),(9,.int .i64 (ps.getD i 0))],[(0,some (.cells (ZJ (Qo fs ps i) fs.length) false)),(1,some (.cells ((Zh fs ps i).map ZM) false)),(2,some (.cells [encF (fs.getD i default)] false)),(3,some (.cells [ZM ⟨i,(QH fs ps i).r,(QH fs ps i).d,(fs.getD i default).kind⟩] false))],4⟩
def lInv(fs:List Fd)(ps:List Int)(n:Nat)(m:Nat)(s:St):Prop:=∃i:Nat,(i≤n∧m=n-i)∧((Zh fs ps i=[]∧s=lA fs ps n i)∨s=lB fs ps n i)
theorem O5[Syms](fs:List Fd)(hF:FsOk fs):
 fnT Q7 (Q6 73 (Xc S_par) (Q6 74 (tB Q7 Q7) Q7)) (Qv fns) (Qn tys) (Qz plt) 100 44 [vF fs] [] 0 (fun v H _=>v=vL (Qu fs)∧H=[]):=by
 have hl:=hF.len
 refine⟨fs,rfl,hF,?_⟩
 have hpl:=XS fs
 have ha:=UQ fs
 unfold Qu
 generalize Qf fs=ps at *
 repeat' first|refine And.intro ?_ ?_|(intro h;try simp only[decide_eq_true_eq,decide_eq_false_iff_not,Int.not_lt,Int.not_le,Int.toNat_natCast,↓reduceIte,Nat.reduceAdd,reduceCtorEq,Int.reduceLT,Int.lt_irrefl,gt_iff_lt,not_true_eq_false,not_false_eq_true,Bool.not_true,Bool.not_false,decide_false,decide_true,Int.reduceLE,Int.reduceSub,Bool.false_eq_true,Bool.true_eq_false,Nat.reduceEqDiff,Nat.one_ne_zero,Nat.reduceLT,and_self,and_true,true_and,Int.natCast_zero,Int.cast_ofNat_Int,List.length_nil,ne_eq,Decidable.not_not]at h)
 all_goals(try first|exact PlanIs.mk (by kernel_rfl)|omega|(show(_:Int)*((32:Nat):Int)≤_;omega)|(show(_:Int)*((8:Nat):Int)≤_;omega)|(show(_:Int)*((24:Nat):Int)≤_;omega)|exact rfl|exact Nat.le_of_ble_eq_true rfl|(show(_:Nat)≤(_:Nat);simp;done)|(show(_:Nat)≤(_:Nat);simp;omega))
 refine⟨lInv fs ps fs.length,⟨_,lA fs ps fs.length 0,Q0 [0] rfl ?_ ?_,0,⟨by omega,rfl⟩,.inl ⟨rfl,rfl⟩⟩,?_⟩
 ·exact⟨.refl _,.refl _,.cap _ _ _ _ _,.refl _,.refl _,.refl _,.refl _,trivial⟩
 ·exact⟨⟨by decide,_,rfl,Q1 rfl (fLR _ _)⟩,trivial⟩
 rintro m s ⟨i,⟨hi,rfl⟩,(⟨h0,rfl⟩|rfl)⟩
 ·have hol:=Zu fs ps i
  have hll:=Zk fs ps i
  by_cases hin:i<fs.length
  ·have hxi:(ZJ (Qo fs ps i) fs.length).getD i []=ZM lf0:=by have:=JU (lv:=Qo fs ps i) (n:=fs.length) (by rw[Zk];exact hin);rwa [Zk]at this
   have hq:=ha i hin
   have hln:(ZJ (Qo fs ps i) fs.length).length=fs.length:=Dr (by omega)
   rcases Int.lt_or_le (ps.getD i 0) 0 with hp|hp
   ·have hB:Wn (Qo fs ps i) (ps.getD i 0)=lf0:=by rw[Wn,if_neg (by omega)]
    repeat' first|refine And.intro ?_ ?_|(intro h;(try first|replace h:=of_decide_eq_true h|replace h:=of_decide_eq_false h);(try simp only[Qd,YZ,Yh,Ql,Z9,Vp,Vo,Vn,QO,YY,YX,YW,QA,Vm,Vk,Vj,Vi,YV,YU,YT,YS,Nat.zero_add,Nat.add_zero,Int.toNat_natCast,Int.toNat_zero]at h);try simp only[decide_eq_true_eq,decide_eq_false_iff_not,Int.not_lt,Int.not_le,Int.toNat_natCast,↓reduceIte,Nat.reduceAdd,reduceCtorEq,Int.reduceLT,Int.lt_irrefl,gt_iff_lt,not_true_eq_false,not_false_eq_true,Bool.not_true,Bool.not_false,decide_false,decide_true,Int.reduceLE,Int.reduceSub,Bool.false_eq_true,Bool.true_eq_false,Nat.reduceEqDiff,Nat.one_ne_zero,Nat.reduceLT,and_self,and_true,true_and,Int.natCast_zero,Int.cast_ofNat_Int,List.length_nil,ne_eq,Decidable.not_not]at h)
    all_goals(try first|exact PlanIs.mk (by kernel_rfl)|omega|(show(_:Int)*((32:Nat):Int)≤_;omega)|(show(_:Int)*((8:Nat):Int)≤_;omega)|(show(_:Int)*((24:Nat):Int)≤_;omega)|exact rfl|exact Nat.le_of_ble_eq_true rfl|(show(_:Nat)≤(_:Nat);simp;done)|(show(_:Nat)≤(_:Nat);simp;omega))
    all_goals(try first|(show(-9223372036854775808:Int)≤lf0.r+1;first|decide|omega)|(show(-9223372036854775808:Int)≤lf0.d+1;first|decide|omega)|(show lf0.r+1≤(9223372036854775807:Int);first|decide|omega)|(show lf0.d+1≤(9223372036854775807:Int);first|decide|omega))
    all_goals(try first|(show 0+i<(ZJ (Qo fs ps i) fs.length).length;rw[hln];omega)|(show 0+4≤(List.length ((ZJ (Qo fs ps i) fs.length).getD (0+i) []));rw[Nat.zero_add i,hxi];exact Nat.le_refl 4))
    all_goals first
    |(have hr:(fs.getD i default).rep=2:=by assumption
      have hk:(fs.getD i default).kind=0:=by assumption
      have hM:mkL fs ps (Qo fs ps i) i=⟨i,lf0.r+1,lf0.d+1,(fs.getD i default).kind⟩:=by(simp only[mkL,hB];rw[if_pos hr,if_pos (by omega)])
      refine⟨_,lA fs ps fs.length (i+1),Q0 [0] rfl ?_ ?_,⟨i+1,⟨by omega,rfl⟩,.inl ⟨by rw[Qc,if_neg (by omega)];exact h0,rfl⟩⟩,by omega⟩
      ·exact⟨.refl _,.refl _,.refl _,.refl _,.refl _,.refl _,.refl _,trivial⟩
      ·refine⟨⟨by decide,_,rfl,Q1 ?_ (fLR _ _)⟩,trivial⟩
       ·exact Zy (x:=i) (y:=lf0.r+1) (z:=lf0.d+1) (w:=(fs.getD i default).kind) hin hM)
    |(have hr:(fs.getD i default).rep=2:=by assumption
      have hk:¬(fs.getD i default).kind=0:=by assumption
      have hM:mkL fs ps (Qo fs ps i) i=⟨i,lf0.r+1,lf0.d+1,(fs.getD i default).kind⟩:=by(simp only[mkL,hB];rw[if_pos hr,if_pos (by omega)])
      refine⟨_,lB fs ps fs.length (i+1),Q0 [0,9] rfl ?_ ?_,⟨i+1,⟨by omega,rfl⟩,.inr rfl⟩,by omega⟩
      ·exact⟨.refl _,.refl _,.refl _,Q8 (by rw[Qc,if_pos hk,h0,List.length_append];rfl),.refl _,.refl _,.refl _,trivial⟩
      ·refine⟨⟨by decide,_,rfl,Q1 ?_ (fLR _ _)⟩,⟨by decide,_,rfl,Q1 ?_ (fL _)⟩,trivial⟩
       ·exact Zy (x:=i) (y:=lf0.r+1) (z:=lf0.d+1) (w:=(fs.getD i default).kind) hin hM
       ·(rw[Qc,if_pos hk,hM,h0];rfl))
    |(have hr:¬(fs.getD i default).rep=2:=by assumption
      have hz:¬(fs.getD i default).rep=0:=by assumption
      have hk:(fs.getD i default).kind=0:=by assumption
      have hM:mkL fs ps (Qo fs ps i) i=⟨i,lf0.r,lf0.d+1,(fs.getD i default).kind⟩:=by(simp only[mkL,hB];rw[if_neg hr,if_pos hz])
      refine⟨_,lA fs ps fs.length (i+1),Q0 [0] rfl ?_ ?_,⟨i+1,⟨by omega,rfl⟩,.inl ⟨by rw[Qc,if_neg (by omega)];exact h0,rfl⟩⟩,by omega⟩
      ·exact⟨.refl _,.refl _,.refl _,.refl _,.refl _,.refl _,.refl _,trivial⟩
      ·refine⟨⟨by decide,_,rfl,Q1 ?_ (fLR _ _)⟩,trivial⟩
       ·exact Zy (x:=i) (y:=lf0.r) (z:=lf0.d+1) (w:=(fs.getD i default).kind) hin hM)
    |(have hr:¬(fs.getD i default).rep=2:=by assumption
      have hz:¬(fs.getD i default).rep=0:=by assumption
      have hk:¬(fs.getD i default).kind=0:=by assumption
      have hM:mkL fs ps (Qo fs ps i) i=⟨i,lf0.r,lf0.d+1,(fs.getD i default).kind⟩:=by(simp only[mkL,hB];rw[if_neg hr,if_pos hz])
      refine⟨_,lB fs ps fs.length (i+1),Q0 [0,8] rfl ?_ ?_,⟨i+1,⟨by omega,rfl⟩,.inr rfl⟩,by omega⟩
      ·exact⟨.refl _,.refl _,.refl _,Q8 (by rw[Qc,if_pos hk,h0,List.length_append];rfl),.refl _,.refl _,.refl _,trivial⟩
      ·refine⟨⟨by decide,_,rfl,Q1 ?_ (fLR _ _)⟩,⟨by decide,_,rfl,Q1 ?_ (fL _)⟩,trivial⟩
       ·exact Zy (x:=i) (y:=lf0.r) (z:=lf0.d+1) (w:=(fs.getD i default).kind) hin hM
       ·(rw[Qc,if_pos hk,hM,h0];rfl))
    |(have hr:(fs.getD i default).rep=0:=by assumption
      have hk:(fs.getD i default).kind=0:=by assumption
      have hM:mkL fs ps (Qo fs ps i) i=⟨i,lf0.r,lf0.d,(fs.getD i default).kind⟩:=by(simp only[mkL,hB];rw[if_neg (by omega),if_neg (by omega)])
      refine⟨_,lA fs ps fs.length (i+1),Q0 [0] rfl ?_ ?_,⟨i+1,⟨by omega,rfl⟩,.inl ⟨by rw[Qc,if_neg (by omega)];exact h0,rfl⟩⟩,by omega⟩
      ·exact⟨.refl _,.refl _,.refl _,.refl _,.refl _,.refl _,.refl _,trivial⟩
      ·refine⟨⟨by decide,_,rfl,Q1 ?_ (fLR _ _)⟩,trivial⟩
       ·exact Zy (x:=i) (y:=lf0.r) (z:=lf0.d) (w:=(fs.getD i default).kind) hin hM)
    |(have hr:(fs.getD i default).rep=0:=by assumption
      have hk:¬(fs.getD i default).kind=0:=by assumption
      have hM:mkL fs ps (Qo fs ps i) i=⟨i,lf0.r,lf0.d,(fs.getD i default).kind⟩:=by(simp only[mkL,hB];rw[if_neg (by omega),if_neg (by omega)])
      refine⟨_,lB fs ps fs.length (i+1),Q0 [0,7] rfl ?_ ?_,⟨i+1,⟨by omega,rfl⟩,.inr rfl⟩,by omega⟩
      ·exact⟨.refl _,.refl _,.refl _,Q8 (by rw[Qc,if_pos hk,h0,List.length_append];rfl),.refl _,.refl _,.refl _,trivial⟩
      ·refine⟨⟨by decide,_,rfl,Q1 ?_ (fLR _ _)⟩,⟨by decide,_,rfl,Q1 ?_ (fL _)⟩,trivial⟩
       ·exact Zy (x:=i) (y:=lf0.r) (z:=lf0.d) (w:=(fs.getD i default).kind) hin hM
       ·(rw[Qc,if_pos hk,hM,h0];rfl))
   ·have hB:Wn (Qo fs ps i) (ps.getD i 0)=QH fs ps i:=by rw[Wn,if_pos hp];rfl
    have hb:=Vy (fs:=fs) ha i (by omega) (ps.getD i 0).toNat (by omega)
    change 0≤(QH fs ps i).r∧(QH fs ps i).r≤(QH fs ps i).d∧(QH fs ps i).d≤_ at hb
    have hxp:(ZJ (Qo fs ps i) fs.length).getD (0+(ps.getD i 0).toNat) []=ZM (QH fs ps i):=by rw[Nat.zero_add];exact Cz (by omega)
    repeat' first|refine And.intro ?_ ?_|(intro h;(try first|replace h:=of_decide_eq_true h|replace h:=of_decide_eq_false h);(try simp only[Qd,YZ,Yh,Ql,Z9,Vp,Vo,Vn,QO,YY,YX,YW,QA,Vm,Vk,Vj,Vi,YV,YU,YT,YS,Nat.zero_add,Nat.add_zero,Int.toNat_natCast,Int.toNat_zero]at h);try simp only[decide_eq_true_eq,decide_eq_false_iff_not,Int.not_lt,Int.not_le,Int.toNat_natCast,↓reduceIte,Nat.reduceAdd,reduceCtorEq,Int.reduceLT,Int.lt_irrefl,gt_iff_lt,not_true_eq_false,not_false_eq_true,Bool.not_true,Bool.not_false,decide_false,decide_true,Int.reduceLE,Int.reduceSub,Bool.false_eq_true,Bool.true_eq_false,Nat.reduceEqDiff,Nat.one_ne_zero,Nat.reduceLT,and_self,and_true,true_and,Int.natCast_zero,Int.cast_ofNat_Int,List.length_nil,ne_eq,Decidable.not_not]at h)
    all_goals(try first|exact PlanIs.mk (by kernel_rfl)|omega|(show(_:Int)*((32:Nat):Int)≤_;omega)|(show(_:Int)*((8:Nat):Int)≤_;omega)|(show(_:Int)*((24:Nat):Int)≤_;omega)|exact rfl|exact Nat.le_of_ble_eq_true rfl|(show(_:Nat)≤(_:Nat);simp;done)|(show(_:Nat)≤(_:Nat);simp;omega))
    ·exact NoSel.mk (by kernel_rfl)
    refine⟨lS fs ps i false,?_,?_⟩
    · repeat' first|refine And.intro ?_ ?_|(intro h;(try first|replace h:=of_decide_eq_true h|replace h:=of_decide_eq_false h);(try simp only[Qd,YZ,Yh,Ql,Z9,Vp,Vo,Vn,QO,YY,YX,YW,QA,Vm,Vk,Vj,Vi,YV,YU,YT,YS,Nat.zero_add,Nat.add_zero,Int.toNat_natCast,Int.toNat_zero]at h);try simp only[decide_eq_true_eq,decide_eq_false_iff_not,Int.not_lt,Int.not_le,Int.toNat_natCast,↓reduceIte,Nat.reduceAdd,reduceCtorEq,Int.reduceLT,Int.lt_irrefl,gt_iff_lt,not_true_eq_false,not_false_eq_true,Bool.not_true,Bool.not_false,decide_false,decide_true,Int.reduceLE,Int.reduceSub,Bool.false_eq_true,Bool.true_eq_false,Nat.reduceEqDiff,Nat.one_ne_zero,Nat.reduceLT,and_self,and_true,true_and,Int.natCast_zero,Int.cast_ofNat_Int,List.length_nil,ne_eq,Decidable.not_not]at h)
      all_goals(try first|exact PlanIs.mk (by kernel_rfl)|omega|(show(_:Int)*((32:Nat):Int)≤_;omega)|(show(_:Int)*((8:Nat):Int)≤_;omega)|(show(_:Int)*((24:Nat):Int)≤_;omega)|exact rfl|exact Nat.le_of_ble_eq_true rfl|(show(_:Nat)≤(_:Nat);simp;done)|(show(_:Nat)≤(_:Nat);simp;omega))
      all_goals(try exact Apart.mk (by kernel_rfl))
      all_goals(try first|(show isC _ _ (((ZJ (Qo fs ps i) fs.length).getD (0+(ps.getD i 0).toNat) []).getD _ _)=true;rw[hxp];exact rfl)|(show(0:Int)≤ps.getD i 0;omega)|(show ps.getD i 0<(fs.length:Int);omega))
      all_goals
       refine Exists.intro () ?_
       refine Q0 [0,1,3] (by exact rfl) ?_ ?_
       ·exact⟨.refl _,.refl _,.refl _,.refl _,.refl _,.refl _,.refl _,.refl _,.refl _,.refl _,.refl _,trivial⟩
       ·refine⟨⟨by decide,_,rfl,Q1 rfl (fLR _ _)⟩,⟨by decide,_,rfl,Q1 rfl (fF [fs.getD i default])⟩,⟨by decide,_,rfl,Q1 ?_ (fL [_])⟩,trivial⟩
        show[[AVal.int .i64 i,.int .i64 (asI (((ZJ (Qo fs ps i) fs.length).getD (0+(ps.getD i 0).toNat) []).getD 1 .any)),.int .i64 (asI (((ZJ (Qo fs ps i) fs.length).getD (0+(ps.getD i 0).toNat) []).getD 2 .any)),.int .i64 (fs.getD i default).kind]]=_
        rw[hxp];rfl
    repeat' first|refine And.intro ?_ ?_|(intro h;(try first|replace h:=of_decide_eq_true h|replace h:=of_decide_eq_false h);(try simp only[Qd,YZ,Yh,Ql,Z9,Vp,Vo,Vn,QO,YY,YX,YW,QA,Vm,Vk,Vj,Vi,YV,YU,YT,YS,Nat.zero_add,Nat.add_zero,Int.toNat_natCast,Int.toNat_zero]at h);try simp only[decide_eq_true_eq,decide_eq_false_iff_not,Int.not_lt,Int.not_le,Int.toNat_natCast,↓reduceIte,Nat.reduceAdd,reduceCtorEq,Int.reduceLT,Int.lt_irrefl,gt_iff_lt,not_true_eq_false,not_false_eq_true,Bool.not_true,Bool.not_false,decide_false,decide_true,Int.reduceLE,Int.reduceSub,Bool.false_eq_true,Bool.true_eq_false,Nat.reduceEqDiff,Nat.one_ne_zero,Nat.reduceLT,and_self,and_true,true_and,Int.natCast_zero,Int.cast_ofNat_Int,List.length_nil,ne_eq,Decidable.not_not]at h)
    all_goals(try first|exact PlanIs.mk (by kernel_rfl)|omega|(show(_:Int)*((32:Nat):Int)≤_;omega)|(show(_:Int)*((8:Nat):Int)≤_;omega)|(show(_:Int)*((24:Nat):Int)≤_;omega)|exact rfl|exact Nat.le_of_ble_eq_true rfl|(show(_:Nat)≤(_:Nat);simp;done)|(show(_:Nat)≤(_:Nat);simp;omega))
    all_goals(try first|(show(-9223372036854775808:Int)≤(QH fs ps i).r+1;first|decide|omega)|(show(-9223372036854775808:Int)≤(QH fs ps i).d+1;first|decide|omega)|(show(QH fs ps i).r+1≤(9223372036854775807:Int);first|decide|omega)|(show(QH fs ps i).d+1≤(9223372036854775807:Int);first|decide|omega))
    all_goals(try first|(show 0+i<(ZJ (Qo fs ps i) fs.length).length;rw[hln];omega)|(show 0+4≤(List.length ((ZJ (Qo fs ps i) fs.length).getD (0+i) []));rw[Nat.zero_add i,hxi];exact Nat.le_refl 4))
    all_goals first
    |(have hr:(fs.getD i default).rep=2:=by assumption
      have hk:(fs.getD i default).kind=0:=by assumption
      have hM:mkL fs ps (Qo fs ps i) i=⟨i,(QH fs ps i).r+1,(QH fs ps i).d+1,(fs.getD i default).kind⟩:=by(simp only[mkL,hB];rw[if_pos hr,if_pos (by omega)])
      refine⟨_,lA fs ps fs.length (i+1),Q0 [0] rfl ?_ ?_,⟨i+1,⟨by omega,rfl⟩,.inl ⟨by rw[Qc,if_neg (by omega)];exact h0,rfl⟩⟩,by omega⟩
      ·exact⟨.refl _,.refl _,.refl _,.refl _,.refl _,.refl _,.refl _,trivial⟩
      ·refine⟨⟨by decide,_,rfl,Q1 ?_ (fLR _ _)⟩,trivial⟩
       ·exact Zy (x:=i) (y:=(QH fs ps i).r+1) (z:=(QH fs ps i).d+1) (w:=(fs.getD i default).kind) hin hM)
    |(have hr:(fs.getD i default).rep=2:=by assumption
      have hk:¬(fs.getD i default).kind=0:=by assumption
      have hM:mkL fs ps (Qo fs ps i) i=⟨i,(QH fs ps i).r+1,(QH fs ps i).d+1,(fs.getD i default).kind⟩:=by(simp only[mkL,hB];rw[if_pos hr,if_pos (by omega)])
      refine⟨_,lB fs ps fs.length (i+1),Q0 [0,7] rfl ?_ ?_,⟨i+1,⟨by omega,rfl⟩,.inr rfl⟩,by omega⟩
      ·exact⟨.refl _,.refl _,.refl _,Q8 (by rw[Qc,if_pos hk,h0,List.length_append];rfl),.refl _,.refl _,.refl _,trivial⟩
      ·refine⟨⟨by decide,_,rfl,Q1 ?_ (fLR _ _)⟩,⟨by decide,_,rfl,Q1 ?_ (fL _)⟩,trivial⟩
       ·exact Zy (x:=i) (y:=(QH fs ps i).r+1) (z:=(QH fs ps i).d+1) (w:=(fs.getD i default).kind) hin hM
       ·(rw[Qc,if_pos hk,hM,h0];rfl))
    |(have hr:¬(fs.getD i default).rep=2:=by assumption
      have hz:¬(fs.getD i default).rep=0:=by assumption
      have hk:(fs.getD i default).kind=0:=by assumption
      have hM:mkL fs ps (Qo fs ps i) i=⟨i,(QH fs ps i).r,(QH fs ps i).d+1,(fs.getD i default).kind⟩:=by(simp only[mkL,hB];rw[if_neg hr,if_pos hz])
      refine⟨_,lA fs ps fs.length (i+1),Q0 [0] rfl ?_ ?_,⟨i+1,⟨by omega,rfl⟩,.inl ⟨by rw[Qc,if_neg (by omega)];exact h0,rfl⟩⟩,by omega⟩
      ·exact⟨.refl _,.refl _,.refl _,.refl _,.refl _,.refl _,.refl _,trivial⟩
      ·refine⟨⟨by decide,_,rfl,Q1 ?_ (fLR _ _)⟩,trivial⟩
       ·exact Zy (x:=i) (y:=(QH fs ps i).r) (z:=(QH fs ps i).d+1) (w:=(fs.getD i default).kind) hin hM)
    |(have hr:¬(fs.getD i default).rep=2:=by assumption
      have hz:¬(fs.getD i default).rep=0:=by assumption
      have hk:¬(fs.getD i default).kind=0:=by assumption
      have hM:mkL fs ps (Qo fs ps i) i=⟨i,(QH fs ps i).r,(QH fs ps i).d+1,(fs.getD i default).kind⟩:=by(simp only[mkL,hB];rw[if_neg hr,if_pos hz])
      refine⟨_,lB fs ps fs.length (i+1),Q0 [0,6] rfl ?_ ?_,⟨i+1,⟨by omega,rfl⟩,.inr rfl⟩,by omega⟩
      ·exact⟨.refl _,.refl _,.refl _,Q8 (by rw[Qc,if_pos hk,h0,List.length_append];rfl),.refl _,.refl _,.refl _,trivial⟩
      ·refine⟨⟨by decide,_,rfl,Q1 ?_ (fLR _ _)⟩,⟨by decide,_,rfl,Q1 ?_ (fL _)⟩,trivial⟩
       ·exact Zy (x:=i) (y:=(QH fs ps i).r) (z:=(QH fs ps i).d+1) (w:=(fs.getD i default).kind) hin hM
       ·(rw[Qc,if_pos hk,hM,h0];rfl))
    |(have hr:(fs.getD i default).rep=0:=by assumption
      have hk:(fs.getD i default).kind=0:=by assumption
      have hM:mkL fs ps (Qo fs ps i) i=⟨i,(QH fs ps i).r,(QH fs ps i).d,(fs.getD i default).kind⟩:=by(simp only[mkL,hB];rw[if_neg (by omega),if_neg (by omega)])
      refine⟨_,lA fs ps fs.length (i+1),Q0 [0] rfl ?_ ?_,⟨i+1,⟨by omega,rfl⟩,.inl ⟨by rw[Qc,if_neg (by omega)];exact h0,rfl⟩⟩,by omega⟩
      ·exact⟨.refl _,.refl _,.refl _,.refl _,.refl _,.refl _,.refl _,trivial⟩
      ·refine⟨⟨by decide,_,rfl,Q1 ?_ (fLR _ _)⟩,trivial⟩
       ·exact Zy (x:=i) (y:=(QH fs ps i).r) (z:=(QH fs ps i).d) (w:=(fs.getD i default).kind) hin hM)
    |(have hr:(fs.getD i default).rep=0:=by assumption
      have hk:¬(fs.getD i default).kind=0:=by assumption
      have hM:mkL fs ps (Qo fs ps i) i=⟨i,(QH fs ps i).r,(QH fs ps i).d,(fs.getD i default).kind⟩:=by(simp only[mkL,hB];rw[if_neg (by omega),if_neg (by omega)])
      refine⟨_,lB fs ps fs.length (i+1),Q0 [0,5] rfl ?_ ?_,⟨i+1,⟨by omega,rfl⟩,.inr rfl⟩,by omega⟩
      ·exact⟨.refl _,.refl _,.refl _,Q8 (by rw[Qc,if_pos hk,h0,List.length_append];rfl),.refl _,.refl _,.refl _,trivial⟩
      ·refine⟨⟨by decide,_,rfl,Q1 ?_ (fLR _ _)⟩,⟨by decide,_,rfl,Q1 ?_ (fL _)⟩,trivial⟩
       ·exact Zy (x:=i) (y:=(QH fs ps i).r) (z:=(QH fs ps i).d) (w:=(fs.getD i default).kind) hin hM
       ·(rw[Qc,if_pos hk,hM,h0];rfl))
  ·obtain rfl:i=fs.length:=by omega
   repeat' first|refine And.intro ?_ ?_|(intro h;(try first|replace h:=of_decide_eq_true h|replace h:=of_decide_eq_false h);(try simp only[Qd,YZ,Yh,Ql,Z9,Vp,Vo,Vn,QO,YY,YX,YW,QA,Vm,Vk,Vj,Vi,YV,YU,YT,YS,Nat.zero_add,Nat.add_zero,Int.toNat_natCast,Int.toNat_zero]at h);(try simp only[decide_eq_true_eq,decide_eq_false_iff_not,Int.not_lt,Int.not_le,Int.toNat_natCast,↓reduceIte,Nat.reduceAdd,reduceCtorEq,Int.reduceLT,Int.lt_irrefl,gt_iff_lt,not_true_eq_false,not_false_eq_true,Bool.not_true,Bool.not_false,decide_false,decide_true,Int.reduceLE,Int.reduceSub,Bool.false_eq_true,Bool.true_eq_false,Nat.reduceEqDiff,Nat.one_ne_zero,Nat.reduceLT,and_self,and_true,true_and,Int.natCast_zero,Int.cast_ofNat_Int,List.length_nil,ne_eq,Decidable.not_not]at h);try(exfalso;omega))
   all_goals(try first|exact PlanIs.mk (by kernel_rfl)|omega|(show(_:Int)*((32:Nat):Int)≤_;omega)|(show(_:Int)*((8:Nat):Int)≤_;omega)|(show(_:Int)*((24:Nat):Int)≤_;omega)|exact rfl|exact Nat.le_of_ble_eq_true rfl|(show(_:Nat)≤(_:Nat);simp;done)|(show(_:Nat)≤(_:Nat);simp;omega))
   all_goals(try first|exact VV (enc:=ZM) (z:=4) (fun _=>rfl) _ _ _|(show(0+(Zh fs ps fs.length).length)*32≤_;omega))
   refine⟨_,.refl _ _ _,_,rfl,?_⟩
   refine⟨_,VL (k:=2) 4 ZM default rfl,_,rfl,?_,rfl⟩
   rw[h0];rfl
 ·have hol:=Zu fs ps i
  have hll:=Zk fs ps i
  by_cases hin:i<fs.length
  ·have hxi:(ZJ (Qo fs ps i) fs.length).getD i []=ZM lf0:=by have:=JU (lv:=Qo fs ps i) (n:=fs.length) (by rw[Zk];exact hin);rwa [Zk]at this
   have hq:=ha i hin
   have hln:(ZJ (Qo fs ps i) fs.length).length=fs.length:=Dr (by omega)
   rcases Int.lt_or_le (ps.getD i 0) 0 with hp|hp
   ·have hB:Wn (Qo fs ps i) (ps.getD i 0)=lf0:=by rw[Wn,if_neg (by omega)]
    repeat' first|refine And.intro ?_ ?_|(intro h;(try first|replace h:=of_decide_eq_true h|replace h:=of_decide_eq_false h);(try simp only[Qd,YZ,Yh,Ql,Z9,Vp,Vo,Vn,QO,YY,YX,YW,QA,Vm,Vk,Vj,Vi,YV,YU,YT,YS,Nat.zero_add,Nat.add_zero,Int.toNat_natCast,Int.toNat_zero]at h);try simp only[decide_eq_true_eq,decide_eq_false_iff_not,Int.not_lt,Int.not_le,Int.toNat_natCast,↓reduceIte,Nat.reduceAdd,reduceCtorEq,Int.reduceLT,Int.lt_irrefl,gt_iff_lt,not_true_eq_false,not_false_eq_true,Bool.not_true,Bool.not_false,decide_false,decide_true,Int.reduceLE,Int.reduceSub,Bool.false_eq_true,Bool.true_eq_false,Nat.reduceEqDiff,Nat.one_ne_zero,Nat.reduceLT,and_self,and_true,true_and,Int.natCast_zero,Int.cast_ofNat_Int,List.length_nil,ne_eq,Decidable.not_not]at h)
    all_goals(try first|exact PlanIs.mk (by kernel_rfl)|omega|(show(_:Int)*((32:Nat):Int)≤_;omega)|(show(_:Int)*((8:Nat):Int)≤_;omega)|(show(_:Int)*((24:Nat):Int)≤_;omega)|exact rfl|exact Nat.le_of_ble_eq_true rfl|(show(_:Nat)≤(_:Nat);simp;done)|(show(_:Nat)≤(_:Nat);simp;omega))
    all_goals(try first|(show(-9223372036854775808:Int)≤lf0.r+1;first|decide|omega)|(show(-9223372036854775808:Int)≤lf0.d+1;first|decide|omega)|(show lf0.r+1≤(9223372036854775807:Int);first|decide|omega)|(show lf0.d+1≤(9223372036854775807:Int);first|decide|omega))
    all_goals(try first|(show 0+i<(ZJ (Qo fs ps i) fs.length).length;rw[hln];omega)|(show 0+4≤(List.length ((ZJ (Qo fs ps i) fs.length).getD (0+i) []));rw[Nat.zero_add i,hxi];exact Nat.le_refl 4))
    all_goals first
    |(have hr:(fs.getD i default).rep=2:=by assumption
      have hk:(fs.getD i default).kind=0:=by assumption
      have hM:mkL fs ps (Qo fs ps i) i=⟨i,lf0.r+1,lf0.d+1,(fs.getD i default).kind⟩:=by(simp only[mkL,hB];rw[if_pos hr,if_pos (by omega)])
      refine⟨_,lB fs ps fs.length (i+1),Q0 [0,1] rfl ?_ ?_,⟨i+1,⟨by omega,rfl⟩,.inr rfl⟩,by omega⟩
      ·exact⟨.refl _,.refl _,.refl _,Q8 (by rw[Qc,if_neg (by omega)]),.refl _,.refl _,.refl _,trivial⟩
      ·refine⟨⟨by decide,_,rfl,Q1 ?_ (fLR _ _)⟩,⟨by decide,_,rfl,Q1 ?_ (fL _)⟩,trivial⟩
       ·exact Zy (x:=i) (y:=lf0.r+1) (z:=lf0.d+1) (w:=(fs.getD i default).kind) hin hM
       ·rw[Qc,if_neg (by omega)])
    |(have hr:(fs.getD i default).rep=2:=by assumption
      have hk:¬(fs.getD i default).kind=0:=by assumption
      have hM:mkL fs ps (Qo fs ps i) i=⟨i,lf0.r+1,lf0.d+1,(fs.getD i default).kind⟩:=by(simp only[mkL,hB];rw[if_pos hr,if_pos (by omega)])
      refine⟨_,lB fs ps fs.length (i+1),Q0 [0,10] rfl ?_ ?_,⟨i+1,⟨by omega,rfl⟩,.inr rfl⟩,by omega⟩
      ·exact⟨.refl _,.refl _,.refl _,Q8 (by rw[Qc,if_pos hk,List.length_append];rfl),.refl _,.refl _,.refl _,trivial⟩
      ·refine⟨⟨by decide,_,rfl,Q1 ?_ (fLR _ _)⟩,⟨by decide,_,rfl,Q1 ?_ (fL _)⟩,trivial⟩
       ·exact Zy (x:=i) (y:=lf0.r+1) (z:=lf0.d+1) (w:=(fs.getD i default).kind) hin hM
       ·(rw[Qc,if_pos hk,hM,List.map_append];show List.take _ (List.drop 0 ((Zh fs ps i).map ZM))++[_]=_;rw[List.drop_zero,List.take_of_length_le (by rw[List.length_map];exact Nat.le_refl _)];rfl))
    |(have hr:¬(fs.getD i default).rep=2:=by assumption
      have hz:¬(fs.getD i default).rep=0:=by assumption
      have hk:(fs.getD i default).kind=0:=by assumption
      have hM:mkL fs ps (Qo fs ps i) i=⟨i,lf0.r,lf0.d+1,(fs.getD i default).kind⟩:=by(simp only[mkL,hB];rw[if_neg hr,if_pos hz])
      refine⟨_,lB fs ps fs.length (i+1),Q0 [0,1] rfl ?_ ?_,⟨i+1,⟨by omega,rfl⟩,.inr rfl⟩,by omega⟩
      ·exact⟨.refl _,.refl _,.refl _,Q8 (by rw[Qc,if_neg (by omega)]),.refl _,.refl _,.refl _,trivial⟩
      ·refine⟨⟨by decide,_,rfl,Q1 ?_ (fLR _ _)⟩,⟨by decide,_,rfl,Q1 ?_ (fL _)⟩,trivial⟩
       ·exact Zy (x:=i) (y:=lf0.r) (z:=lf0.d+1) (w:=(fs.getD i default).kind) hin hM
       ·rw[Qc,if_neg (by omega)])
    |(have hr:¬(fs.getD i default).rep=2:=by assumption
      have hz:¬(fs.getD i default).rep=0:=by assumption
      have hk:¬(fs.getD i default).kind=0:=by assumption
      have hM:mkL fs ps (Qo fs ps i) i=⟨i,lf0.r,lf0.d+1,(fs.getD i default).kind⟩:=by(simp only[mkL,hB];rw[if_neg hr,if_pos hz])
      refine⟨_,lB fs ps fs.length (i+1),Q0 [0,9] rfl ?_ ?_,⟨i+1,⟨by omega,rfl⟩,.inr rfl⟩,by omega⟩
      ·exact⟨.refl _,.refl _,.refl _,Q8 (by rw[Qc,if_pos hk,List.length_append];rfl),.refl _,.refl _,.refl _,trivial⟩
      ·refine⟨⟨by decide,_,rfl,Q1 ?_ (fLR _ _)⟩,⟨by decide,_,rfl,Q1 ?_ (fL _)⟩,trivial⟩
       ·exact Zy (x:=i) (y:=lf0.r) (z:=lf0.d+1) (w:=(fs.getD i default).kind) hin hM
       ·(rw[Qc,if_pos hk,hM,List.map_append];show List.take _ (List.drop 0 ((Zh fs ps i).map ZM))++[_]=_;rw[List.drop_zero,List.take_of_length_le (by rw[List.length_map];exact Nat.le_refl _)];rfl))
    |(have hr:(fs.getD i default).rep=0:=by assumption
      have hk:(fs.getD i default).kind=0:=by assumption
      have hM:mkL fs ps (Qo fs ps i) i=⟨i,lf0.r,lf0.d,(fs.getD i default).kind⟩:=by(simp only[mkL,hB];rw[if_neg (by omega),if_neg (by omega)])
      refine⟨_,lB fs ps fs.length (i+1),Q0 [0,1] rfl ?_ ?_,⟨i+1,⟨by omega,rfl⟩,.inr rfl⟩,by omega⟩
      ·exact⟨.refl _,.refl _,.refl _,Q8 (by rw[Qc,if_neg (by omega)]),.refl _,.refl _,.refl _,trivial⟩
      ·refine⟨⟨by decide,_,rfl,Q1 ?_ (fLR _ _)⟩,⟨by decide,_,rfl,Q1 ?_ (fL _)⟩,trivial⟩
       ·exact Zy (x:=i) (y:=lf0.r) (z:=lf0.d) (w:=(fs.getD i default).kind) hin hM
       ·rw[Qc,if_neg (by omega)])
    |(have hr:(fs.getD i default).rep=0:=by assumption
      have hk:¬(fs.getD i default).kind=0:=by assumption
      have hM:mkL fs ps (Qo fs ps i) i=⟨i,lf0.r,lf0.d,(fs.getD i default).kind⟩:=by(simp only[mkL,hB];rw[if_neg (by omega),if_neg (by omega)])
      refine⟨_,lB fs ps fs.length (i+1),Q0 [0,8] rfl ?_ ?_,⟨i+1,⟨by omega,rfl⟩,.inr rfl⟩,by omega⟩
      ·exact⟨.refl _,.refl _,.refl _,Q8 (by rw[Qc,if_pos hk,List.length_append];rfl),.refl _,.refl _,.refl _,trivial⟩
      ·refine⟨⟨by decide,_,rfl,Q1 ?_ (fLR _ _)⟩,⟨by decide,_,rfl,Q1 ?_ (fL _)⟩,trivial⟩
       ·exact Zy (x:=i) (y:=lf0.r) (z:=lf0.d) (w:=(fs.getD i default).kind) hin hM
       ·(rw[Qc,if_pos hk,hM,List.map_append];show List.take _ (List.drop 0 ((Zh fs ps i).map ZM))++[_]=_;rw[List.drop_zero,List.take_of_length_le (by rw[List.length_map];exact Nat.le_refl _)];rfl))
   ·have hB:Wn (Qo fs ps i) (ps.getD i 0)=QH fs ps i:=by rw[Wn,if_pos hp];rfl
    have hb:=Vy (fs:=fs) ha i (by omega) (ps.getD i 0).toNat (by omega)
    change 0≤(QH fs ps i).r∧(QH fs ps i).r≤(QH fs ps i).d∧(QH fs ps i).d≤_ at hb
    have hxp:(ZJ (Qo fs ps i) fs.length).getD (0+(ps.getD i 0).toNat) []=ZM (QH fs ps i):=by rw[Nat.zero_add];exact Cz (by omega)
    repeat' first|refine And.intro ?_ ?_|(intro h;(try first|replace h:=of_decide_eq_true h|replace h:=of_decide_eq_false h);(try simp only[Qd,YZ,Yh,Ql,Z9,Vp,Vo,Vn,QO,YY,YX,YW,QA,Vm,Vk,Vj,Vi,YV,YU,YT,YS,Nat.zero_add,Nat.add_zero,Int.toNat_natCast,Int.toNat_zero]at h);try simp only[decide_eq_true_eq,decide_eq_false_iff_not,Int.not_lt,Int.not_le,Int.toNat_natCast,↓reduceIte,Nat.reduceAdd,reduceCtorEq,Int.reduceLT,Int.lt_irrefl,gt_iff_lt,not_true_eq_false,not_false_eq_true,Bool.not_true,Bool.not_false,decide_false,decide_true,Int.reduceLE,Int.reduceSub,Bool.false_eq_true,Bool.true_eq_false,Nat.reduceEqDiff,Nat.one_ne_zero,Nat.reduceLT,and_self,and_true,true_and,Int.natCast_zero,Int.cast_ofNat_Int,List.length_nil,ne_eq,Decidable.not_not]at h)
    all_goals(try first|exact PlanIs.mk (by kernel_rfl)|omega|(show(_:Int)*((32:Nat):Int)≤_;omega)|(show(_:Int)*((8:Nat):Int)≤_;omega)|(show(_:Int)*((24:Nat):Int)≤_;omega)|exact rfl|exact Nat.le_of_ble_eq_true rfl|(show(_:Nat)≤(_:Nat);simp;done)|(show(_:Nat)≤(_:Nat);simp;omega))
    ·exact NoSel.mk (by kernel_rfl)
    refine⟨lS fs ps i true,?_,?_⟩
    · repeat' first|refine And.intro ?_ ?_|(intro h;(try first|replace h:=of_decide_eq_true h|replace h:=of_decide_eq_false h);(try simp only[Qd,YZ,Yh,Ql,Z9,Vp,Vo,Vn,QO,YY,YX,YW,QA,Vm,Vk,Vj,Vi,YV,YU,YT,YS,Nat.zero_add,Nat.add_zero,Int.toNat_natCast,Int.toNat_zero]at h);try simp only[decide_eq_true_eq,decide_eq_false_iff_not,Int.not_lt,Int.not_le,Int.toNat_natCast,↓reduceIte,Nat.reduceAdd,reduceCtorEq,Int.reduceLT,Int.lt_irrefl,gt_iff_lt,not_true_eq_false,not_false_eq_true,Bool.not_true,Bool.not_false,decide_false,decide_true,Int.reduceLE,Int.reduceSub,Bool.false_eq_true,Bool.true_eq_false,Nat.reduceEqDiff,Nat.one_ne_zero,Nat.reduceLT,and_self,and_true,true_and,Int.natCast_zero,Int.cast_ofNat_Int,List.length_nil,ne_eq,Decidable.not_not]at h)
      all_goals(try first|exact PlanIs.mk (by kernel_rfl)|omega|(show(_:Int)*((32:Nat):Int)≤_;omega)|(show(_:Int)*((8:Nat):Int)≤_;omega)|(show(_:Int)*((24:Nat):Int)≤_;omega)|exact rfl|exact Nat.le_of_ble_eq_true rfl|(show(_:Nat)≤(_:Nat);simp;done)|(show(_:Nat)≤(_:Nat);simp;omega))
      all_goals(try exact Apart.mk (by kernel_rfl))
      all_goals(try first|(show isC _ _ (((ZJ (Qo fs ps i) fs.length).getD (0+(ps.getD i 0).toNat) []).getD _ _)=true;rw[hxp];exact rfl)|(show(0:Int)≤ps.getD i 0;omega)|(show ps.getD i 0<(fs.length:Int);omega))
      all_goals
       refine Exists.intro () ?_
       refine Q0 [0,1,2,4] (by exact rfl) ?_ ?_
       ·exact⟨.refl _,.refl _,.refl _,.refl _,.refl _,.refl _,.refl _,.refl _,.refl _,.refl _,.refl _,trivial⟩
       ·refine⟨⟨by decide,_,rfl,Q1 rfl (fLR _ _)⟩,⟨by decide,_,rfl,Q1 rfl (fL _)⟩,⟨by decide,_,rfl,Q1 rfl (fF [fs.getD i default])⟩,⟨by decide,_,rfl,Q1 ?_ (fL [_])⟩,trivial⟩
        show[[AVal.int .i64 i,.int .i64 (asI (((ZJ (Qo fs ps i) fs.length).getD (0+(ps.getD i 0).toNat) []).getD 1 .any)),.int .i64 (asI (((ZJ (Qo fs ps i) fs.length).getD (0+(ps.getD i 0).toNat) []).getD 2 .any)),.int .i64 (fs.getD i default).kind]]=_
        rw[hxp];rfl
    repeat' first|refine And.intro ?_ ?_|(intro h;(try first|replace h:=of_decide_eq_true h|replace h:=of_decide_eq_false h);(try simp only[Qd,YZ,Yh,Ql,Z9,Vp,Vo,Vn,QO,YY,YX,YW,QA,Vm,Vk,Vj,Vi,YV,YU,YT,YS,Nat.zero_add,Nat.add_zero,Int.toNat_natCast,Int.toNat_zero]at h);try simp only[decide_eq_true_eq,decide_eq_false_iff_not,Int.not_lt,Int.not_le,Int.toNat_natCast,↓reduceIte,Nat.reduceAdd,reduceCtorEq,Int.reduceLT,Int.lt_irrefl,gt_iff_lt,not_true_eq_false,not_false_eq_true,Bool.not_true,Bool.not_false,decide_false,decide_true,Int.reduceLE,Int.reduceSub,Bool.false_eq_true,Bool.true_eq_false,Nat.reduceEqDiff,Nat.one_ne_zero,Nat.reduceLT,and_self,and_true,true_and,Int.natCast_zero,Int.cast_ofNat_Int,List.length_nil,ne_eq,Decidable.not_not]at h)
    all_goals(try first|exact PlanIs.mk (by kernel_rfl)|omega|(show(_:Int)*((32:Nat):Int)≤_;omega)|(show(_:Int)*((8:Nat):Int)≤_;omega)|(show(_:Int)*((24:Nat):Int)≤_;omega)|exact rfl|exact Nat.le_of_ble_eq_true rfl|(show(_:Nat)≤(_:Nat);simp;done)|(show(_:Nat)≤(_:Nat);simp;omega))
    all_goals(try first|(show(-9223372036854775808:Int)≤(QH fs ps i).r+1;first|decide|omega)|(show(-9223372036854775808:Int)≤(QH fs ps i).d+1;first|decide|omega)|(show(QH fs ps i).r+1≤(9223372036854775807:Int);first|decide|omega)|(show(QH fs ps i).d+1≤(9223372036854775807:Int);first|decide|omega))
    all_goals(try first|(show 0+i<(ZJ (Qo fs ps i) fs.length).length;rw[hln];omega)|(show 0+4≤(List.length ((ZJ (Qo fs ps i) fs.length).getD (0+i) []));rw[Nat.zero_add i,hxi];exact Nat.le_refl 4))
    all_goals first
    |(have hr:(fs.getD i default).rep=2:=by assumption
      have hk:(fs.getD i default).kind=0:=by assumption
      have hM:mkL fs ps (Qo fs ps i) i=⟨i,(QH fs ps i).r+1,(QH fs ps i).d+1,(fs.getD i default).kind⟩:=by(simp only[mkL,hB];rw[if_pos hr,if_pos (by omega)])
      refine⟨_,lB fs ps fs.length (i+1),Q0 [0,1] rfl ?_ ?_,⟨i+1,⟨by omega,rfl⟩,.inr rfl⟩,by omega⟩
      ·exact⟨.refl _,.refl _,.refl _,Q8 (by rw[Qc,if_neg (by omega)]),.refl _,.refl _,.refl _,trivial⟩
      ·refine⟨⟨by decide,_,rfl,Q1 ?_ (fLR _ _)⟩,⟨by decide,_,rfl,Q1 ?_ (fL _)⟩,trivial⟩
       ·exact Zy (x:=i) (y:=(QH fs ps i).r+1) (z:=(QH fs ps i).d+1) (w:=(fs.getD i default).kind) hin hM
       ·rw[Qc,if_neg (by omega)])
    |(have hr:(fs.getD i default).rep=2:=by assumption
      have hk:¬(fs.getD i default).kind=0:=by assumption
      have hM:mkL fs ps (Qo fs ps i) i=⟨i,(QH fs ps i).r+1,(QH fs ps i).d+1,(fs.getD i default).kind⟩:=by(simp only[mkL,hB];rw[if_pos hr,if_pos (by omega)])
      refine⟨_,lB fs ps fs.length (i+1),Q0 [0,8] rfl ?_ ?_,⟨i+1,⟨by omega,rfl⟩,.inr rfl⟩,by omega⟩
      ·exact⟨.refl _,.refl _,.refl _,Q8 (by rw[Qc,if_pos hk,List.length_append];rfl),.refl _,.refl _,.refl _,trivial⟩
      ·refine⟨⟨by decide,_,rfl,Q1 ?_ (fLR _ _)⟩,⟨by decide,_,rfl,Q1 ?_ (fL _)⟩,trivial⟩
       ·exact Zy (x:=i) (y:=(QH fs ps i).r+1) (z:=(QH fs ps i).d+1) (w:=(fs.getD i default).kind) hin hM
       ·(rw[Qc,if_pos hk,hM,List.map_append];show List.take _ (List.drop 0 ((Zh fs ps i).map ZM))++[_]=_;rw[List.drop_zero,List.take_of_length_le (by rw[List.length_map];exact Nat.le_refl _)];rfl))
    |(have hr:¬(fs.getD i default).rep=2:=by assumption
      have hz:¬(fs.getD i default).rep=0:=by assumption
      have hk:(fs.getD i default).kind=0:=by assumption
      have hM:mkL fs ps (Qo fs ps i) i=⟨i,(QH fs ps i).r,(QH fs ps i).d+1,(fs.getD i default).kind⟩:=by(simp only[mkL,hB];rw[if_neg hr,if_pos hz])
      refine⟨_,lB fs ps fs.length (i+1),Q0 [0,1] rfl ?_ ?_,⟨i+1,⟨by omega,rfl⟩,.inr rfl⟩,by omega⟩
      ·exact⟨.refl _,.refl _,.refl _,Q8 (by rw[Qc,if_neg (by omega)]),.refl _,.refl _,.refl _,trivial⟩
      ·refine⟨⟨by decide,_,rfl,Q1 ?_ (fLR _ _)⟩,⟨by decide,_,rfl,Q1 ?_ (fL _)⟩,trivial⟩
       ·exact Zy (x:=i) (y:=(QH fs ps i).r) (z:=(QH fs ps i).d+1) (w:=(fs.getD i default).kind) hin hM
       ·rw[Qc,if_neg (by omega)])
    |(have hr:¬(fs.getD i default).rep=2:=by assumption
      have hz:¬(fs.getD i default).rep=0:=by assumption
      have hk:¬(fs.getD i default).kind=0:=by assumption
      have hM:mkL fs ps (Qo fs ps i) i=⟨i,(QH fs ps i).r,(QH fs ps i).d+1,(fs.getD i default).kind⟩:=by(simp only[mkL,hB];rw[if_neg hr,if_pos hz])
      refine⟨_,lB fs ps fs.length (i+1),Q0 [0,7] rfl ?_ ?_,⟨i+1,⟨by omega,rfl⟩,.inr rfl⟩,by omega⟩
      ·exact⟨.refl _,.refl _,.refl _,Q8 (by rw[Qc,if_pos hk,List.length_append];rfl),.refl _,.refl _,.refl _,trivial⟩
      ·refine⟨⟨by decide,_,rfl,Q1 ?_ (fLR _ _)⟩,⟨by decide,_,rfl,Q1 ?_ (fL _)⟩,trivial⟩
       ·exact Zy (x:=i) (y:=(QH fs ps i).r) (z:=(QH fs ps i).d+1) (w:=(fs.getD i default).kind) hin hM
       ·(rw[Qc,if_pos hk,hM,List.map_append];show List.take _ (List.drop 0 ((Zh fs ps i).map ZM))++[_]=_;rw[List.drop_zero,List.take_of_length_le (by rw[List.length_map];exact Nat.le_refl _)];rfl))
    |(have hr:(fs.getD i default).rep=0:=by assumption
      have hk:(fs.getD i default).kind=0:=by assumption
      have hM:mkL fs ps (Qo fs ps i) i=⟨i,(QH fs ps i).r,(QH fs ps i).d,(fs.getD i default).kind⟩:=by(simp only[mkL,hB];rw[if_neg (by omega),if_neg (by omega)])
      refine⟨_,lB fs ps fs.length (i+1),Q0 [0,1] rfl ?_ ?_,⟨i+1,⟨by omega,rfl⟩,.inr rfl⟩,by omega⟩
      ·exact⟨.refl _,.refl _,.refl _,Q8 (by rw[Qc,if_neg (by omega)]),.refl _,.refl _,.refl _,trivial⟩
      ·refine⟨⟨by decide,_,rfl,Q1 ?_ (fLR _ _)⟩,⟨by decide,_,rfl,Q1 ?_ (fL _)⟩,trivial⟩
       ·exact Zy (x:=i) (y:=(QH fs ps i).r) (z:=(QH fs ps i).d) (w:=(fs.getD i default).kind) hin hM
       ·rw[Qc,if_neg (by omega)])
    |(have hr:(fs.getD i default).rep=0:=by assumption
      have hk:¬(fs.getD i default).kind=0:=by assumption
      have hM:mkL fs ps (Qo fs ps i) i=⟨i,(QH fs ps i).r,(QH fs ps i).d,(fs.getD i default).kind⟩:=by(simp only[mkL,hB];rw[if_neg (by omega),if_neg (by omega)])
      refine⟨_,lB fs ps fs.length (i+1),Q0 [0,6] rfl ?_ ?_,⟨i+1,⟨by omega,rfl⟩,.inr rfl⟩,by omega⟩
      ·exact⟨.refl _,.refl _,.refl _,Q8 (by rw[Qc,if_pos hk,List.length_append];rfl),.refl _,.refl _,.refl _,trivial⟩
      ·refine⟨⟨by decide,_,rfl,Q1 ?_ (fLR _ _)⟩,⟨by decide,_,rfl,Q1 ?_ (fL _)⟩,trivial⟩
       ·exact Zy (x:=i) (y:=(QH fs ps i).r) (z:=(QH fs ps i).d) (w:=(fs.getD i default).kind) hin hM
       ·(rw[Qc,if_pos hk,hM,List.map_append];show List.take _ (List.drop 0 ((Zh fs ps i).map ZM))++[_]=_;rw[List.drop_zero,List.take_of_length_le (by rw[List.length_map];exact Nat.le_refl _)];rfl))
  ·obtain rfl:i=fs.length:=by omega
   repeat' first|refine And.intro ?_ ?_|(intro h;(try first|replace h:=of_decide_eq_true h|replace h:=of_decide_eq_false h);(try simp only[Qd,YZ,Yh,Ql,Z9,Vp,Vo,Vn,QO,YY,YX,YW,QA,Vm,Vk,Vj,Vi,YV,YU,YT,YS,Nat.zero_add,Nat.add_zero,Int.toNat_natCast,Int.toNat_zero]at h);(try simp only[decide_eq_true_eq,decide_eq_false_iff_not,Int.not_lt,Int.not_le,Int.toNat_natCast,↓reduceIte,Nat.reduceAdd,reduceCtorEq,Int.reduceLT,Int.lt_irrefl,gt_iff_lt,not_true_eq_false,not_false_eq_true,Bool.not_true,Bool.not_false,decide_false,decide_true,Int.reduceLE,Int.reduceSub,Bool.false_eq_true,Bool.true_eq_false,Nat.reduceEqDiff,Nat.one_ne_zero,Nat.reduceLT,and_self,and_true,true_and,Int.natCast_zero,Int.cast_ofNat_Int,List.length_nil,ne_eq,Decidable.not_not]at h);try(exfalso;omega))
   all_goals(try first|exact PlanIs.mk (by kernel_rfl)|omega|(show(_:Int)*((32:Nat):Int)≤_;omega)|(show(_:Int)*((8:Nat):Int)≤_;omega)|(show(_:Int)*((24:Nat):Int)≤_;omega)|exact rfl|exact Nat.le_of_ble_eq_true rfl|(show(_:Nat)≤(_:Nat);simp;done)|(show(_:Nat)≤(_:Nat);simp;omega))
   all_goals(try first|exact VV (enc:=ZM) (z:=4) (fun _=>rfl) _ _ _|(show(0+(Zh fs ps fs.length).length)*32≤_;omega))
   ·refine⟨_,.refl _ _ _,_,rfl,?_⟩
    refine⟨_,VL (k:=2) 4 ZM default rfl,_,rfl,?_,rfl⟩
    have h0:Zh fs ps fs.length=[]:=List.eq_nil_of_length_eq_zero (by omega)
    rw[h0];rfl
   ·refine⟨_,.refl _ _ _,_,rfl,?_⟩
    refine⟨_,Yz (enc:=ZM) (k:=2) default (l:=Zh fs ps fs.length) rfl rfl (Qw QK (G0 (fL _))) ?_ ?_,_,rfl,rfl,rfl⟩
    ·show List.take (0+(Zh fs ps fs.length).length) ([]++List.take (Zh fs ps fs.length).length (List.drop 0 ((Zh fs ps fs.length).map ZM)))=_
     rw[List.nil_append,List.drop_zero,Nat.zero_add,List.take_take,Nat.min_self]
     exact List.take_of_length_le (Nat.le_of_eq (List.length_map ..))
    ·show 0+(Zh fs ps fs.length).length≤([]++List.take (Zh fs ps fs.length).length (List.drop 0 ((Zh fs ps fs.length).map ZM))).length
     simp
end
def S_leaves:SpecI:=fun args K=>∃fs,args=[vF fs]∧FsOk fs∧K (vL (Qu fs))
theorem Dp[Syms]:Zx Try.prog 44 S_leaves:=by
 rintro args K ⟨fs,rfl,h,hk⟩
 exact⟨rfl,_,rfl,hk,fnI Qh Qi Q3 (Qk NH (Xz (XX Qh Qi Q3 Q9 Qt) Q9)) Qt (O5 fs h)⟩
section
set_option maxRecDepth 100000
set_option maxHeartbeats 4000000
theorem Fi:∀(k:Nat) (r:BR) (s:List Fd),We s→We (Z8 k r s).1∧(Z8 k r s).1.length≤s.length+k
 |0,r,s,h=>⟨h,Nat.le_refl _⟩
 |k+1,r,s,h=>by
  rw[Z8]
  split
  ·exact⟨h,by dsimp only;omega⟩
  ·obtain⟨h1,h2⟩:=Fi k (fieldR r).2 (s++[(fieldR r).1]) (h.snoc r)
   exact⟨h1,by rw[List.length_append]at h2;simp at h2;omega⟩
theorem K8(b:List UInt8):We (Zt b).1∧(Zt b).1.length≤40:=by
 show We (V8 _ _).1∧(V8 _ _).1.length≤40
 obtain⟨h1,h2⟩:=Fi (Qx 40 4 ⟨b,0⟩).1 (Qx 40 4 ⟨b,0⟩).2 [] (fun f hf=>nomatch hf)
 have h3:=Zo (m:=40) (w:=4) (by decide) ⟨b,0⟩
 generalize Z8 (Qx 40 4 ⟨b,0⟩).1 (Qx 40 4 ⟨b,0⟩).2 []=q at *
 have key:∀r':BR,We (if r'.e≠0 then(([]:List Fd),r'.e)else(q.1,0)).1∧(if r'.e≠0 then(([]:List Fd),r'.e)else(q.1,0)).1.length≤40:=by
  intro r'
  split
  ·exact⟨fun f hf=>(nomatch hf),Nat.zero_le _⟩
  ·exact⟨h1,by simp at h2 ⊢;omega⟩
 exact key _
abbrev cFme[Syms]:CallT:=Q6 55 (QD FK) (Q6 54 (QD Jy) (Q6 27 (QD UL) (Q6 57 (QD Uw) (Q6 56 (Xc S_prs) (Q6 44 (Xc S_leaves) (Q6 58 (QD Jz) (Q6 59 (Ft Q7 Q7 (Qv fns) (Qn tys) (Qz plt) 100) Q7)))))))
theorem RY[Syms]:cFme.ok Try.prog:=Q4 M5 (Q4 J0 (Q4 Um (Q4 UF (Qk ST (Qk Dp (Q4 LD (Xz (XX Qh Qi Q3 Q9 Qt) Q9)))))))
noncomputable def plMe:Nat→Nat→Pl:=XG [(26,14),(26,16),(26,11)] (Qz plt)
abbrev QE(s:AVal)(n:Int)(g:AVal):List AVal:=[s,.int .i64 n,g]
def meS(ls:List Lf)(n i:Nat)(q:BR)(s:List Fd)(c:Int)(gs:List Rw):St:=⟨[(0,.ptr 0 0 0),(2,.ptr 1 0 0),(3,.ptr 2 0 0),(8,vL ls),(36,.int .i64 n),(37,.int .i64 i)],[(0,rdB q),(1,some (.cells [QE .nils 0 .nils] false)),(2,some (.cells [QE (vF s) c (.slice 3 0 gs.length 2 none)] false)),(3,some (.cells (gs.map encR) false))],4⟩
def meN(ls:List Lf)(n i:Nat)(q:BR)(s:List Fd)(c:Int):St:=⟨[(0,.ptr 0 0 0),(2,.ptr 1 0 0),(3,.ptr 2 0 0),(8,vL ls),(36,.int .i64 n),(37,.int .i64 i)],[(0,rdB q),(1,some (.cells [QE .nils 0 .nils] false)),(2,some (.cells [QE (vF s) c .nils] false))],3⟩
def meF(q:BR)(s:List Fd)(c:Int)(gs:List Rw):St:=⟨[(0,.ptr 0 0 0),(2,.ptr 1 0 0),(3,.ptr 2 0 0)],[(0,rdB q),(1,some (.cells [QE .nils 0 .nils] false)),(2,some (.cells [QE (vF s) c (.vs 2 (gs.map encR))] false))],3⟩
theorem Ka[Syms]{N K nx:Nat}{e:Env}{H:Heap}{ls:List Lf}{c i1:Int}{n i:Nat}{q:BR}{s:List Fd}{gs:List Rw}{rows:List (List AVal)}{len:Nat}(hn:QG 1 nx [0,1,2,K]=true)(h0:e.get 0= .ptr 0 0 0)(h2:e.get 2= .ptr 1 0 0)(h3:e.get 3= .ptr 2 0 0)(h8:e.get 8=vL ls)(h36:e.get 36= .int .i64 n)(h37:e.get 37= .int .i64 i1)(hi:i1=i)
 (H0:H.get 0=rdB q) (H1:H.get 1=some (.cells [QE .nils 0 .nils] false)) (H2:H.get 2=some (.cells [QE (vF s) c (.slice K 0 len 2 none)] false)) (HK:H.get K=some (.cells rows false)) (hr:rows=gs.map encR) (hl:len=gs.length):Reb 1 N ⟨e,H,nx⟩ (meS ls n i q s c gs):=by
 subst hr hl hi
 exact Q0 [0,1,2,K] hn ⟨by rw[h0];exact .refl _,by rw[h2];exact .refl _,by rw[h3];exact .refl _,by rw[h8];exact .refl _,by rw[h36];exact .refl _,by rw[h37];exact .refl _,trivial⟩
  ⟨⟨show 0<4 by decide,_,H0,.refl _⟩,⟨show 1<4 by decide,_,H1,.refl _⟩,⟨show 2<4 by decide,_,H2,.refl _⟩,⟨show 3<4 by decide,_,HK,Qb (fR _)⟩,trivial⟩
theorem Ra[Syms]{N K nx:Nat}{e:Env}{H:Heap}{c:Int}{q:BR}{s:List Fd}{gs:List Rw}{rows:List (List AVal)}{len:Nat}(hp:0<gs.length)(hn:QG 1 nx [0,1,2,K]=true)(h0:e.get 0= .ptr 0 0 0)(h2:e.get 2= .ptr 1 0 0)(h3:e.get 3= .ptr 2 0 0)
 (H0:H.get 0=rdB q) (H1:H.get 1=some (.cells [QE .nils 0 .nils] false)) (H2:H.get 2=some (.cells [QE (vF s) c (.slice K 0 len 2 none)] false)) (HK:H.get K=some (.cells rows false)) (hr:rows=gs.map encR) (hl:len=gs.length):Reb 1 N ⟨e,H,nx⟩ (meF q s c gs):=by
 subst hr hl
 have hcut:((gs.map encR).drop 0).take gs.length=gs.map encR:=by rw[List.drop_zero,List.take_of_length_le (by simp)]
 have hs:FzV 3 (gs.map encR) (.slice 3 0 gs.length 2 none) (.vs 2 (gs.map encR)):=by
  have:=FzV.sl (n:=3) (rows:=gs.map encR) 0 gs.length 2 none hp (by simp)
  rwa [hcut]at this
 refine(Q0 (e3:=[(0,.ptr 0 0 0),(2,.ptr 1 0 0),(3,.ptr 2 0 0)]) (H3:=[(0,rdB q),(1,some (.cells [QE .nils 0 .nils] false)),(2,some (.cells [QE (vF s) c (.slice 3 0 gs.length 2 none)] false)),(3,some (.cells (gs.map encR) false))]) [0,1,2,K] hn ⟨by rw[h0];exact .refl _,by rw[h2];exact .refl _,by rw[h3];exact .refl _,trivial⟩
  ⟨⟨show 0<4 by decide,_,H0,.refl _⟩,⟨show 1<4 by decide,_,H1,.refl _⟩,⟨show 2<4 by decide,_,H2,.refl _⟩,⟨show 3<4 by decide,_,HK,Qb (fR _)⟩,trivial⟩).trans ?_
 refine(QV (n:=3) (e3:=[(0,.ptr 0 0 0),(2,.ptr 1 0 0),(3,.ptr 2 0 0)]) (H3:=[(0,rdB q),(1,some (.cells [QE .nils 0 .nils] false)),(2,some (.cells [QE (vF s) c (.vs 2 (gs.map encR))] false))]) rfl (fR gs) ⟨.same _,.same _,.same _,trivial⟩
  ⟨⟨by decide,_,rfl,.same _⟩,⟨by decide,_,rfl,.same _⟩,⟨by decide,_,rfl,.cells [QE (vF s) c (.slice 3 0 gs.length 2 none)] [QE (vF s) c (.vs 2 (gs.map encR))] false rfl (fun j r r' h h'=>?_)⟩,trivial⟩).trans (Q0 [0,1,2] rfl ⟨.refl _,.refl _,.refl _,trivial⟩ ⟨⟨by decide,_,rfl,.refl _⟩,⟨by decide,_,rfl,.refl _⟩,⟨by decide,_,rfl,.refl _⟩,trivial⟩)
 cases j with
 |zero=>
  cases h;cases h'
  exact⟨.same _,.same _,hs,trivial⟩
 |succ j=>simp at h
theorem NX[Syms]{N nx:Nat}{e:Env}{H:Heap}{c:Int}{q:BR}{s:List Fd}(hn:QG 1 nx [0,1,2]=true)(h0:e.get 0= .ptr 0 0 0)(h2:e.get 2= .ptr 1 0 0)(h3:e.get 3= .ptr 2 0 0)
 (H0:H.get 0=rdB q) (H1:H.get 1=some (.cells [QE .nils 0 .nils] false)) (H2:H.get 2=some (.cells [QE (vF s) c .nils] false)):Reb 1 N ⟨e,H,nx⟩ (meF q s c []):=
 Q0 [0,1,2] hn ⟨by rw[h0];exact .refl _,by rw[h2];exact .refl _,by rw[h3];exact .refl _,trivial⟩
  ⟨⟨show 0<3 by decide,_,H0,.refl _⟩,⟨show 1<3 by decide,_,H1,.refl _⟩,⟨show 2<3 by decide,_,H2,QB (row:=QE (vF s) c (.vs 2 [])) ⟨.refl _,.refl _,.zero _ _ rfl,trivial⟩⟩,trivial⟩
theorem eM(m:Mt):∀x∈QT m,x.flat=true:=fun x hx=>by simp[QT]at hx;rcases hx with rfl|rfl|rfl<;>rfl
theorem U1(ps:List Rw)(p:Rw):List.take ps.length (List.drop 0 (ps.map encR))++[encR p]=(ps++[p]).map encR:=by
 rw[List.drop_zero,List.take_of_length_le (by simp),List.map_append];rfl
theorem KY(ks:List Int)(k:Nat)(r:BR)(s:List Rw)(h:r.e=0):Z3 ks (k+1) r s=Z3 ks k (Ze ks r).2 (s++[(Ze ks r).1]):=by
 rw[Z3,if_neg (fun x=>x h)]
theorem Wu(ks:List Int)(k:Nat)(r:BR)(s:List Rw)(h:r.e≠0):Z3 ks k r s=(s,r):=by
 cases k with
 |zero=>rfl
 |succ k=>rw[Z3,if_pos h]
theorem Rp[Syms]{Post:AVal→Heap→Nat→Prop}(r:BR)(hl:r.b.length≤1000000)(hP:Post (.agg (QT (WM r).1)) [(0,rdB (WM r).2)] 2):
 fnT Q7 cFme (Qv fns) (Qn tys) plMe 100 26 [.ptr 0 0 0] [(0,rdB r)] 1 (Vt Post):=by
 unfold WM at hP
 dsimp only at hP
 repeat' first|refine And.intro ?_ ?_|(intro h;try first|exact dz|replace h:=cv)
 all_goals try exact cz
 refine⟨[0],[.ptr 0 0 0,.int .i64 ((2000:Nat):Int),.int .i64 5],[(0,rdB r)],rfl,⟨.refl _,.refl _,.refl _,trivial⟩,⟨⟨by decide,_,rfl,.refl _⟩,trivial⟩,r,2000,5,rfl,rfl,rfl,⟨by omega,by omega,by decide⟩,?_⟩
 have l_r1:(Qx 2000 5 r).2.b.length≤r.b.length:=QJ _ _ _
 have n_v1:(Qx 2000 5 r).1≤2000:=Zo (by decide) _
 generalize Qx 2000 5 r=q at *
 obtain⟨v1,r1⟩:=q
 replace l_r1:r1.b.length≤r.b.length:=l_r1
 replace n_v1:v1≤2000:=n_v1
 dsimp only at hP
 refine⟨[0],[.ptr 0 0 0,.int .i64 (v1:Nat)],[(0,rdB r1)],rfl,⟨.refl _,.refl _,trivial⟩,⟨⟨by decide,_,rfl,.refl _⟩,trivial⟩,r1,v1,rfl,rfl,rfl,⟨by omega,by omega⟩,?_⟩
 have l_r2:(QC v1 r1).2.b.length≤r1.b.length:=Vs _ _
 have l_t:(QC v1 r1).1.length≤v1:=KD _ _
 generalize QC v1 r1=y at *
 obtain⟨t,r2⟩:=y
 replace l_r2:r2.b.length≤r1.b.length:=l_r2
 replace l_t:t.length≤v1:=l_t
 dsimp only at hP
 have hx1:=fun ρ=>Yy ρ r2.b r2.e
 have hx2:=hx1
 have hx3:=hx1
 have hx4:=hx1
 by_cases h0:r2.e=0
 ·rw[if_neg (fun h=>h h0)]at hP
  repeat' first|refine And.intro ?_ ?_|(intro h;try first|exact dzi|replace h:=cvi)
  all_goals try exact cz
  refine⟨t,rfl,by omega,?_⟩
  have hok:=K8 t
  generalize Zt t=y at *
  obtain⟨s,x⟩:=y
  dsimp only at hP hok
  obtain⟨hok,hs40⟩:=hok
  have hfs:=hok.fs hs40
  have hkin:QR s=Q5 (Qu s):=rfl
  have hll:(Qu s).length≤1000:=by have:(Qu s).length≤s.length:=Zu _ _ _;omega
  rw[hkin]at hP
  repeat' first|refine And.intro ?_ ?_|(intro h;try first|exact dz|replace h:=cv)
  all_goals try exact cz
  refine⟨[0],[.ptr 0 0 0,.int .i64 x],[(0,rdB r2)],rfl,⟨.refl _,.refl _,trivial⟩,⟨⟨by decide,_,rfl,.refl _⟩,trivial⟩,r2,x,rfl,rfl,rfl,?_⟩
  have l_r3:(Qs r2 x).b.length≤r2.b.length:=by rw[Bl];exact Nat.le_refl _
  generalize Qs r2 x=r3 at *
  repeat' first|refine And.intro ?_ ?_|(intro h;try first|exact dz|replace h:=cv)
  all_goals try exact cz
  refine⟨[0],[.ptr 0 0 0],[(0,rdB r3)],rfl,⟨.refl _,trivial⟩,⟨⟨by decide,_,rfl,.refl _⟩,trivial⟩,r3,rfl,rfl,rfl,by omega,?_⟩
  have l_r4:(plainR r3).2.b.length≤r3.b.length:=QJ _ _ _
  have n_c:(plainR r3).1≤1048576:=Zo (by decide) _
  generalize plainR r3=q at *
  obtain⟨c,r4⟩:=q
  replace l_r4:r4.b.length≤r3.b.length:=l_r4
  replace n_c:c≤1048576:=n_c
  dsimp only at hP
  repeat' first|refine And.intro ?_ ?_|(intro h;try first|exact dz|replace h:=cv)
  all_goals try exact cz
  refine⟨[0],[.ptr 0 0 0,.int .i64 ((200:Nat):Int),.int .i64 4],[(0,rdB r4)],rfl,⟨.refl _,.refl _,.refl _,trivial⟩,⟨⟨by decide,_,rfl,.refl _⟩,trivial⟩,r4,200,4,rfl,rfl,rfl,⟨by omega,by omega,by decide⟩,?_⟩
  have l_r5:(Qx 200 4 r4).2.b.length≤r4.b.length:=QJ _ _ _
  have n_n:(Qx 200 4 r4).1≤200:=Zo (by decide) _
  generalize Qx 200 4 r4=q at *
  obtain⟨n,r5⟩:=q
  replace l_r5:r5.b.length≤r4.b.length:=l_r5
  replace n_n:n≤200:=n_n
  dsimp only at hP
  repeat' first|refine And.intro ?_ ?_|(intro h;try first|exact dz|replace h:=cv)
  all_goals try exact cz
  refine⟨s,rfl,hfs,?_⟩
  generalize Qu s=ls at *
  repeat' first|refine And.intro ?_ ?_|(intro h;try first|exact dz|replace h:=cv)
  all_goals try exact cz
  refine⟨meN ls n 0 r5 s c,Q0 [0,1,2] (by exact rfl) ⟨.refl _,.refl _,.refl _,.refl _,.refl _,.refl _,trivial⟩ ⟨⟨by decide,_,rfl,.refl _⟩,⟨by decide,_,rfl,.refl _⟩,⟨by decide,_,rfl,.refl _⟩,trivial⟩,?_⟩
  refine⟨fun m st=>∃(i:Nat) (q:BR) (gs:List Rw),(i≤n∧m=n-i∧gs.length≤i∧q.b.length≤r.b.length∧Z3 (Q5 ls) (n-i) q gs=Z3 (Q5 ls) n r5 [])∧(st=meS ls n i q s c gs∧0<gs.length∨st=meN ls n i q s c∧gs=[]),⟨_,meN ls n 0 r5 s c,.refl _ _ _,0,r5,[],⟨by omega,rfl,by simp,by omega,rfl⟩,.inr ⟨rfl,rfl⟩⟩,?_⟩
  clear l_t hx1 hx2 hx3 hx4
  rintro m st ⟨i,q,gs,⟨hi,rfl,hgl,hql,hfr⟩,⟨rfl,hp0⟩|⟨rfl,rfl⟩⟩
  ·by_cases h1:i<n
   ·by_cases h2:q.e=0
    ·have hst:n-i=n-(i+1)+1:=by omega
     have hgs:=KY (Q5 ls) (n-(i+1)) q gs h2
     have hpl2:=F8 (Q5 ls) q
     have hcall:∀(K:AVal→Heap→Nat→Prop),K (.agg (encR (Ze (Q5 ls) q).1)) [(0,rdB (Ze (Q5 ls) q).2)] 2→Jz [.ptr 0 0 0,vL ls] [(0,rdB q)] 1 K:=fun K hk=>⟨ls,q,rfl,rfl,rfl,⟨by omega,hll⟩,hk⟩
     generalize Ze (Q5 ls) q=y at *
     obtain⟨p,q2⟩:=y
     dsimp only at hgs hpl2 hcall
     repeat' first|refine And.intro ?_ ?_|(intro h;try first|exact dz|replace h:=cv)
     all_goals try exact cz
     refine⟨meS ls n i q2 s c (gs++[p]),?_,?_⟩
     · repeat' first|refine And.intro ?_ ?_|(intro h;try first|exact dz|replace h:=cv)
       all_goals try exact cz
       all_goals(refine⟨[0],[.ptr 0 0 0,vL ls],[(0,rdB q)],rfl,⟨.refl _,.refl _,trivial⟩,⟨⟨by decide,_,rfl,.refl _⟩,trivial⟩,?_⟩;refine hcall _ ?_)
       repeat' first|refine And.intro ?_ ?_|(intro h;try first|exact dz|replace h:=cv)
       all_goals try exact cz
       all_goals(refine Exists.intro () ?_;first|exact Ka (K:=7) (by exact rfl) rfl rfl rfl rfl rfl rfl rfl rfl rfl rfl rfl (U1 _ _) (by simp)|exact Ka (K:=6) (by exact rfl) rfl rfl rfl rfl rfl rfl rfl rfl rfl rfl rfl (U1 _ _) (by simp))
     · repeat' first|refine And.intro ?_ ?_|(intro h;try first|exact dz|replace h:=cv)
       all_goals try exact cz
       exact⟨_,meS ls n (i+1) q2 s c (gs++[p]),Ka (K:=3) rfl rfl rfl rfl rfl rfl rfl (by omega) rfl rfl rfl rfl rfl rfl,⟨i+1,q2,gs++[p],⟨by omega,rfl,by simp;omega,by omega,by rw[←hfr,hst,hgs]⟩,.inl ⟨rfl,by simp⟩⟩,by omega⟩
    · repeat' first|refine And.intro ?_ ?_|(intro h;try first|exact dz|replace h:=cv)
      all_goals try exact cz
      exact⟨_,meS ls n (i+1) q s c gs,Ka (K:=3) rfl rfl rfl rfl rfl rfl rfl (by omega) rfl rfl rfl rfl rfl rfl,⟨i+1,q,gs,⟨by omega,rfl,by omega,hql,by rw[←hfr,Wu _ _ _ _ h2,Wu _ _ _ _ h2]⟩,.inl ⟨rfl,hp0⟩⟩,by omega⟩
   ·have hfe:Z3 (Q5 ls) n r5 []=(gs,q):=by
     rw[←hfr,show n-i=0 by omega];rfl
    rw[hfe]at hP
    dsimp only at hP
    repeat' first|refine And.intro ?_ ?_|(intro h;try first|exact dz|replace h:=cv)
    all_goals try exact cz
    ·show YD 2 (List.take gs.length (List.drop 0 (gs.map encR)))=true
     rw[List.drop_zero,List.take_of_length_le (by simp)];exact Zv (enc:=encR) (z:=2) (fun _=>rfl) _
    refine⟨_,.refl _ _ _,_,rfl,?_⟩
    repeat' first|refine And.intro ?_ ?_|(intro h;try first|exact dz|replace h:=cv)
    all_goals try exact cz
    refine⟨_,Ra (K:=5) hp0 (by exact rfl) rfl rfl rfl rfl rfl rfl rfl (by show[]++List.take gs.length (List.drop 0 (gs.map encR))=_;rw[List.drop_zero,List.take_of_length_le (by simp)];rfl) (Nat.zero_add _),?_⟩
    repeat' first|refine And.intro ?_ ?_|(intro h;try first|exact dz|replace h:=cv)
    all_goals try exact cz
    exact Xj (k:=2) (n:=1) (row:=QT ⟨s,c,gs⟩) rfl rfl rfl ⟨.un rfl,.refl _,.refl _,trivial⟩ (eM _) (by first|rfl|kernel_rfl) rfl hP
  ·by_cases h1:i<n
   ·by_cases h2:q.e=0
    ·have hst:n-i=n-(i+1)+1:=by omega
     have hgs:=KY (Q5 ls) (n-(i+1)) q [] h2
     have hpl2:=F8 (Q5 ls) q
     have hcall:∀(K:AVal→Heap→Nat→Prop),K (.agg (encR (Ze (Q5 ls) q).1)) [(0,rdB (Ze (Q5 ls) q).2)] 2→Jz [.ptr 0 0 0,vL ls] [(0,rdB q)] 1 K:=fun K hk=>⟨ls,q,rfl,rfl,rfl,⟨by omega,hll⟩,hk⟩
     generalize Ze (Q5 ls) q=y at *
     obtain⟨p,q2⟩:=y
     dsimp only at hgs hpl2 hcall
     repeat' first|refine And.intro ?_ ?_|(intro h;try first|exact dz|replace h:=cv)
     all_goals try exact cz
     refine⟨meS ls n i q2 s c ([]++[p]),?_,?_⟩
     · repeat' first|refine And.intro ?_ ?_|(intro h;try first|exact dz|replace h:=cv)
       all_goals try exact cz
       all_goals(refine⟨[0],[.ptr 0 0 0,vL ls],[(0,rdB q)],rfl,⟨.refl _,.refl _,trivial⟩,⟨⟨by decide,_,rfl,.refl _⟩,trivial⟩,?_⟩;refine hcall _ ?_)
       repeat' first|refine And.intro ?_ ?_|(intro h;try first|exact dz|replace h:=cv)
       all_goals try exact cz
       all_goals(refine Exists.intro () ?_;first|exact Ka (K:=6) (by exact rfl) rfl rfl rfl rfl rfl rfl rfl rfl rfl rfl rfl rfl rfl|exact Ka (K:=5) (by exact rfl) rfl rfl rfl rfl rfl rfl rfl rfl rfl rfl rfl rfl rfl)
     · repeat' first|refine And.intro ?_ ?_|(intro h;try first|exact dz|replace h:=cv)
       all_goals try exact cz
       exact⟨_,meS ls n (i+1) q2 s c ([]++[p]),Ka (K:=3) rfl rfl rfl rfl rfl rfl rfl (by omega) rfl rfl rfl rfl rfl rfl,⟨i+1,q2,[]++[p],⟨by omega,rfl,by simp,by omega,by rw[←hfr,hst,hgs]⟩,.inl ⟨rfl,by simp⟩⟩,by omega⟩
    · repeat' first|refine And.intro ?_ ?_|(intro h;try first|exact dz|replace h:=cv)
      all_goals try exact cz
      exact⟨_,meN ls n (i+1) q s c,Q0 [0,1,2] rfl ⟨.refl _,.refl _,.refl _,.refl _,.refl _,Qp (by omega),trivial⟩ ⟨⟨by decide,_,rfl,.refl _⟩,⟨by decide,_,rfl,.refl _⟩,⟨by decide,_,rfl,.refl _⟩,trivial⟩,⟨i+1,q,[],⟨by omega,rfl,by simp,hql,by rw[←hfr,Wu _ _ _ _ h2,Wu _ _ _ _ h2]⟩,.inr ⟨rfl,rfl⟩⟩,by omega⟩
   ·have hfe:Z3 (Q5 ls) n r5 []=([],q):=by
     rw[←hfr,show n-i=0 by omega];rfl
    rw[hfe]at hP
    dsimp only at hP
    repeat' first|refine And.intro ?_ ?_|(intro h;try first|exact dz|replace h:=cv)
    all_goals try exact cz
    refine⟨_,.refl _ _ _,_,rfl,?_⟩
    repeat' first|refine And.intro ?_ ?_|(intro h;try first|exact dz|replace h:=cv)
    all_goals try exact cz
    refine⟨_,NX (by exact rfl) rfl rfl rfl rfl rfl rfl,?_⟩
    repeat' first|refine And.intro ?_ ?_|(intro h;try first|exact dz|replace h:=cv)
    all_goals try exact cz
    exact Xj (k:=2) (n:=1) (row:=QT ⟨s,c,[]⟩) rfl rfl rfl ⟨.un rfl,.refl _,.refl _,trivial⟩ (eM _) (by first|rfl|kernel_rfl) rfl hP
 ·rw[if_pos h0]at hP
  repeat' first|refine And.intro ?_ ?_|(intro h;try first|exact dzi|replace h:=cvi)
  all_goals try exact cz
  exact Xj (k:=2) (n:=1) (row:=QT mt0) rfl rfl rfl ⟨.zero _ _ rfl,.refl _,.zero _ _ rfl,trivial⟩ (eM _) (by first|rfl|kernel_rfl) rfl hP
def ID:SpecT:=fun args H nx Post=>∃(r:BR),args=[.ptr 0 0 0]∧H=[(0,rdB r)]∧nx=1∧r.b.length≤1000000∧Post (.agg (QT (WM r).1)) [(0,rdB (WM r).2)] 2
theorem Q0v[Syms]:ID.ok Try.prog 26:=by
 rintro args H nx Post ⟨r,rfl,rfl,rfl,h1,h⟩
 exact XB.forget (Qg Qh Qi Q3 RY Qt (Rp r h1 h))
end
end Go.Proofs.Ytajieadpaeggcaa
