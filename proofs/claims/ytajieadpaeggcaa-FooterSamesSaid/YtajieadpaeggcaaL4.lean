/-
  The reader of a schema's bytes:a number. The program's. The cursor:so many bytes,a number of so many bytes. The program's. The cursor:a number of so many bytes. The program's. The reader of a schema's bytes:one byte. The program's. The reader of a schema's bytes:a field. The program's. The footer's reader:what is wrong,so many bytes,a number. The program's. A schema's bytes,read:the loop's parts. The program's. 'name':is a text a name? The program's;a field's check.
-/
import Derived.Test.YtajieadpaeggcaaL3
import Derived.Laws.RangeAny
set_option linter.unusedVariables false
set_option linter.unusedSimpArgs false
namespace Go.Proofs.Ytajieadpaeggcaa
open Go Go.Av
section
set_option maxRecDepth 100000
set_option maxHeartbeats 4000000
theorem Gn:∀(l:List UInt8) (i v:Nat),(YU l i v).2.1≤i+l.length
 |[],i,v=>by simp[YU]
 |x::l,i,v=>by
  rw[YU]
  split
  ·simp
  ·split
   ·split
    ·simp
    ·simp<;>omega
   ·have:=Gn l (i+1) (v+x.toNat%128*2^(7*i))
    simp;omega
abbrev cNm:CallT:=Qe 79 (Xw S_get) (Qe 82 (Z6 JC) (Qe 98 (Z6 JB) Q9))
theorem Oh[Syms]:cNm.ok Try.prog:=Qm HY (Qc JT (Qc JR Qb))
theorem WE(n:Nat)(r:BR):(Z4 n r).2.b.length≤r.b.length:=by
 unfold Z4 QT
 split<;>(try split)<;>simp<;>(try split)<;>simp
theorem Yb(ρ:Nat→Nat)(b:List UInt8)(e:Int):asI (((List.map (AVal.renL ρ) [[vB b,AVal.int IntKind.i64 e]]).getD 0 []).getD 1 AVal.any)=e:=rfl
theorem XC{n:Nat}{r:BR}(h:r.e≠0):Z4 n r=([],r):=by
 unfold Z4 QT
 simp[h]
theorem IP{n:Nat}(h:n≤2000000):wr .i64 (n:Int)=n:=wrI (by omega)
theorem NF[Syms]{Post:AVal→Heap→Nat→Prop}(r:BR)(most:Nat)(wrong:Int)(hl:r.b.length≤1000000)(hm:most≤1000000)(hw:wrong≠0)(hP:Post (.int .i64 ((QX most wrong r).1:Nat)) [(0,rdB (QX most wrong r).2)] 1):
 fnT Q9 cNm (QN fns) (Qz tys) (QV plt) 100 80 [.ptr 0 0 0,.int .i64 most,.int .i64 wrong] [(0,rdB r)] 1 Post:=by
 obtain⟨b,e⟩:=r
 have hl:b.length≤1000000:=hl
 unfold QX at hP
 by_cases h0:e=0
 ·subst h0
  have hk:=Gn b 0 0
  rw[if_neg (by simp)]at hP
  unfold Vo at hP
  simp only at hP
  repeat' first|refine And.intro ?_ ?_|(intro h;try first|exact dz|replace h:=cv)
  all_goals try exact cz
  refine⟨b,rfl,hl,?_⟩
  rcases hg:YU b 0 0 with⟨v,k,x⟩
  rw[hg]at hP hk
  simp only at hP hk
  repeat' first|refine And.intro ?_ ?_|(intro h;try first|exact dz|replace h:=cv)
  all_goals try exact cz
  refine⟨[0],[.ptr 0 0 0,.int .i64 x],[(0,rdB ⟨b,0⟩)],rfl,⟨.refl _,.refl _,trivial⟩,⟨⟨by decide,_,rfl,.refl _⟩,trivial⟩,⟨b,0⟩,x,rfl,rfl,rfl,?_⟩
  have hf:∀y:Int,QT ⟨b,0⟩ y=⟨b,y⟩:=fun _=>rfl
  have hq:∀y:Int,rdB ⟨b,y⟩=some (.cells [[vB b,.int .i64 y]] false):=fun _=>rfl
  have hx1:=fun ρ=>Yb ρ b
  have hx2:=CA (n:=most) (by omega)
  by_cases h2:x=0∧most<v
  ·obtain⟨hx0,h2'⟩:=h2
   subst hx0
   rw[hf,if_pos (show(0:Int)=0∧most<v from⟨rfl,h2'⟩),hf,XC (show(BR.mk b wrong).e≠0 from hw),if_pos (show(([]:List UInt8),BR.mk b wrong).2.e≠0 from hw)]at hP
   rw[hf,hq]
   have hx3:=hw
   have hx4:=hw
   repeat' first|refine And.intro ?_ ?_|(intro h;try first|exact dzi|replace h:=cvi)
   all_goals try exact cz
   refine⟨[0],[.ptr 0 0 0,.int .i64 wrong],[(0,rdB ⟨b,0⟩)],rfl,⟨.refl _,.refl _,trivial⟩,⟨⟨by decide,_,rfl,.refl _⟩,trivial⟩,⟨b,0⟩,wrong,rfl,rfl,rfl,?_⟩
   rw[hf,hq]
   repeat' first|refine And.intro ?_ ?_|(intro h;try first|exact dzi|replace h:=cvi)
   all_goals try exact cz
   refine⟨[0],[.ptr 0 0 0,.int .i64 k],[(0,rdB ⟨b,wrong⟩)],rfl,⟨.refl _,.refl _,trivial⟩,⟨⟨by decide,_,rfl,.refl _⟩,trivial⟩,⟨b,wrong⟩,k,rfl,rfl,rfl,⟨hl,by omega⟩,?_⟩
   rw[XC (show(BR.mk b wrong).e≠0 from hw),hq]
   repeat' first|refine And.intro ?_ ?_|(intro h;try first|exact dzi|replace h:=cvi)
   all_goals try exact cz
   exact⟨⟨[(6,.int .i64 0)],[(0,rdB ⟨b,wrong⟩)],1⟩,Q0 [0] (by first|rfl|kernel_rfl) ⟨.refl _,trivial⟩ ⟨⟨by decide,_,rfl,.refl _⟩,trivial⟩,_,rfl,hP⟩
  ·rw[hf,if_neg h2]at hP
   rw[hf,hq]
   by_cases h3:x=0
   ·subst h3
    have h4:v≤most:=by omega
    have hx4:=IP (n:=v) (by omega)
    have hx3:=hx4
    repeat' first|refine And.intro ?_ ?_|(intro h;try first|exact dzi|replace h:=cvi)
    all_goals try exact cz
    refine⟨[0],[.ptr 0 0 0,.int .i64 k],[(0,rdB ⟨b,0⟩)],rfl,⟨.refl _,.refl _,trivial⟩,⟨⟨by decide,_,rfl,.refl _⟩,trivial⟩,⟨b,0⟩,k,rfl,rfl,rfl,⟨hl,by omega⟩,?_⟩
    rcases ht:Z4 k ⟨b,0⟩with⟨t,b',e'⟩
    rw[ht]at hP
    have hx3:=fun ρ=>Yb ρ b' e'
    rw[show rdB (t,BR.mk b' e').2=some (.cells [[vB b',.int .i64 e']] false) from rfl]
    by_cases h5:e'=0
    ·rw[if_neg (show ¬(t,BR.mk b' e').2.e≠0 from fun h=>h h5)]at hP
     repeat' first|refine And.intro ?_ ?_|(intro h;try first|exact dzi|replace h:=cvi)
     all_goals try exact cz
     refine⟨⟨[(6,.int .i64 (v:Nat))],[(0,rdB ⟨b',e'⟩)],1⟩,Q0 [0] (by first|rfl|kernel_rfl) ⟨Qg hx4,trivial⟩ ⟨⟨by decide,_,rfl,.refl _⟩,trivial⟩,_,rfl,hP⟩
    ·rw[if_pos (show(t,BR.mk b' e').2.e≠0 from h5)]at hP
     repeat' first|refine And.intro ?_ ?_|(intro h;try first|exact dzi|replace h:=cvi)
     all_goals try exact cz
     exact⟨⟨[(6,.int .i64 0)],[(0,rdB ⟨b',e'⟩)],1⟩,Q0 [0] (by first|rfl|kernel_rfl) ⟨.refl _,trivial⟩ ⟨⟨by decide,_,rfl,.refl _⟩,trivial⟩,_,rfl,hP⟩
   ·rw[XC (show(BR.mk b x).e≠0 from h3),if_pos (show(([]:List UInt8),BR.mk b x).2.e≠0 from h3)]at hP
    have hx3:=h3
    have hx4:=h3
    repeat' first|refine And.intro ?_ ?_|(intro h;try first|exact dzi|replace h:=cvi)
    all_goals try exact cz
    refine⟨[0],[.ptr 0 0 0,.int .i64 k],[(0,rdB ⟨b,x⟩)],rfl,⟨.refl _,.refl _,trivial⟩,⟨⟨by decide,_,rfl,.refl _⟩,trivial⟩,⟨b,x⟩,k,rfl,rfl,rfl,⟨hl,by omega⟩,?_⟩
    rw[XC (show(BR.mk b x).e≠0 from h3),hq]
    repeat' first|refine And.intro ?_ ?_|(intro h;try first|exact dzi|replace h:=cvi)
    all_goals try exact cz
    exact⟨⟨[(6,.int .i64 0)],[(0,rdB ⟨b,x⟩)],1⟩,Q0 [0] (by first|rfl|kernel_rfl) ⟨.refl _,trivial⟩ ⟨⟨by decide,_,rfl,.refl _⟩,trivial⟩,_,rfl,hP⟩
 ·rw[if_pos h0]at hP
  repeat' first|refine And.intro ?_ ?_|(intro h;try first|exact dz|replace h:=cv)
  all_goals try exact cz
  exact⟨⟨[(6,.int .i64 0)],[(0,rdB ⟨b,e⟩)],1⟩,Q0 [0] (by first|rfl|kernel_rfl) ⟨.refl _,trivial⟩ ⟨⟨by decide,_,rfl,.refl _⟩,trivial⟩,_,rfl,hP⟩
def BA:SpecT:=fun args H nx Post=>∃(r:BR) (most:Nat) (wrong:Int),args=[.ptr 0 0 0,.int .i64 most,.int .i64 wrong]∧H=[(0,rdB r)]∧nx=1∧(r.b.length≤1000000∧most≤1000000∧wrong≠0)∧Post (.int .i64 ((QX most wrong r).1:Nat)) [(0,rdB (QX most wrong r).2)] 1
theorem BV[Syms]:BA.ok Try.prog 80:=by
 rintro args H nx Post ⟨r,most,wrong,rfl,rfl,rfl,⟨h1,h2,h3⟩,h⟩
 exact QC Qp Qq Q5 Oh QJ (NF r most wrong h1 h2 h3 h)
end
section
set_option maxRecDepth 100000
set_option maxHeartbeats 4000000
abbrev rdN(k:Int):Option Blk:=some (.cells [[.nils,.int .i64 k]] false)
theorem LS[Syms]{Post:AVal→Heap→Nat→Prop}(b:List UInt8)(k:Int)(hk:k≠0)(hP:Post (.tup []) [(0,rdN k)] 1):
 fnT Q9 Q9 (QN fns) (Qz tys) (QV plt) 100 118 [.ptr 0 0 0,.int .i64 k] [(0,rdB ⟨b,0⟩)] 1 Post:=by
 have hx1:=hk
 have hx2:=hk
 have hx3:=hk
 have hx4:=hk
 repeat' first|refine And.intro ?_ ?_|(intro h;try first|exact dzi|replace h:=cvi)
 all_goals try exact cz
 ·exact⟨⟨[],[(0,rdN k)],1⟩,Q0 [0] (by first|rfl|kernel_rfl) trivial ⟨⟨by decide,_,rfl,.refl _⟩,trivial⟩,_,rfl,hP⟩
 ·exact absurd (show k=0 from h) hk
def Cy:SpecT:=fun args H nx Post=>∃(b:List UInt8) (k:Int),args=[.ptr 0 0 0,.int .i64 k]∧H=[(0,rdB ⟨b,0⟩)]∧nx=1∧k≠0∧Post (.tup []) [(0,rdN k)] 1
theorem Ix[Syms]:Cy.ok Try.prog 118:=by
 rintro args H nx Post ⟨b,k,rfl,rfl,rfl,h1,h⟩
 exact QC Qp Qq Q5 Qb QJ (LS b k h1 h)
abbrev cCt:CallT:=Qe 118 (Z6 Cy) Q9
theorem IA[Syms]:cCt.ok Try.prog:=Qc Ix Qb
theorem mx0(n:Nat):(if(n:Int)<0 then 0 else(n:Int))=n:=if_neg (by omega)
theorem LK[Syms]{Post:AVal→Heap→Nat→Prop}(b:List UInt8)(n:Nat)(hl:b.length≤1000000)(hn:n≤b.length)(hP:Post (vB (b.take n)) [(0,rdB ⟨b.drop n,0⟩)] 1):
 fnT Q9 cCt (QN fns) (Qz tys) (QV plt) 100 117 [.ptr 0 0 0,.int .i64 n] [(0,rdB ⟨b,0⟩)] 1 Post:=by
 have hmx:=mx0 n
 have hx1:=hmx
 have hx2:=hmx
 have hx3:=hmx
 have hx4:=hmx
 repeat' first|refine And.intro ?_ ?_|(intro h;try first|exact dzi|replace h:=cvi)
 all_goals try exact cz
 all_goals(try((with_reducible show(_:Nat)≤(_:Nat));show(if(n:Int)<0 then 0 else(n:Int)).toNat≤b.length;rw[hmx];omega))
 all_goals(try((with_reducible show(_:Int)≤(_:Int));show 0≤(if(n:Int)<0 then 0 else(n:Int));rw[hmx];omega))
 refine⟨_,JX (k:=4) (b:=b) (n:=n) hn (by first|rfl|kernel_rfl) ?_ ?_,_,rfl,hP⟩
 ·show AVal.vt 1 ((if(n:Int)<0 then 0 else(n:Int)).toNat-0) (fun i=>XS (b.getD (0+i) 0))=_
  rw[hmx];rfl
 ·show some (Blk.cells [[AVal.vt 1 (b.length-(if(n:Int)<0 then 0 else(n:Int)).toNat) (fun i=>XS (b.getD ((if(n:Int)<0 then 0 else(n:Int)).toNat+i) 0)),.int .i64 0]] false)=_
  rw[hmx];rfl
theorem Im[Syms]{Post:AVal→Heap→Nat→Prop}(b:List UInt8)(n:Nat)(hl:b.length≤1000000)(hn:b.length<n)(hn2:n≤1000000000)(hP:Post .nils [(0,rdN 8)] 1):
 fnT Q9 cCt (QN fns) (Qz tys) (QV plt) 100 117 [.ptr 0 0 0,.int .i64 n] [(0,rdB ⟨b,0⟩)] 1 Post:=by
 have hmx:=mx0 n
 have hx1:=hmx
 have hx2:=hmx
 have hx3:=hmx
 have hx4:=hmx
 repeat' first|refine And.intro ?_ ?_|(intro h;try first|exact dzi|replace h:=cvi)
 all_goals try exact cz
 refine⟨[0],[.ptr 0 0 0,.int .i64 8],[(0,rdB ⟨b,0⟩)],rfl,⟨.refl _,.refl _,trivial⟩,⟨⟨by decide,_,rfl,.refl _⟩,trivial⟩,b,8,rfl,rfl,rfl,by decide,?_⟩
 repeat' first|refine And.intro ?_ ?_|(intro h;try first|exact dzi|replace h:=cvi)
 all_goals try exact cz
 exact⟨⟨[(4,.nils)],[(0,rdN 8)],1⟩,Q0 [0] (by first|rfl|kernel_rfl) ⟨.refl _,trivial⟩ ⟨⟨by decide,_,rfl,.refl _⟩,trivial⟩,_,rfl,hP⟩
def Cx:SpecT:=fun args H nx Post=>∃(b:List UInt8) (n:Nat),args=[.ptr 0 0 0,.int .i64 n]∧H=[(0,rdB ⟨b,0⟩)]∧nx=1∧(b.length≤1000000∧n≤1000000000)∧(n≤b.length∧Post (vB (b.take n)) [(0,rdB ⟨b.drop n,0⟩)] 1∨b.length<n∧Post .nils [(0,rdN 8)] 1)
theorem Il[Syms]:Cx.ok Try.prog 117:=by
 rintro args H nx Post ⟨b,n,rfl,rfl,rfl,⟨h1,h2⟩,⟨h3,h⟩|⟨h3,h⟩⟩
 ·exact QC Qp Qq Q5 IA QJ (LK b n h1 h3 h)
 ·exact QC Qp Qq Q5 IA QJ (Im b n h1 h3 h2 h)
end
section
set_option maxRecDepth 100000
set_option maxHeartbeats 4000000
theorem Db:∀(l:List UInt8) (x:UInt8),leV (l++[x])=leV l+256^l.length*x.toNat
 |[],x=>by simp[leV]
 |y::l,x=>by
  rw[List.cons_append,leV,leV,Db l x,List.length_cons,Nat.pow_succ,Nat.mul_add,Nat.add_assoc,←Nat.mul_assoc,Nat.mul_comm 256 (256^l.length)]
theorem F8:∀(l:List UInt8),leV l<256^l.length
 |[]=>by simp[leV]
 |y::l=>by
  have:=F8 l
  have hy:=y.toNat_lt
  rw[leV,List.length_cons,Nat.pow_succ]
  omega
theorem HR{l:List UInt8}{i:Nat}(h:i<l.length):leV (l.take (i+1))=leV (l.take i)+256^i*(l.getD i 0).toNat:=by
 rw[List.take_add_one,List.getElem?_eq_getElem h]
 show leV (l.take i++[l[i]])=_
 rw[Db,List.length_take,Nat.min_eq_left (by omega),List.getD_eq_getElem?_getD,List.getElem?_eq_getElem h];rfl
theorem OG(v x i:Nat)(hv:v<256^i)(hi:i<8)(hx:x<256):
 IntKind.u64.wrap (((BitVec.ofInt 64 (v:Int) ||| BitVec.ofInt 64 (wr .u64 (wr .u64 (x:Int)*2^min ((8*(i:Int)).toNat) 64))).toNat:Nat):Int)=((v+256^i*x:Nat):Int):=by
 have e:256^i=2^(8*i):=by rw[show(256:Nat)=2^8 from rfl,←Nat.pow_mul]
 rw[e]at hv ⊢
 have h1:(8*(i:Int)).toNat=8*i:=by omega
 have hp:0<2^(8*i):=Nat.pow_pos (by decide)
 have h3:2^(8*i)≤2^56:=Nat.pow_le_pow_right (by decide) (by omega)
 have h2:(x+1)*2^(8*i)≤256*2^56:=Nat.mul_le_mul (by omega) h3
 rw[Nat.add_mul,Nat.one_mul]at h2
 have hs:wr .u64 (wr .u64 (x:Int)*2^min ((8*(i:Int)).toNat) 64)=((x*2^(8*i):Nat):Int):=by
  rw[h1,Nat.min_eq_left (by omega),CA (n:=x) (by omega),←CA (n:=x*2^(8*i)) (by omega)]
  congr 1
 have hm:∀n:Nat,n<2^64→(BitVec.ofInt 64 (n:Int)).toNat=n:=fun n hn=>by simp;omega
 rw[hs]
 have ho:(BitVec.ofInt 64 (v:Int) ||| BitVec.ofInt 64 ((x*2^(8*i):Nat):Int)).toNat=v+2^(8*i)*x:=by
  rw[BitVec.toNat_or,hm v (by omega),hm _ (by omega),←Nat.shiftLeft_eq,Nat.or_comm,←Nat.shiftLeft_add_eq_or_of_lt hv,Nat.add_comm,Nat.shiftLeft_eq,Nat.mul_comm]
 rw[ho,Nat.mul_comm]
 generalize hn:v+x*2^(8*i)=n
 have hn64:n<2^64:=by omega
 simp[IntKind.wrap,IntKind.bits,IntKind.signed]
 try omega
abbrev cCg:CallT:=Qe 117 (Z6 Cx) Q9
theorem IB[Syms]:cCg.ok Try.prog:=Qc Il Qb
def gtS(bs:List UInt8)(i v:Nat)(B:Option Blk):St:=⟨[(6,.int .u64 v),(15,vB bs),(16,.int .i64 bs.length),(17,.int .i64 i)],[(0,B)],1⟩
theorem O8[Syms]{Post:AVal→Heap→Nat→Prop}(b:List UInt8)(n:Nat)(hl:b.length≤1000000)(hn:n≤b.length)(hn8:n≤8)(hP:Post (.int .u64 (leV (b.take n):Nat)) [(0,rdB ⟨b.drop n,0⟩)] 1):
 fnT Q9 cCg (QN fns) (Qz tys) (QV plt) 100 112 [.ptr 0 0 0,.int .i64 n] [(0,rdB ⟨b,0⟩)] 1 Post:=by
 repeat' first|refine And.intro ?_ ?_|(intro h;try first|exact dz|replace h:=cv)
 all_goals try exact cz
 refine⟨[0],[.ptr 0 0 0,.int .i64 n],[(0,rdB ⟨b,0⟩)],rfl,⟨.refl _,.refl _,trivial⟩,⟨⟨by decide,_,rfl,.refl _⟩,trivial⟩,b,n,rfl,rfl,rfl,⟨hl,by omega⟩,.inl ⟨hn,?_⟩⟩
 have hbl:(b.take n).length≤8:=by rw[List.length_take];omega
 have hbl2:(b.drop n).length≤1000000:=by rw[List.length_drop];omega
 generalize b.take n=bs at *
 generalize b.drop n=b2 at *
 refine⟨fun m s=>∃i:Nat,(i≤bs.length∧m=bs.length-i)∧s=gtS bs i (leV (bs.take i)) (rdB ⟨b2,0⟩),⟨_,gtS bs 0 (leV (bs.take 0)) (rdB ⟨b2,0⟩),Q0 [0] (by first|rfl|kernel_rfl) ⟨.refl _,.refl _,.refl _,.refl _,trivial⟩ ⟨⟨by decide,_,rfl,.refl _⟩,trivial⟩,0,⟨by omega,rfl⟩,rfl⟩,?_⟩
 rintro m s ⟨i,⟨hi,rfl⟩,rfl⟩
 by_cases h1:i<bs.length
 · repeat' first|refine And.intro ?_ ?_|(intro h;try first|exact dz|replace h:=cv)
   all_goals try exact cz
   refine⟨_,gtS bs (i+1) (leV (bs.take (i+1))) (rdB ⟨b2,0⟩),Q0 [0] (by first|rfl|kernel_rfl) ⟨Qg ?_,.refl _,.refl _,Qg (by omega),trivial⟩ ⟨⟨by decide,_,rfl,.refl _⟩,trivial⟩,⟨i+1,⟨by omega,rfl⟩,rfl⟩,by omega⟩
   rw[HR h1]
   exact OG (leV (bs.take i)) (bs.getD i 0).toNat i (by have:=F8 (bs.take i);rwa [List.length_take,Nat.min_eq_left (by omega)]at this) (by omega) (bs.getD i 0).toNat_lt
 ·obtain rfl:i=bs.length:=by omega
  rw[List.take_length]
  repeat' first|refine And.intro ?_ ?_|(intro h;try first|exact dz|replace h:=cv)
  all_goals try exact cz
  exact⟨⟨[(4,.int .u64 (leV bs:Nat))],[(0,rdB ⟨b2,0⟩)],1⟩,Q0 [0] (by first|rfl|kernel_rfl) ⟨.refl _,trivial⟩ ⟨⟨by decide,_,rfl,.refl _⟩,trivial⟩,_,rfl,hP⟩
theorem LR[Syms]{Post:AVal→Heap→Nat→Prop}(b:List UInt8)(n:Nat)(hl:b.length≤1000000)(hn:b.length<n)(hn8:n≤8)(hP:Post (.int .u64 (0:Nat)) [(0,rdN 8)] 1):
 fnT Q9 cCg (QN fns) (Qz tys) (QV plt) 100 112 [.ptr 0 0 0,.int .i64 n] [(0,rdB ⟨b,0⟩)] 1 Post:=by
 repeat' first|refine And.intro ?_ ?_|(intro h;try first|exact dz|replace h:=cv)
 all_goals try exact cz
 refine⟨[0],[.ptr 0 0 0,.int .i64 n],[(0,rdB ⟨b,0⟩)],rfl,⟨.refl _,.refl _,trivial⟩,⟨⟨by decide,_,rfl,.refl _⟩,trivial⟩,b,n,rfl,rfl,rfl,⟨hl,by omega⟩,.inr ⟨hn,?_⟩⟩
 refine X1 ?_
 repeat' first|refine And.intro ?_ ?_|(intro h;try first|exact dz|replace h:=cv)
 all_goals try exact cz
 exact⟨⟨[(4,.int .u64 (0:Nat))],[(0,rdN 8)],1⟩,Q0 [0] (by first|rfl|kernel_rfl) ⟨.refl _,trivial⟩ ⟨⟨by decide,_,rfl,.refl _⟩,trivial⟩,_,rfl,hP⟩
def BC:SpecT:=fun args H nx Post=>∃(b:List UInt8) (n:Nat),args=[.ptr 0 0 0,.int .i64 n]∧H=[(0,rdB ⟨b,0⟩)]∧nx=1∧(b.length≤1000000∧n≤8)∧(n≤b.length∧Post (.int .u64 (leV (b.take n):Nat)) [(0,rdB ⟨b.drop n,0⟩)] 1∨b.length<n∧Post (.int .u64 (0:Nat)) [(0,rdN 8)] 1)
theorem Cq[Syms]:BC.ok Try.prog 112:=by
 rintro args H nx Post ⟨b,n,rfl,rfl,rfl,⟨h1,h2⟩,⟨h3,h⟩|⟨h3,h⟩⟩
 ·exact QC Qp Qq Q5 IB QJ (O8 b n h1 h3 h2 h)
 ·exact QC Qp Qq Q5 IB QJ (LR b n h1 h3 h2 h)
end
section
set_option maxRecDepth 100000
set_option maxHeartbeats 4000000
def S_cloneB:SpecI:=fun args K=>∃l,args=[vB l]∧l.length≤1000000∧K (vB l)
theorem En[Syms]:Zi Try.prog 46 S_cloneB:=by
 rintro args K ⟨l,rfl,h,hk⟩
 exact⟨rfl,_,rfl,hk,fnI Qp Qq Q5 Qb QJ (Iq l h)⟩
abbrev cNw:CallT:=Qe 46 (Xw S_cloneB) Q9
theorem Og[Syms]:cNw.ok Try.prog:=Qm En Qb
theorem O4[Syms]{Post:AVal→Heap→Nat→Prop}(b:List UInt8)(hl:b.length≤1000000)(hP:Post (.ptr 0 0 0) [(0,rdB ⟨b,0⟩)] 1):
 fnT Q9 cNw (QN fns) (Qz tys) (QV plt) 100 111 [vB b] [] 0 Post:=by
 refine⟨b,rfl,hl,?_⟩
 repeat' first|refine And.intro ?_ ?_|(intro h;try first|exact dz|replace h:=cv)
 all_goals try exact cz
 exact⟨⟨[(2,.ptr 0 0 0)],[(0,rdB ⟨b,0⟩)],1⟩,Q0 [0] (by first|rfl|kernel_rfl) ⟨.refl _,trivial⟩ ⟨⟨by decide,_,rfl,.refl _⟩,trivial⟩,_,rfl,hP⟩
def BB:SpecT:=fun args H nx Post=>∃(b:List UInt8),args=[vB b]∧H=[]∧nx=0∧b.length≤1000000∧Post (.ptr 0 0 0) [(0,rdB ⟨b,0⟩)] 1
theorem Cp[Syms]:BB.ok Try.prog 111:=by
 rintro args H nx Post ⟨b,rfl,rfl,rfl,h1,h⟩
 exact QC Qp Qq Q5 Og QJ (O4 b h1 h)
abbrev cBy:CallT:=Qe 98 (Z6 JB) (Qe 111 (Z6 BB) (Qe 112 (Z6 BC) Q9))
theorem Ov[Syms]:cBy.ok Try.prog:=Qc JR (Qc Cp (Qc Cq Qb))
theorem Uz(n:Nat)(r:BR):(Z4 n r).1.length≤n:=by
 unfold Z4
 generalize(if r.b.length<n then QT r 8 else r)=q
 by_cases h:q.e≠0
 ·rw[if_pos h];simp
 ·rw[if_neg h];simp[List.length_take];omega
theorem Ln{t:List UInt8}(h:t.length≤1):leV t<256:=by
 have h1:=F8 t
 have h2:256^t.length≤256^1:=Nat.pow_le_pow_right (by decide) h
 omega
theorem Lc[Syms]{Post:AVal→Heap→Nat→Prop}(r:BR)(hl:r.b.length≤1000000)(hP:Post (.int .i64 ((Zc 1 r).1:Nat)) [(0,rdB (Zc 1 r).2)] 1):
 fnT Q9 cBy (QN fns) (Qz tys) (QV plt) 100 99 [.ptr 0 0 0] [(0,rdB r)] 1 Post:=by
 refine⟨[0],[.ptr 0 0 0,.int .i64 ((1:Nat):Int)],[(0,rdB r)],rfl,⟨.refl _,.refl _,trivial⟩,⟨⟨by decide,_,rfl,.refl _⟩,trivial⟩,r,1,rfl,rfl,rfl,⟨hl,by omega⟩,?_⟩
 unfold Zc at hP
 have hle:=Uz 1 r
 generalize Z4 1 r=q at *
 obtain⟨t,r2⟩:=q
 refine⟨[],[vB t],[],rfl,⟨.refl _,trivial⟩,trivial,t,rfl,rfl,rfl,by have:t.length≤1:=hle;omega,?_⟩
 have hle:t.length≤1:=hle
 have hP:Post (.int .i64 (leV t:Nat)) [(0,rdB r2)] 1:=hP
 have hv:=Ln hle
 have hwr:wr .i64 ((leV t:Nat):Int)=((leV t:Nat):Int):=IP (by omega)
 by_cases h0:t.length=0
 ·have ht:t=[]:=List.eq_nil_of_length_eq_zero h0
  subst ht
  refine⟨[2],[.ptr 0 0 0,.int .i64 ((1:Nat):Int)],[(0,rdB ⟨[],0⟩)],rfl,⟨.refl _,.refl _,trivial⟩,⟨⟨by decide,_,rfl,.refl _⟩,trivial⟩,[],1,rfl,rfl,rfl,⟨by simp,by omega⟩,.inr ⟨by simp,?_⟩⟩
  repeat' first|refine And.intro ?_ ?_|(intro h;try first|exact dz|replace h:=cv)
  all_goals try exact cz
  exact⟨⟨[(2,.int .i64 (leV []:Nat))],[(0,rdB r2)],1⟩,Q0 [0] (by first|rfl|kernel_rfl) ⟨.refl _,trivial⟩ ⟨⟨by decide,_,rfl,.refl _⟩,trivial⟩,_,rfl,hP⟩
 ·have ht:t.take 1=t:=List.take_of_length_le hle
  refine⟨[2],[.ptr 0 0 0,.int .i64 ((1:Nat):Int)],[(0,rdB ⟨t,0⟩)],rfl,⟨.refl _,.refl _,trivial⟩,⟨⟨by decide,_,rfl,.refl _⟩,trivial⟩,t,1,rfl,rfl,rfl,⟨by omega,by omega⟩,.inl ⟨by omega,?_⟩⟩
  rw[ht]
  repeat' first|refine And.intro ?_ ?_|(intro h;try first|exact dz|replace h:=cv)
  all_goals try exact cz
  exact⟨⟨[(2,.int .i64 (leV t:Nat))],[(0,rdB r2)],1⟩,Q0 [0] (by first|rfl|kernel_rfl) ⟨Qg hwr,trivial⟩ ⟨⟨by decide,_,rfl,.refl _⟩,trivial⟩,_,rfl,hP⟩
def Cu:SpecT:=fun args H nx Post=>∃(r:BR),args=[.ptr 0 0 0]∧H=[(0,rdB r)]∧nx=1∧r.b.length≤1000000∧Post (.int .i64 ((Zc 1 r).1:Nat)) [(0,rdB (Zc 1 r).2)] 1
theorem Hg[Syms]:Cu.ok Try.prog 99:=by
 rintro args H nx Post ⟨r,rfl,rfl,rfl,h1,h⟩
 exact QC Qp Qq Q5 Ov QJ (Lc r h1 h)
end
section
set_option maxRecDepth 100000
set_option maxHeartbeats 4000000
abbrev cFl:CallT:=Qe 99 (Z6 Cu) (Qe 80 (Z6 BA) (Qe 98 (Z6 JB) Q9))
theorem Ot[Syms]:cFl.ok Try.prog:=Qc Hg (Qc BV (Qc JR Qb))
theorem Fh(r:BR)(x:Int):(QT r x).b=r.b:=by unfold QT;split<;>rfl
theorem Xy(n:Nat)(r:BR):(Zc n r).2.b.length≤r.b.length:=WE n r
theorem QF(m:Nat)(w:Int)(r:BR):(QX m w r).2.b.length≤r.b.length:=by
 have h1:(Vo m w r).b=r.b:=by unfold Vo;split<;>simp[Fh]
 have h2:=WE (YU r.b 0 0).2.1 (Vo m w r)
 rw[h1]at h2
 unfold QX
 split
 ·exact Nat.le_refl _
 ·split<;>exact h2
theorem IC:∀(l:List UInt8),Wb (l.map XS)=true∧ZK (l.map XS)=l
 |[]=>⟨rfl,rfl⟩
 |b::l=>by
  obtain⟨h1,h2⟩:=IC l
  have hb:=b.toNat_lt
  refine⟨?_,?_⟩
  ·rw[List.map_cons,Wb,List.all_cons,Bool.and_eq_true]
   exact⟨by simp[KC,XS],h1⟩
  ·rw[List.map_cons,ZK,List.map_cons]
   have e:UInt8.ofNat (asI ((XS b).getD 0 .any)).toNat=b:=by
    show UInt8.ofNat ((b.toNat:Int)).toNat=b
    rw[Int.toNat_natCast,UInt8.ofNat_toNat]
   rw[e]
   exact congrArg (b:: ·) h2
theorem Fu(t:List UInt8):Wb (ZM t.length fun i=>XS (t.getD i 0))=true∧ZK (ZM t.length fun i=>XS (t.getD i 0))=t:=by
 rw[Yz XS 0 t];exact IC t
theorem Zf{m:Nat}{w:Int}(hw:w≠0)(r:BR):(QX m w r).1≤m:=by
 unfold QX
 by_cases h:r.e≠0
 ·rw[if_pos h];exact Nat.zero_le _
 ·rw[if_neg h]
  by_cases h2:(Z4 (YU r.b 0 0).2.1 (Vo m w r)).2.e≠0
  ·rw[if_pos h2];exact Nat.zero_le _
  ·rw[if_neg h2]
   show(YU r.b 0 0).1≤m
   apply Decidable.byContradiction
   intro hc
   apply h2
   have h0:r.e=0:=Decidable.not_not.1 h
   have hf:∀y,QT r y=⟨r.b,y⟩:=fun y=>if_pos h0
   have hq:(Vo m w r).e≠0:=by
    unfold Vo
    by_cases hx:(YU r.b 0 0).2.2=0
    ·rw[if_pos ⟨hx,by omega⟩,hf,hx]
     exact hw
    ·rw[if_neg (fun hh=>hx hh.1),hf]
     exact hx
   rw[XC hq]
   exact hq
theorem Ha[Syms]{Post:AVal→Heap→Nat→Prop}(r:BR)(hl:r.b.length≤1000000)(hP:Post (.agg (encF (Zz r).1)) [(0,rdB (Zz r).2),(1,some (.cells [encF (Zz r).1] false))] 2):
 fnT Q9 cFl (QN fns) (Qz tys) (QV plt) 100 81 [.ptr 0 0 0] [(0,rdB r)] 1 Post:=by
 unfold Zz at hP
 simp only at hP
 refine⟨[0],[.ptr 0 0 0],[(0,rdB r)],rfl,⟨.refl _,trivial⟩,⟨⟨by decide,_,rfl,.refl _⟩,trivial⟩,r,rfl,rfl,rfl,hl,?_⟩
 have l1:=Xy 1 r
 generalize Zc 1 r=q1 at *
 obtain⟨v1,r1⟩:=q1
 have l1:r1.b.length≤r.b.length:=l1
 refine⟨[0],[.ptr 0 0 0],[(0,rdB r1)],rfl,⟨.refl _,trivial⟩,⟨⟨by decide,_,rfl,.refl _⟩,trivial⟩,r1,rfl,rfl,rfl,by omega,?_⟩
 have l2:=Xy 1 r1
 have hP:Post (.agg (encF ⟨(Z4 (QX 12 5 (QX 40 14 (Zc 1 r1).2).2).1 (QX 12 5 (QX 40 14 (Zc 1 r1).2).2).2).1,v1,(Zc 1 r1).1,(QX 40 14 (Zc 1 r1).2).1⟩)) [(0,rdB (Z4 (QX 12 5 (QX 40 14 (Zc 1 r1).2).2).1 (QX 12 5 (QX 40 14 (Zc 1 r1).2).2).2).2),(1,some (.cells [encF ⟨(Z4 (QX 12 5 (QX 40 14 (Zc 1 r1).2).2).1 (QX 12 5 (QX 40 14 (Zc 1 r1).2).2).2).1,v1,(Zc 1 r1).1,(QX 40 14 (Zc 1 r1).2).1⟩] false))] 2:=hP
 generalize Zc 1 r1=q2 at *
 obtain⟨v2,r2⟩:=q2
 have l2:r2.b.length≤r1.b.length:=l2
 refine⟨[0],[.ptr 0 0 0,.int .i64 ((40:Nat):Int),.int .i64 14],[(0,rdB r2)],rfl,⟨.refl _,.refl _,.refl _,trivial⟩,⟨⟨by decide,_,rfl,.refl _⟩,trivial⟩,r2,40,14,rfl,rfl,rfl,⟨by omega,by omega,by decide⟩,?_⟩
 have l3:=QF 40 14 r2
 generalize QX 40 14 r2=q3 at *
 obtain⟨v3,r3⟩:=q3
 have l3:r3.b.length≤r2.b.length:=l3
 repeat' first|refine And.intro ?_ ?_|(intro h;try first|exact dz|replace h:=cv)
 all_goals try exact cz
 refine⟨[0],[.ptr 0 0 0,.int .i64 ((12:Nat):Int),.int .i64 5],[(0,rdB r3)],rfl,⟨.refl _,.refl _,.refl _,trivial⟩,⟨⟨by decide,_,rfl,.refl _⟩,trivial⟩,r3,12,5,rfl,rfl,rfl,⟨by omega,by omega,by decide⟩,?_⟩
 have l4:=QF 12 5 r3
 have l5:(QX 12 5 r3).1≤1000000000:=by have:=Zf (m:=12) (w:=5) (by decide) r3;omega
 generalize QX 12 5 r3=q4 at *
 obtain⟨v4,r4⟩:=q4
 have l4:r4.b.length≤r3.b.length:=l4
 refine⟨[0],[.ptr 0 0 0,.int .i64 (v4:Nat)],[(0,rdB r4)],rfl,⟨.refl _,.refl _,trivial⟩,⟨⟨by decide,_,rfl,.refl _⟩,trivial⟩,r4,v4,rfl,rfl,rfl,⟨by omega,l5⟩,?_⟩
 generalize Z4 v4 r4=q5 at *
 obtain⟨t,r5⟩:=q5
 repeat' first|refine And.intro ?_ ?_|(intro h;try first|exact dz|replace h:=cv)
 all_goals try exact cz
 ·exact(Fu t).1
 refine⟨⟨[(2,.ptr 1 0 0)],[(0,rdB r5),(1,some (.cells [encF ⟨t,v1,v2,v3⟩] false))],2⟩,Q0 [0,1] (by first|rfl|kernel_rfl) ⟨.refl _,trivial⟩ ⟨⟨by decide,_,rfl,.refl _⟩,⟨by decide,_,rfl,Q1 ?_ (fF [⟨t,v1,v2,v3⟩])⟩,trivial⟩,_,rfl,hP⟩
 show[[AVal.str (ZK (ZM t.length fun i=>XS (t.getD i 0))),.int .i64 v1,.int .i64 v2,.int .i64 v3]]=_
 rw[(Fu t).2];rfl
def DJ:SpecT:=fun args H nx Post=>∃(r:BR),args=[.ptr 0 0 0]∧H=[(0,rdB r)]∧nx=1∧r.b.length≤1000000∧Post (.agg (encF (Zz r).1)) [(0,rdB (Zz r).2),(1,some (.cells [encF (Zz r).1] false))] 2
theorem CL[Syms]:DJ.ok Try.prog 81:=by
 rintro args H nx Post ⟨r,rfl,rfl,rfl,h1,h⟩
 exact QC Qp Qq Q5 Ot QJ (Ha r h1 h)
end
section
set_option maxRecDepth 100000
set_option maxHeartbeats 4000000
theorem LA[Syms]{Post:AVal→Heap→Nat→Prop}(r:BR)(x:Int)(hP:Post (.tup []) [(0,rdB (QT r x))] 1):
 fnT Q9 Q9 (QN fns) (Qz tys) (QV plt) 100 27 [.ptr 0 0 0,.int .i64 x] [(0,rdB r)] 1 Post:=by
 obtain⟨b,e⟩:=r
 by_cases h0:e=0
 ·subst h0
  rw[QT,if_pos rfl]at hP
  repeat' first|refine And.intro ?_ ?_|(intro h;try first|exact dz|replace h:=cv)
  all_goals try exact cz
  exact⟨⟨[],[(0,rdB ⟨b,x⟩)],1⟩,Q0 [0] (by first|rfl|kernel_rfl) trivial ⟨⟨by decide,_,rfl,.refl _⟩,trivial⟩,_,rfl,hP⟩
 ·rw[QT,if_neg h0]at hP
  repeat' first|refine And.intro ?_ ?_|(intro h;try first|exact dz|replace h:=cv)
  all_goals try exact cz
  exact⟨⟨[],[(0,rdB ⟨b,e⟩)],1⟩,Q0 [0] (by first|rfl|kernel_rfl) trivial ⟨⟨by decide,_,rfl,.refl _⟩,trivial⟩,_,rfl,hP⟩
def VV:SpecT:=fun args H nx Post=>∃(r:BR) (x:Int),args=[.ptr 0 0 0,.int .i64 x]∧H=[(0,rdB r)]∧nx=1∧Post (.tup []) [(0,rdB (QT r x))] 1
theorem Vv[Syms]:VV.ok Try.prog 27:=by
 rintro args H nx Post ⟨r,x,rfl,rfl,rfl,h⟩
 exact QC Qp Qq Q5 Qb QJ (LA r x h)
abbrev OZ:CallT:=Qe 27 (Z6 VV) Q9
theorem N0[Syms]:OZ.ok Try.prog:=Qc Vv Qb
theorem Lu[Syms]{Post:AVal→Heap→Nat→Prop}(r:BR)(n:Nat)(hl:r.b.length≤1000000)(hn:n≤1000000000)(hP:Post (vB (Z4 n r).1) [(0,rdB (Z4 n r).2)] 1):
 fnT Q9 OZ (QN fns) (Qz tys) (QV plt) 100 54 [.ptr 0 0 0,.int .i64 n] [(0,rdB r)] 1 Post:=by
 obtain⟨b,e⟩:=r
 have hl:b.length≤1000000:=hl
 unfold Z4 at hP
 by_cases h1:b.length<n
 ·simp only[if_pos h1]at hP
  by_cases h0:e=0
  ·subst h0
   have hP:Post (vB []) [(0,rdB ⟨b,8⟩)] 1:=hP
   have hx1:QT ⟨b,0⟩ 8=⟨b,8⟩:=rfl
   have hx2:¬(8:Int)=0:=by decide
   have hx3:=BX b 8
   have hx4:=hx2
   repeat' first|refine And.intro ?_ ?_|(intro h;try first|exact dz|replace h:=cv)
   all_goals try exact cz
   refine⟨[0],[.ptr 0 0 0,.int .i64 8],[(0,rdB ⟨b,0⟩)],rfl,⟨.refl _,.refl _,trivial⟩,⟨⟨by decide,_,rfl,.refl _⟩,trivial⟩,⟨b,0⟩,8,rfl,rfl,rfl,?_⟩
   rw[hx1,show rdB ⟨b,8⟩=some (.cells [[vB b,.int .i64 8]] false) from rfl]
   repeat' first|refine And.intro ?_ ?_|(intro h;try first|exact dzi|replace h:=cvi)
   all_goals try exact cz
   exact⟨_,WG (k:=4) (by first|rfl|kernel_rfl) rfl rfl,_,rfl,hP⟩
  ·have hf:QT ⟨b,e⟩ 8=⟨b,e⟩:=if_neg h0
   rw[hf,if_pos h0]at hP
   repeat' first|refine And.intro ?_ ?_|(intro h;try first|exact dz|replace h:=cv)
   all_goals try exact cz
   refine⟨[0],[.ptr 0 0 0,.int .i64 8],[(0,rdB ⟨b,e⟩)],rfl,⟨.refl _,.refl _,trivial⟩,⟨⟨by decide,_,rfl,.refl _⟩,trivial⟩,⟨b,e⟩,8,rfl,rfl,rfl,?_⟩
   rw[hf,show rdB ⟨b,e⟩=some (.cells [[vB b,.int .i64 e]] false) from rfl]
   have hx1:=BX b e
   have hx2:=hx1
   have hx3:=hx1
   have hx4:=hx1
   repeat' first|refine And.intro ?_ ?_|(intro h;try first|exact dzi|replace h:=cvi)
   all_goals try exact cz
   exact⟨_,WG (k:=4) (by first|rfl|kernel_rfl) rfl rfl,_,rfl,hP⟩
 ·simp only[if_neg h1]at hP
  by_cases h0:e=0
  ·subst h0
   have hP:Post (vB (b.take n)) [(0,rdB ⟨b.drop n,0⟩)] 1:=hP
   repeat' first|refine And.intro ?_ ?_|(intro h;try first|exact dz|replace h:=cv)
   all_goals try exact cz
   exact⟨_,JX (k:=4) (b:=b) (n:=n) (by omega) (by first|rfl|kernel_rfl) rfl rfl,_,rfl,hP⟩
  ·rw[if_pos h0]at hP
   repeat' first|refine And.intro ?_ ?_|(intro h;try first|exact dz|replace h:=cv)
   all_goals try exact cz
   exact⟨_,WG (k:=4) (by first|rfl|kernel_rfl) rfl rfl,_,rfl,hP⟩
def Kj:SpecT:=fun args H nx Post=>∃(r:BR) (n:Nat),args=[.ptr 0 0 0,.int .i64 n]∧H=[(0,rdB r)]∧nx=1∧(r.b.length≤1000000∧n≤1000000000)∧Post (vB (Z4 n r).1) [(0,rdB (Z4 n r).2)] 1
theorem UP[Syms]:Kj.ok Try.prog 54:=by
 rintro args H nx Post ⟨r,n,rfl,rfl,rfl,⟨h1,h2⟩,h⟩
 exact QC Qp Qq Q5 N0 QJ (Lu r n h1 h2 h)
abbrev P0:CallT:=Qe 79 (Xw S_get) (Qe 27 (Z6 VV) (Qe 54 (Z6 Kj) Q9))
theorem N1[Syms]:P0.ok Try.prog:=Qm HY (Qc Vv (Qc UP Qb))
theorem NV[Syms]{Post:AVal→Heap→Nat→Prop}(r:BR)(most:Nat)(wrong:Int)(hl:r.b.length≤1000000)(hm:most≤2000000)(hw:wrong≠0)(hP:Post (.int .i64 ((QX most wrong r).1:Nat)) [(0,rdB (QX most wrong r).2)] 1):
 fnT Q9 P0 (QN fns) (Qz tys) (QV plt) 100 55 [.ptr 0 0 0,.int .i64 most,.int .i64 wrong] [(0,rdB r)] 1 Post:=by
 obtain⟨b,e⟩:=r
 have hl:b.length≤1000000:=hl
 unfold QX at hP
 by_cases h0:e=0
 ·subst h0
  have hk:=Gn b 0 0
  rw[if_neg (by simp)]at hP
  unfold Vo at hP
  simp only at hP
  repeat' first|refine And.intro ?_ ?_|(intro h;try first|exact dz|replace h:=cv)
  all_goals try exact cz
  refine⟨b,rfl,hl,?_⟩
  rcases hg:YU b 0 0 with⟨v,k,x⟩
  rw[hg]at hP hk
  simp only at hP hk
  repeat' first|refine And.intro ?_ ?_|(intro h;try first|exact dz|replace h:=cv)
  all_goals try exact cz
  refine⟨[0],[.ptr 0 0 0,.int .i64 x],[(0,rdB ⟨b,0⟩)],rfl,⟨.refl _,.refl _,trivial⟩,⟨⟨by decide,_,rfl,.refl _⟩,trivial⟩,⟨b,0⟩,x,rfl,rfl,rfl,?_⟩
  have hf:∀y:Int,QT ⟨b,0⟩ y=⟨b,y⟩:=fun _=>rfl
  have hq:∀y:Int,rdB ⟨b,y⟩=some (.cells [[vB b,.int .i64 y]] false):=fun _=>rfl
  have hx1:=fun ρ=>Yb ρ b
  have hx2:=CA (n:=most) (by omega)
  by_cases h2:x=0∧most<v
  ·obtain⟨hx0,h2'⟩:=h2
   subst hx0
   rw[hf,if_pos (show(0:Int)=0∧most<v from⟨rfl,h2'⟩),hf,XC (show(BR.mk b wrong).e≠0 from hw),if_pos (show(([]:List UInt8),BR.mk b wrong).2.e≠0 from hw)]at hP
   rw[hf,hq]
   have hx3:=hw
   have hx4:=hw
   repeat' first|refine And.intro ?_ ?_|(intro h;try first|exact dzi|replace h:=cvi)
   all_goals try exact cz
   refine⟨[0],[.ptr 0 0 0,.int .i64 wrong],[(0,rdB ⟨b,0⟩)],rfl,⟨.refl _,.refl _,trivial⟩,⟨⟨by decide,_,rfl,.refl _⟩,trivial⟩,⟨b,0⟩,wrong,rfl,rfl,rfl,?_⟩
   rw[hf,hq]
   repeat' first|refine And.intro ?_ ?_|(intro h;try first|exact dzi|replace h:=cvi)
   all_goals try exact cz
   refine⟨[0],[.ptr 0 0 0,.int .i64 k],[(0,rdB ⟨b,wrong⟩)],rfl,⟨.refl _,.refl _,trivial⟩,⟨⟨by decide,_,rfl,.refl _⟩,trivial⟩,⟨b,wrong⟩,k,rfl,rfl,rfl,⟨hl,by omega⟩,?_⟩
   rw[XC (show(BR.mk b wrong).e≠0 from hw),hq]
   repeat' first|refine And.intro ?_ ?_|(intro h;try first|exact dzi|replace h:=cvi)
   all_goals try exact cz
   exact⟨⟨[(6,.int .i64 0)],[(0,rdB ⟨b,wrong⟩)],1⟩,Q0 [0] (by first|rfl|kernel_rfl) ⟨.refl _,trivial⟩ ⟨⟨by decide,_,rfl,.refl _⟩,trivial⟩,_,rfl,hP⟩
  ·rw[hf,if_neg h2]at hP
   rw[hf,hq]
   by_cases h3:x=0
   ·subst h3
    have h4:v≤most:=by omega
    have hx4:=IP (n:=v) (by omega)
    have hx3:=hx4
    repeat' first|refine And.intro ?_ ?_|(intro h;try first|exact dzi|replace h:=cvi)
    all_goals try exact cz
    refine⟨[0],[.ptr 0 0 0,.int .i64 k],[(0,rdB ⟨b,0⟩)],rfl,⟨.refl _,.refl _,trivial⟩,⟨⟨by decide,_,rfl,.refl _⟩,trivial⟩,⟨b,0⟩,k,rfl,rfl,rfl,⟨hl,by omega⟩,?_⟩
    rcases ht:Z4 k ⟨b,0⟩with⟨t,b',e'⟩
    rw[ht]at hP
    have hx3:=fun ρ=>Yb ρ b' e'
    rw[show rdB (t,BR.mk b' e').2=some (.cells [[vB b',.int .i64 e']] false) from rfl]
    by_cases h5:e'=0
    ·rw[if_neg (show ¬(t,BR.mk b' e').2.e≠0 from fun h=>h h5)]at hP
     repeat' first|refine And.intro ?_ ?_|(intro h;try first|exact dzi|replace h:=cvi)
     all_goals try exact cz
     refine⟨⟨[(6,.int .i64 (v:Nat))],[(0,rdB ⟨b',e'⟩)],1⟩,Q0 [0] (by first|rfl|kernel_rfl) ⟨Qg hx4,trivial⟩ ⟨⟨by decide,_,rfl,.refl _⟩,trivial⟩,_,rfl,hP⟩
    ·rw[if_pos (show(t,BR.mk b' e').2.e≠0 from h5)]at hP
     repeat' first|refine And.intro ?_ ?_|(intro h;try first|exact dzi|replace h:=cvi)
     all_goals try exact cz
     exact⟨⟨[(6,.int .i64 0)],[(0,rdB ⟨b',e'⟩)],1⟩,Q0 [0] (by first|rfl|kernel_rfl) ⟨.refl _,trivial⟩ ⟨⟨by decide,_,rfl,.refl _⟩,trivial⟩,_,rfl,hP⟩
   ·rw[XC (show(BR.mk b x).e≠0 from h3),if_pos (show(([]:List UInt8),BR.mk b x).2.e≠0 from h3)]at hP
    have hx3:=h3
    have hx4:=h3
    repeat' first|refine And.intro ?_ ?_|(intro h;try first|exact dzi|replace h:=cvi)
    all_goals try exact cz
    refine⟨[0],[.ptr 0 0 0,.int .i64 k],[(0,rdB ⟨b,x⟩)],rfl,⟨.refl _,.refl _,trivial⟩,⟨⟨by decide,_,rfl,.refl _⟩,trivial⟩,⟨b,x⟩,k,rfl,rfl,rfl,⟨hl,by omega⟩,?_⟩
    rw[XC (show(BR.mk b x).e≠0 from h3),hq]
    repeat' first|refine And.intro ?_ ?_|(intro h;try first|exact dzi|replace h:=cvi)
    all_goals try exact cz
    exact⟨⟨[(6,.int .i64 0)],[(0,rdB ⟨b,x⟩)],1⟩,Q0 [0] (by first|rfl|kernel_rfl) ⟨.refl _,trivial⟩ ⟨⟨by decide,_,rfl,.refl _⟩,trivial⟩,_,rfl,hP⟩
 ·rw[if_pos h0]at hP
  repeat' first|refine And.intro ?_ ?_|(intro h;try first|exact dz|replace h:=cv)
  all_goals try exact cz
  exact⟨⟨[(6,.int .i64 0)],[(0,rdB ⟨b,e⟩)],1⟩,Q0 [0] (by first|rfl|kernel_rfl) ⟨.refl _,trivial⟩ ⟨⟨by decide,_,rfl,.refl _⟩,trivial⟩,_,rfl,hP⟩
def GS:SpecT:=fun args H nx Post=>∃(r:BR) (most:Nat) (wrong:Int),args=[.ptr 0 0 0,.int .i64 most,.int .i64 wrong]∧H=[(0,rdB r)]∧nx=1∧(r.b.length≤1000000∧most≤2000000∧wrong≠0)∧Post (.int .i64 ((QX most wrong r).1:Nat)) [(0,rdB (QX most wrong r).2)] 1
theorem Jv[Syms]:GS.ok Try.prog 55:=by
 rintro args H nx Post ⟨r,most,wrong,rfl,rfl,rfl,⟨h1,h2,h3⟩,h⟩
 exact QC Qp Qq Q5 N1 QJ (NV r most wrong h1 h2 h3 h)
end
section
set_option maxRecDepth 100000
set_option maxHeartbeats 4000000
def prS(r:BR)(n i:Nat)(fs:List Fd):St:=⟨[(4,.ptr 0 0 0),(5,.int .i64 n),(6,.slice 1 0 fs.length 4 none),(7,.int .i64 i)],[(0,rdB r),(1,some (.cells (fs.map encF) false))],2⟩
def prN(r:BR)(n:Nat):St:=⟨[(4,.ptr 0 0 0),(5,.int .i64 n),(6,.nils),(7,.int .i64 (0:Nat))],[(0,rdB r)],1⟩
theorem Gw(r:BR):(Zz r).2.b.length≤r.b.length:=by
 unfold Zz
 simp only
 exact Nat.le_trans (WE _ _) (Nat.le_trans (QF _ _ _) (Nat.le_trans (QF _ _ _) (Nat.le_trans (Xy _ _) (Xy _ _))))
theorem UR(k:Nat)(r:BR)(s:List Fd)(h:r.e=0):ZB (k+1) r s=ZB k (Zz r).2 (s++[(Zz r).1]):=by
 rw[ZB,if_neg (fun x=>x h)]
theorem UQ(k:Nat)(r:BR)(s:List Fd)(h:r.e≠0):ZB k r s=(s,r):=by
 cases k with
 |zero=>rfl
 |succ k=>rw[ZB,if_pos h]
end
section
set_option maxRecDepth 100000
set_option maxHeartbeats 4000000
def nmS(s:List UInt8)(k:Nat):St:=⟨[(0,.str s),(14,.obj 0)],[(0,some (.iter s k))],1⟩
theorem LB{s:List UInt8}(h:s≠[]):eqb s []=false:=by
 cases s with
 |nil=>exact absurd rfl h
 |cons a l=>rfl
theorem LJ{s:List UInt8}{k:Nat}(hk:k<s.length)(ha:(s.getD k 0).toNat<128):Utf8.decode ⟨⟨s⟩⟩ k=((s.getD k 0).toNat,1):=by
 have e:s.getD k 0=s[k]:=by simp[hk]
 have:=decode_ascii ⟨⟨s⟩⟩ k hk (by rw[e]at ha;exact ha)
 rw[this,e];rfl
theorem Ik{s:List UInt8}{k:Nat}(hk:k<s.length)(ha:128≤(s.getD k 0).toNat):128≤(Utf8.decode ⟨⟨s⟩⟩ k).1∧1≤(Utf8.decode ⟨⟨s⟩⟩ k).2:=by
 have e:s.getD k 0=s[k]:=by simp[hk]
 exact decode_high ⟨⟨s⟩⟩ k hk (by rw[e]at ha;exact ha)
def F2(s:List UInt8)(k:Nat):Bool:=JM (s.getD k 0)&&(decide (0<k)||Yd (s.getD k 0))
theorem D5{s:List UInt8}(h0:s≠[])(hl:¬12<s.length):WJ s=true↔ ∀k,k<s.length→F2 s k=true:=by
 have hp:0<s.length:=List.length_pos_iff.2 h0
 have e0:s.headD 0=s.getD 0 0:=by cases s with|nil=>exact absurd rfl h0|cons a l=>rfl
 rw[WJ,decide_eq_true (show 1≤s.length by omega),decide_eq_true (show s.length≤12 by omega),Bool.true_and,Bool.true_and,Bool.and_eq_true,List.all_eq_true,e0]
 constructor
 ·rintro⟨h1,h2⟩ k hk
  have:=h2 (s.getD k 0) (by rw[List.getD_eq_getElem?_getD,List.getElem?_eq_getElem hk];exact List.getElem_mem hk)
  rw[F2,this,Bool.true_and,Bool.or_eq_true]
  by_cases hk0:0<k
  ·exact .inl (decide_eq_true hk0)
  ·obtain rfl:k=0:=by omega
   exact .inr h1
 ·intro h
  refine⟨?_,fun c hc=>?_⟩
  ·have:=h 0 hp
   rw[F2,Bool.and_eq_true,Bool.or_eq_true]at this
   rcases this.2 with h|h
   ·exact absurd (of_decide_eq_true h) (by omega)
   ·exact h
  ·obtain⟨k,hk,rfl⟩:=List.getElem_of_mem hc
   have:=h k hk
   rw[F2,Bool.and_eq_true]at this
   have e:s.getD k 0=s[k]:=by simp[hk]
   rw[e]at this
   exact this.1
theorem D2(s:List UInt8)(k:Nat):F2 s k=true↔(97≤(s.getD k 0).toNat∧(s.getD k 0).toNat≤122)∨(0<k∧((48≤(s.getD k 0).toNat∧(s.getD k 0).toNat≤57)∨(s.getD k 0).toNat=95)):=by
 simp only[F2,JM,Yd,Bool.and_eq_true,Bool.or_eq_true,decide_eq_true_eq]
 omega
theorem Hx{s:List UInt8}{k:Nat}(h0:s≠[])(hl:¬12<s.length)(hk:k<s.length)(h:¬((97≤(s.getD k 0).toNat∧(s.getD k 0).toNat≤122)∨(0<k∧((48≤(s.getD k 0).toNat∧(s.getD k 0).toNat≤57)∨(s.getD k 0).toNat=95)))):WJ s=false:=by
 refine Bool.eq_false_iff.2 fun hn=>h ?_
 exact(D2 s k).1 ((D5 h0 hl).1 hn k hk)
theorem NL[Syms](s:List UInt8)(hs:s.length≤1000):
 fnT Q9 Q9 (QN fns) (Qz tys) (QV plt) 100 113 [.str s] [] 0 (fun v H _=>v= .bool (WJ s)∧H=[]):=by
 by_cases h0:s=[]
 ·subst h0
  refine And.intro (fun _=>?_) (fun h=>absurd (show true=false from h) (by decide))
  refine And.intro (fun _=>?_) (fun h=>absurd (show true=false from h) (by decide))
  exact⟨_,Q4 [2] rfl,_,rfl,rfl,rfl⟩
 have hl0:0<s.length:=List.length_pos_iff.2 h0
 have hx1:=LB h0
 by_cases hl:12<s.length
 ·have hn:WJ s=false:=by rw[WJ,decide_eq_false (show ¬s.length≤12 by omega)];simp
  rw[hn]
  repeat' first|refine And.intro ?_ ?_|(intro h;try first|exact dzh|replace h:=cvh)
  all_goals try exact cz
  exact⟨_,Q4 [2] rfl,_,rfl,rfl,rfl⟩
 · repeat' first|refine And.intro ?_ ?_|(intro h;try first|exact dzh|replace h:=cvh)
   all_goals try exact cz
   refine⟨fun m st=>∃k:Nat,(k≤s.length∧m=s.length-k∧ ∀j,j<k→F2 s j=true)∧st=nmS s k,⟨_,nmS s 0,Q0 [0] rfl ⟨.refl _,.refl _,trivial⟩ ⟨⟨by decide,_,rfl,.refl _⟩,trivial⟩,0,⟨by omega,rfl,fun j h=>by omega⟩,rfl⟩,?_⟩
   rintro m st ⟨k,⟨hk,rfl,hj⟩,rfl⟩
   by_cases hin:k<s.length
   ·have hnext:F2 s k=true→ ∀j,j<k+1→F2 s j=true:=fun h j hlt=>by
     rcases Nat.lt_or_ge j k with h'|h'
     ·exact hj j h'
     ·obtain rfl:j=k:=by omega
      exact h
    have hok:=D2 s k
    have hno:=Hx (k:=k) h0 hl hin
    by_cases hb:(s.getD k 0).toNat<128
    ·have hd:=LJ hin hb
     generalize(s.getD k 0).toNat=c at *
     by_cases hc:(97≤c∧c≤122)∨(0<k∧((48≤c∧c≤57)∨c=95))
     ·have hnx:=hnext (hok.2 hc)
      have hx1:=congrArg Prod.fst hd
      have hx2:=congrArg Prod.snd hd
      simp only at hx1 hx2
      rcases hc with hc|⟨hc1,hc2|hc2⟩
      all_goals
       repeat' first|refine And.intro ?_ ?_|(intro h;try first|exact dz|replace h:=cv)
       all_goals try exact cz
       exact⟨_,nmS s (k+1),Q0 [0] rfl ⟨.refl _,.refl _,trivial⟩ ⟨⟨by decide,_,rfl,by rw[hx2];exact .refl _⟩,trivial⟩,⟨k+1,⟨by omega,rfl,hnx⟩,rfl⟩,by omega⟩
     ·have hnn:=hno hc
      have hx1:=congrArg Prod.fst hd
      have hx2:=congrArg Prod.snd hd
      simp only at hx1 hx2
      rw[hnn]
      repeat' first|refine And.intro ?_ ?_|(intro h;try first|exact dz|replace h:=cv)
      all_goals try exact cz
      all_goals exact⟨_,Q4 [2] rfl,_,rfl,rfl,rfl⟩
    ·have hd:=Ik hin (by omega)
     have hnn:=hno (by omega)
     rw[hnn]
     repeat' first|refine And.intro ?_ ?_|(intro h;try first|exact dz|replace h:=cv)
     all_goals try exact cz
     all_goals exact⟨_,Q4 [2] rfl,_,rfl,rfl,rfl⟩
   ·have hn:WJ s=true:=(D5 h0 hl).2 fun j hjl=>hj j (by omega)
    rw[hn]
    repeat' first|refine And.intro ?_ ?_|(intro h;try first|exact dzh|replace h:=cvh)
    all_goals try exact cz
    exact⟨_,Q4 [2] rfl,_,rfl,rfl,rfl⟩
end
end Go.Proofs.Ytajieadpaeggcaa
