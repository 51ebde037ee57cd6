/-
  Sums of bytes (crc),plain;and what the machine's operations on numbers of 32 bits are. Sums of bytes:the program's step and the document's sum,by plain functions. Calls that read bytes,wherever they lie,and answer a number:by a plain function of the bytes.
-/
import Derived.Test.YtekipcaifckffaaGreatSxOne
import Derived.Test.YtekipcaifckffaaGreatTab
set_option linter.unusedVariables false
set_option linter.unusedSimpArgs false
namespace Go.Proofs.YtekipcaifckffaaGreat
open Go Go.Av
def YN(c:Nat):Nat:=Nat.xor (Nat.div c 2) (Nat.mul 3988292384 (Nat.mod c 2))
def LE:Nat→Nat→Nat
 |0,c=>c
 |k+1,c=>LE k (YN c)
def MH(c x:Nat):Nat:=YN (YN (YN (YN (YN (YN (YN (YN (Nat.xor c x))))))))
def Me(c:Nat):List UInt8→Nat
 |[]=>c
 |x::l=>Me (MH c x.toNat) l
theorem FD{a b:Nat}(ha:a<2^32)(hb:b<2^32):a ^^^ b<2^32:=Nat.xor_lt_two_pow ha hb
theorem Dj(c:Nat):YN c=c/2 ^^^ 3988292384*(c%2):=rfl
theorem Ue{c:Nat}(h:c<2^32):YN c<2^32:=by
 rw[Dj]
 refine FD (by omega) ?_
 rcases Nat.mod_two_eq_zero_or_one c with e|e<;>rw[e]<;>decide
theorem LD{c:Nat}(h:c%2=1):YN c=c/2 ^^^ 3988292384:=by rw[Dj,h]
theorem HU{c:Nat}(h:c%2=0):YN c=c/2:=by rw[Dj,h,Nat.mul_zero,Nat.xor_zero]
theorem bvN{n:Nat}(h:n<2^32):(BitVec.ofInt 32 (n:Int)).toNat=n:=by simp;omega
theorem Ig{n:Nat}(h:n<2^32):IntKind.u32.wrap (n:Int)=n:=by
 simp[IntKind.wrap,IntKind.bits,IntKind.signed]
 try omega
theorem RC{n:Nat}(h:n<2^32):wr .u32 (n:Int)=(n:Int):=if_pos ⟨by show(0:Int)≤_;omega,by show _≤(4294967295:Int);omega⟩
theorem Q01{a b:Nat}(ha:a<2^32)(hb:b<2^32):IntKind.u32.wrap (((BitVec.ofInt 32 (a:Int) ^^^ BitVec.ofInt 32 (b:Int)).toNat:Nat):Int)=((Nat.xor a b:Nat):Int):=by
 rw[BitVec.toNat_xor,bvN ha,bvN hb]
 exact Ig (FD ha hb)
theorem Hc{a:Nat}(ha:a<2^32):IntKind.u32.wrap (((BitVec.ofInt 32 (a:Int) &&& BitVec.ofInt 32 (1:Int)).toNat:Nat):Int)=((a%2:Nat):Int):=by
 rw[BitVec.toNat_and,bvN ha,show(BitVec.ofInt 32 (1:Int)).toNat=1 from rfl,Nat.and_one_is_mod]
 exact Ig (by omega)
theorem OH(a:Nat):(a:Int).fdiv (2^min (Int.toNat 1) 32)=((a/2:Nat):Int):=by
 show(a:Int).fdiv 2=_
 exact(Int.fdiv_eq_ediv_of_nonneg _ (by decide)).trans (Int.natCast_ediv _ _).symm
section
set_option maxRecDepth 100000
set_option maxHeartbeats 4000000
def VO(c:UInt8):List AVal:=[.int .u8 c.toNat]
theorem Fs{P:Prop}(h:P:=by first|((with_reducible refine PlanIs.mk ?_);kernel_rfl)|((with_reducible refine NoSel.mk ?_);kernel_rfl)|((with_reducible refine Apart.mk ?_);kernel_rfl)|((with_reducible first|show(_:Nat)≤_|show(_:Nat)<_);first|omega|exact Nat.le_of_ble_eq_true rfl)|((with_reducible first|show(_:Int)≤_|show(_:Int)<_);omega)|((with_reducible show _=_);exact rfl)):P:=h
theorem Q05{E:Int}{d:Nat}(hE:E=d)(hd:d<2^32)(h:IntKind.u32.wrap (BitVec.ofInt IntKind.u32.bits E &&& BitVec.ofInt IntKind.u32.bits 1).toNat≠0):IntKind.u32.wrap (BitVec.ofInt IntKind.u32.bits (E.fdiv (2^min (Int.toNat 1) IntKind.u32.bits)) ^^^ BitVec.ofInt IntKind.u32.bits 3988292384).toNat=(YN d:Nat):=by
 subst hE
 have h1:((d%2:Nat):Int)≠0:=fun e=>h ((Hc hd).trans e)
 rw[LD (by omega)]
 refine(congrArg (fun z=>IntKind.u32.wrap (BitVec.ofInt 32 z ^^^ BitVec.ofInt 32 3988292384).toNat) (OH d)).trans ?_
 exact Q01 (a:=d/2) (b:=3988292384) (by omega) (by decide)
theorem Np{E:Int}{d:Nat}(hE:E=d)(hd:d<2^32)(h:¬IntKind.u32.wrap (BitVec.ofInt IntKind.u32.bits E &&& BitVec.ofInt IntKind.u32.bits 1).toNat≠0):E.fdiv (2^min (Int.toNat 1) IntKind.u32.bits)=(YN d:Nat):=by
 subst hE
 have h1:((d%2:Nat):Int)=0:=(Hc hd).symm.trans (Decidable.not_not.1 h)
 rw[HU (by omega)]
 exact OH d
theorem RL{d:Nat}(hd:d<2^32)(h:IntKind.u32.wrap (BitVec.ofInt IntKind.u32.bits d &&& BitVec.ofInt IntKind.u32.bits 1).toNat=1):IntKind.u32.wrap (BitVec.ofInt IntKind.u32.bits ((d:Int).fdiv (2^min (Int.toNat 1) IntKind.u32.bits)) ^^^ BitVec.ofInt IntKind.u32.bits 3988292384).toNat=(YN d:Nat):=Q05 rfl hd (by rw[h];decide)
theorem RM{d:Nat}(hd:d<2^32)(h:¬IntKind.u32.wrap (BitVec.ofInt IntKind.u32.bits d &&& BitVec.ofInt IntKind.u32.bits 1).toNat=1):(d:Int).fdiv (2^min (Int.toNat 1) IntKind.u32.bits)=(YN d:Nat):=Np rfl hd (by
 have h1:¬((d%2:Nat):Int)=1:=fun e=>h ((Hc hd).trans e)
 refine Decidable.not_not.2 ((Hc hd).trans ?_)
 omega)
theorem RY{c d:Nat}(hc:c<2^32)(hg:c=d):IntKind.u32.wrap (BitVec.ofInt IntKind.u32.bits (if IntKind.u32.signed=true then -1 else IntKind.u32.max) ^^^ BitVec.ofInt IntKind.u32.bits c).toNat=(Nat.xor d 4294967295:Nat):=by
 subst hg
 refine(Q01 (a:=4294967295) (b:=c) (by decide) hc).trans ?_
 exact congrArg Nat.cast (Nat.xor_comm 4294967295 c)
theorem wr8{x:Nat}(hx:x<256):wr .u32 (x:Int)=x:=RC (by omega)
theorem x_8{E:Int}{c x:Nat}(hE:E=c)(hc:c<2^32)(hx:x<256):IntKind.u32.wrap (BitVec.ofInt IntKind.u32.bits E ^^^ BitVec.ofInt IntKind.u32.bits (wr IntKind.u32 x)).toNat=(Nat.xor c x:Nat):=by
 subst hE
 rw[wr8 hx]
 exact Q01 hc (by omega)
theorem WY{k:IntKind}{a b:Int}(h:a=b):WkV (.int k a) (.int k b):=h▸ .refl _
def N6(d k:Nat):St:=⟨[(0,.int .u32 d),(5,.int .i64 k)],[],0⟩
theorem Ss[Syms](c x:Nat)(hc:c<2^32)(hx:x<256):
 fnT Qi Qi (QK fns) (QH tys) (QW plt) 100 109 [.int .u32 c,.int .u8 x] [] 0 (fun v H _=>v= .int .u32 (MH c x:Nat)∧H=[]):=by
 have h0:=x_8 (E:=c) rfl hc hx
 have hd0:Nat.xor c x<2^32:=FD hc (by omega)
 refine .inr ⟨fun l m s=>l=0∧ ∃(k d:Nat),(k<8∧m=8-k∧d<2^32∧LE (8-k) d=MH c x)∧s=N6 d k,?_,?_⟩
 · repeat' first|refine And.intro ?_ ?_|(intro h;(try first|replace h:=of_decide_eq_true h|replace h:=of_decide_eq_false h))
   all_goals(try exact Fs)
   ·exact⟨_,N6 (YN (Nat.xor c x)) 1,Q1 [] rfl ⟨WY (Q05 h0 hd0 ‹_›),WY rfl,trivial⟩ trivial,rfl,1,_,⟨by decide,rfl,Ue hd0,rfl⟩,rfl⟩
   ·rename_i h;exact absurd (show(0:Int)+1<8 by decide) h
   ·exact⟨_,N6 (YN (Nat.xor c x)) 1,Q1 [] rfl ⟨WY (Np h0 hd0 ‹_›),WY rfl,trivial⟩ trivial,rfl,1,_,⟨by decide,rfl,Ue hd0,rfl⟩,rfl⟩
   ·rename_i h;exact absurd (show(0:Int)+1<8 by decide) h
 ·rintro l rest m s hf ⟨rfl,k,d,⟨hk,rfl,hd,hg⟩,rfl⟩
  cases hf
  have hg':LE (8-(k+1)) (YN d)=MH c x:=by
   rw[←hg,show 8-k=(8-(k+1))+1 by omega];rfl
  repeat' first|refine And.intro ?_ ?_|(intro h;(try first|replace h:=of_decide_eq_true h|replace h:=of_decide_eq_false h))
  all_goals(try exact Fs)
  ·exact⟨_,N6 (YN d) (k+1),Q1 [] rfl ⟨WY (Q05 rfl hd ‹_›),WY rfl,trivial⟩ trivial,⟨rfl,k+1,_,⟨by omega,rfl,Ue hd,hg'⟩,rfl⟩,by omega⟩
  ·obtain rfl:k=7:=by omega
   exact⟨_,.refl _ _ _,_,rfl,congrArg (AVal.int .u32) ((Q05 rfl hd ‹_›).trans (congrArg Nat.cast hg')),rfl⟩
  ·exact⟨_,N6 (YN d) (k+1),Q1 [] rfl ⟨WY (Np rfl hd ‹_›),WY rfl,trivial⟩ trivial,⟨rfl,k+1,_,⟨by omega,rfl,Ue hd,hg'⟩,rfl⟩,by omega⟩
  ·obtain rfl:k=7:=by omega
   exact⟨_,.refl _ _ _,_,rfl,congrArg (AVal.int .u32) ((Np rfl hd ‹_›).trans (congrArg Nat.cast hg')),rfl⟩
def smS(l:List UInt8)(i c:Nat):St:=⟨[(0,vT 1 VO 0 l),(3,.int .u32 c),(4,.int .i64 i)],[],0⟩
def smK(l:List UInt8)(i d k:Nat):St:=⟨[(0,vT 1 VO 0 l),(3,.int .u32 d),(4,.int .i64 i),(5,.int .i64 k)],[],0⟩
theorem RK[Syms](l:List UInt8)(hl:l.length≤9223372036854775807):
 fnT Qi Qi (QK fns) (QH tys) (QW plt) 100 32 [vT 1 VO 0 l] [] 0 (fun v H _=>v= .int .u32 (Nat.xor (Me 4294967295 l) 4294967295:Nat)∧H=[]):=by
 refine⟨fun m s=>∃i c:Nat,(i≤l.length∧m=l.length-i∧c<2^32∧Me c (l.drop i)=Me 4294967295 l)∧s=smS l i c,⟨_,smS l 0 4294967295,Q5 [0,3,4] rfl,0,4294967295,⟨by omega,rfl,by decide,rfl⟩,rfl⟩,?_⟩
 rintro m s ⟨i,c,⟨hi,rfl,hc,hg⟩,rfl⟩
 by_cases h1:i<l.length
 ·have hd:l.drop i=l.getD i 0::l.drop (i+1):=by
   rw[List.drop_eq_getElem_cons h1,List.getD_eq_getElem?_getD,List.getElem?_eq_getElem h1];rfl
  rw[hd]at hg
  have hx8:(l.getD i 0).toNat<256:=(l.getD i 0).toNat_lt
  repeat' first|refine And.intro ?_ ?_|(intro h;(try first|replace h:=of_decide_eq_true h|replace h:=of_decide_eq_false h))
  all_goals(try exact Fs)
  ·refine⟨fun m s=>∃k d:Nat,(k≤8∧m=8-k∧d<2^32∧Me (LE (8-k) d) (l.drop (i+1))=Me 4294967295 l)∧s=smK l i d k,⟨_,smK l i (Nat.xor c (l.getD i 0).toNat) 0,Q1 [] rfl ⟨.refl _,WY (x_8 rfl hc hx8),WY rfl,WY rfl,trivial⟩ trivial,0,_,⟨by omega,rfl,FD hc (by omega),hg⟩,rfl⟩,?_⟩
   rintro m s ⟨k,d,⟨hk,rfl,hd',hg'⟩,rfl⟩
   by_cases h8:k<8
   ·have hg2:Me (LE (8-(k+1)) (YN d)) (l.drop (i+1))=Me 4294967295 l:=by
     rw[←hg',show 8-k=(8-(k+1))+1 by omega];rfl
    repeat' first|refine And.intro ?_ ?_|(intro h;(try first|replace h:=of_decide_eq_true h|replace h:=of_decide_eq_false h))
    all_goals(try exact Fs)
    ·exact⟨_,smK l i (YN d) (k+1),Q1 [] rfl ⟨.refl _,WY (RL hd' ‹_›),WY rfl,WY rfl,trivial⟩ trivial,⟨k+1,_,⟨by omega,rfl,Ue hd',hg2⟩,rfl⟩,by omega⟩
    ·exact⟨_,smK l i (YN d) (k+1),Q1 [] rfl ⟨.refl _,WY (RM hd' ‹_›),WY rfl,WY rfl,trivial⟩ trivial,⟨k+1,_,⟨by omega,rfl,Ue hd',hg2⟩,rfl⟩,by omega⟩
    ·exfalso;omega
   ·obtain rfl:k=8:=by omega
    repeat' first|refine And.intro ?_ ?_|(intro h;(try first|replace h:=of_decide_eq_true h|replace h:=of_decide_eq_false h))
    all_goals(try exact Fs)
    ·exfalso;omega
    ·exfalso;omega
    ·exact⟨_,smS l (i+1) d,Q1 [] rfl ⟨.refl _,WY rfl,WY rfl,trivial⟩ trivial,⟨i+1,d,⟨by omega,rfl,hd',hg'⟩,rfl⟩,by omega⟩
  ·exfalso;omega
 ·obtain rfl:i=l.length:=by omega
  rw[List.drop_length]at hg
  repeat' first|refine And.intro ?_ ?_|(intro h;(try first|replace h:=of_decide_eq_true h|replace h:=of_decide_eq_false h))
  all_goals(try exact Fs)
  ·exfalso;omega
  ·exact⟨_,.refl _ _ _,_,rfl,congrArg (AVal.int .u32) (RY hc hg),rfl⟩
end
end Go.Proofs.YtekipcaifckffaaGreat
section
noncomputable section
namespace Go.Proofs.YtekipcaifckffaaGreat
open Go Go.Av
theorem NZ[Syms]{ι:Inj}{H:Heap}{w:World}{n off len:Nat}{rows:List (List AVal)}{l:List UInt8}{ro:Bool}{c:Option Nat}{v:Value}(hn:H.get n=some (.cells rows ro))(hol:off+len≤rows.length)(hr:(rows.drop off).take len=l.map VO)(hH:RelH ι H w)(hv:RelV ι (.slice n off len 1 c) v):RelV (Y2 w) (vT 1 VO 0 l) v:=by
 have hll:len=l.length:=by
  have:=congrArg List.length hr
  simp at this;omega
 obtain⟨L,hL,hB⟩:=hH.blk n _ hn
 cases hv with
 |slice _ _ _ _ _ L' a k h hs ha hl hp hm hc=>
  rw[hL]at h
  cases h
  refine .vt _ _ _ _ ?_
  rw[Qj]
  rcases ha with h0|h0
  ·have hl0:l=[]:=List.eq_nil_of_length_eq_zero (by omega)
   subst hl0
   subst hll
   exact .vz 1 _ _ hm (fun h=>nomatch h)
  ·subst h0
   obtain⟨cs,et,fz,c1,c2,c3,c4,c5⟩:=hB
   have hlen:(l.map VO).length=l.length:=List.length_map ..
   have hat:∀(k:Nat) (row:List AVal),(l.map VO)[k]?=some row→rows[off+k]?=some row∧ ∃kd z,row=[.int kd z]:=fun k row hr'=>by
    refine⟨?_,?_⟩
    ·rw[←hr,List.getElem?_take]at hr'
     split at hr'
     ·rw[List.getElem?_drop]at hr';exact hr'
     ·cases hr'
    ·obtain⟨a,_,rfl⟩:=List.mem_map.1 (List.mem_of_getElem? hr')
     exact⟨_,_,rfl⟩
   have key:RelV (Y2 w) (.vs 1 (l.map VO)) (.slice (some ⟨L.g,L.base+off*L.size,none⟩) (l.map VO).length k):=by
    refine .vs 1 (l.map VO) L.g (L.base+off*L.size) k cs (Bx c1) (by omega) hm (by rw[hs]at *;rw[hlen];have:=hp;omega) (fun j row hr=>?_) (fun k j v hk hj hv=>?_) (fun k j row x v hr hj hv=>?_)
    ·obtain⟨_,kd,z,rfl⟩:=hat j row hr
     rfl
    ·have hj0:j=0:=by omega
     subst hj0
     have hr:(l.map VO)[k]?=some ((l.map VO)[k]):=List.getElem?_eq_getElem hk
     obtain⟨hr',kd,z,hz⟩:=hat k _ hr
     rw[hz]at hr'
     obtain⟨v',q1,q2,q3⟩:=(c4 _ _ hr').2 0 (.int kd z) rfl
     rw[hs]at q1 hv
     have:L.base+off*1+k*1+0=L.base+(off+k)*1+0:=by omega
     rw[this,q1]at hv
     cases hv
     exact q2
    ·obtain⟨hr',kd,z,rfl⟩:=hat k row hr
     obtain⟨v',q1,q2,q3⟩:=(c4 _ _ hr').2 j x hj
     rw[hs]at q1 hv
     have:L.base+off*1+k*1+j=L.base+(off+k)*1+j:=by omega
     rw[this,q1]at hv
     cases hv
     have hx:x= .int kd z:=by
      cases j with
      |zero=>simp at hj;exact hj.symm
      |succ j=>simp at hj
     subst hx
     cases q3
     exact .int _ _
   rw[hlen]at key
   rw[hll]
   exact key
theorem DO[Syms]{P:Program}{f:FuncId}{args args':List AVal}{v:AVal}{H:Heap}{nx:Nat}(ha:∀(ι:Inj) (w:World) (vs:List Value),RelH ι H w→Qz ι args vs→Qz (Y2 w) args' vs)(hv:v.closed=true)(h:Xw P f args' [] 0 fun v' H' _=>v'=v∧H'=[]):X1 P f args H nx v H nx:=by
 intro ι w vs hvs hH hb
 refine(h.2 (Y2 w) w vs (ha ι w vs hH hvs) (B4 w) (Fw w)).mono ?_
 rintro e w' ⟨v',H',nx',r,κ,⟨rfl,rfl⟩,rfl,hr,hH',hst,hbd,_⟩
 have noOwn:∀g,¬Own (Y2 w) [] g:=fun g ⟨n,b,L,h1,_⟩=>by rw[Heap.get_nil]at h1;cases h1
 have same:∀g,g<w.heap.size→w'.heap[g]?=w.heap[g]?:=fun g hg=>hst.same g hg (noOwn g)
 refine⟨r,ι,rfl,hr.closed hv,⟨fun n b hn=>?_,hH.inj,fun g cs hg=>⟨?_,(hH.fz g cs hg).2⟩⟩,⟨⟨Inj.le_refl ι,hst.os,hst.tape,hst.output,hst.size,fun g hg _=>same g hg,fun g hg=>.inl hg,fun g cs hg=>.inl hg⟩,Nat.le_refl _,fun n L hn=>.inl hn⟩,fun n L hn=>⟨(hb n L hn).1,Nat.lt_of_lt_of_le (hb n L hn).2 hst.size⟩⟩
 ·obtain⟨L,h1,h2⟩:=hH.blk n b hn
  exact⟨L,h1,h2.keep (Inj.le_refl ι) (same _ (hb n L h1).2)⟩
 ·obtain⟨e,z,h⟩:=(hH.fz g cs hg).1
  exact⟨e,z,by rw[same g (Array.getElem?_eq_some_iff.mp h).1];exact h⟩
def Dl:List AVal→Option Nat
 |[.int .u8 (.ofNat n)]=>bif Nat.blt n 256 then some n else none
 |_=>none
theorem CT{r:List AVal}{n:Nat}(h:Dl r=some n):r=VO (UInt8.ofNat n)∧(UInt8.ofNat n).toNat=n:=by
 unfold Dl at h
 split at h
 ·rename_i m
  cases hb:Nat.blt m 256 with
  |false=>rw[hb]at h;cases h
  |true=>
   rw[hb]at h
   cases h
   have hn:n<256:=Nat.le_of_ble_eq_true hb
   have e:(UInt8.ofNat n).toNat=n:=by simp[Nat.mod_eq_of_lt hn]
   refine⟨?_,e⟩
   rw[VO,e];rfl
 ·cases h
def Gb:List (List AVal)→Nat→Option Nat
 |[],c=>some c
 |r::t,c=>match Dl r with
  |some n=>bif Nat.blt (MH c n) 4294967296 then Gb t (MH c n)else none
  |none=>none
theorem Md:∀(rows:List (List AVal)) (c d:Nat),Gb rows c=some d→ ∃l:List UInt8,rows=l.map VO∧Me c l=d
 |[],c,d,h=>by cases h;exact⟨[],rfl,rfl⟩
 |r::t,c,d,h=>by
  rw[Gb]at h
  split at h
  ·rename_i n hn
   obtain⟨h1,h2⟩:=CT hn
   cases hb:Nat.blt (MH c n) 4294967296 with
   |false=>rw[hb]at h;cases h
   |true=>
    rw[hb]at h
    obtain⟨l,rfl,hl⟩:=Md t _ d h
    refine⟨UInt8.ofNat n::l,by rw[h1];rfl,?_⟩
    show Me (MH c (UInt8.ofNat n).toNat) l=d
    rw[h2];exact hl
  ·cases h
def Dk(f0:FuncId):CallF:=fun f args H nx=>bif Nat.beq f f0 then
    match args with
    |[.slice n off len sz _]=>bif Nat.beq sz 1 then
      match H.get n with
      |some (.cells rows _)=>bif Nat.ble (off+len) rows.length&&Nat.ble rows.length 1000000 then
        match Gb ((rows.drop off).take len) 4294967295 with
        |some d=>some (.int .u32 (Int.ofNat (Nat.xor d 4294967295)),H,nx)
        |none=>none
       else none
      |_=>none
     else none
    |_=>none
 else none
def Dm(f0:FuncId):CallF:=fun f args H nx=>bif Nat.beq f f0 then
    match args with
    |[.int .u32 (.ofNat c),.int .u8 (.ofNat x)]=>bif Nat.blt c 4294967296&&Nat.blt x 256 then some (.int .u32 (Int.ofNat (MH c x)),H,nx)else none
    |_=>none
 else none
theorem HV[Syms]{P:Program}{f0:FuncId}(hs:∀l:List UInt8,l.length≤1000000→Xw P f0 [vT 1 VO 0 l] [] 0 fun v' H' _=>v'= .int .u32 (Nat.xor (Me 4294967295 l) 4294967295:Nat)∧H'=[]):(Dk f0).ok P:=by
 intro f args H nx v H' nx' h
 unfold Dk at h
 cases hb:Nat.beq f f0 with
 |false=>rw[hb]at h;cases h
 |true=>
  rw[hb]at h
  obtain rfl:=Nat.eq_of_beq_eq_true hb
  simp only[cond_true]at h
  split at h
  rotate_left
  ·cases h
  rename_i n off len sz c
  cases hz:Nat.beq sz 1 with
  |false=>rw[hz]at h;cases h
  |true=>
   rw[hz]at h
   obtain rfl:=Nat.eq_of_beq_eq_true hz
   simp only[cond_true]at h
   split at h
   rotate_left
   ·cases h
   rename_i rows ro hg
   cases hk:(Nat.ble (off+len) rows.length&&Nat.ble rows.length 1000000)with
   |false=>rw[hk]at h;cases h
   |true=>
    rw[hk]at h
    simp only[cond_true]at h
    split at h
    rotate_left
    ·cases h
    rename_i d hd
    cases h
    obtain⟨l,hl,rfl⟩:=Md _ _ _ hd
    rw[Bool.and_eq_true]at hk
    have hll:l.length≤1000000:=by
     have h1:=congrArg List.length hl
     have h2:=Nat.le_of_ble_eq_true hk.2
     simp at h1;omega
    refine⟨(hs l hll).1,DO (args':=[vT 1 VO 0 l]) (fun ι w vs hH hv=>?_) rfl (hs l hll)⟩
    obtain⟨v0,vs0,rfl,hv0,hv⟩:=hv.uncons
    obtain rfl:=hv.unnil
    exact .cons (NZ hg (Nat.le_of_ble_eq_true hk.1) hl hH hv0) (.nil _)
theorem HW[Syms]{P:Program}{f0:FuncId}(hs:∀c x:Nat,c<2^32→x<256→Xw P f0 [.int .u32 c,.int .u8 x] [] 0 fun v' H' _=>v'= .int .u32 (MH c x:Nat)∧H'=[]):(Dm f0).ok P:=by
 intro f args H nx v H' nx' h
 unfold Dm at h
 cases hb:Nat.beq f f0 with
 |false=>rw[hb]at h;cases h
 |true=>
  rw[hb]at h
  obtain rfl:=Nat.eq_of_beq_eq_true hb
  simp only[cond_true]at h
  split at h
  rotate_left
  ·cases h
  rename_i c x
  cases hk:(Nat.blt c 4294967296&&Nat.blt x 256)with
  |false=>rw[hk]at h;cases h
  |true=>
   rw[hk]at h
   cases h
   rw[Bool.and_eq_true]at hk
   have h1:=hs c x (Nat.le_of_ble_eq_true hk.1) (Nat.le_of_ble_eq_true hk.2)
   refine⟨h1.1,DO (fun ι w vs hH hv=>?_) rfl h1⟩
   obtain⟨v0,vs0,rfl,hv0,hv⟩:=hv.uncons
   obtain⟨v1,vs1,rfl,hv1,hv⟩:=hv.uncons
   obtain rfl:=hv.unnil
   obtain rfl:=hv0.of_int
   obtain rfl:=hv1.of_int
   exact .cons (.int _ _) (.cons (.int _ _) (.nil _))
theorem Nn[Syms]:(Dk 32).ok Tryz.prog:=HV fun l hl=>Zw Qu Qs Qd Qh QJ (RK l (by omega))
theorem OC[Syms]:(Dm 109).ok Tryz.prog:=HW fun c x hc hx=>Zw Qu Qs Qd Qh QJ (Ss c x hc hx)
end Go.Proofs.YtekipcaifckffaaGreat
end
