/-
  Leaves:how far each field is repeated and defined. Plain. The document's walk over a shape goes as the program's. Plain. What is wrong with a shape. Plain. Bytes that are read one behind the other;a schema's bytes. Plain. The reader of a schema's bytes:what is wrong,and so many bytes. The program's. The reader of a schema's bytes:a number. The program's. The cursor:so many bytes,a number of so many bytes. The program's. The cursor:a number of so many bytes. The program's. The reader of a schema's bytes:one byte. The program's. The reader of a schema's bytes:a field. The program's. The footer's reader:what is wrong,so many bytes,a number. The program's. A schema's bytes,read:the loop's parts. The program's. 'name':is a text a name? The program's;a field's check. 'check':what is wrong with one field. 'Check':what is wrong with a shape. A schema's bytes,read:the loop. The program's. Numbers behind bytes. The program's. What a file says of itself,as plain data;its bytes,and how they are read. Plain.
-/
import Derived.Test.YtajieadpaeggcaaL1
import Derived.Laws.RangeAny
import Derived.Test.YtajieadpaeggcaaSxOne
set_option linter.unusedVariables false
set_option linter.unusedSimpArgs false
namespace Go.Proofs.Ytajieadpaeggcaa
open Go Go.Av
def lf0:Lf:=⟨0,0,0,0⟩
def Wp(L:List Lf)(p:Int):Lf:=if 0≤p then L.getD p.toNat default else lf0
def mkL(fs:List Fd)(ps:List Int)(L:List Lf)(i:Nat):Lf:=
 let f:=fs.getD i default
 let b:=Wp L (ps.getD i 0)
 ⟨i,if f.rep=2 then b.r+1 else b.r,if f.rep≠0 then b.d+1 else b.d,f.kind⟩
def Qq(fs:List Fd)(ps:List Int):Nat→List Lf
 |0=>[]
 |i+1=>Qq fs ps i++[mkL fs ps (Qq fs ps i) i]
def Br(l:Lf):Bool:=decide (l.kind≠0)
def Zk(fs:List Fd)(ps:List Int)(i:Nat):List Lf:=(Qq fs ps i).filter Br
def Qt(fs:List Fd):List Lf:=Zk fs (Qi fs) fs.length
theorem Zn(fs:List Fd)(ps:List Int):∀i,(Qq fs ps i).length=i
 |0=>rfl
 |i+1=>by simp[Qq,Zn fs ps i]
theorem W6(fs:List Fd)(ps:List Int){j:Nat}:∀{i:Nat},j<i→(Qq fs ps i).getD j default=mkL fs ps (Qq fs ps j) j
 |0,h=>by omega
 |i+1,h=>by
  by_cases hj:j<i
  ·rw[Qq,Xu (by rw[Zn];exact hj)];exact W6 fs ps hj
  ·obtain rfl:j=i:=by omega
   have:=Yu (l:=Qq fs ps j) (x:=mkL fs ps (Qq fs ps j) j) (d:=default)
   rw[Zn]at this
   exact this
theorem Ki(fs:List Fd)(ps:List Int){j i k:Nat}(h1:j<i)(h2:j<k):(Qq fs ps i).getD j default=(Qq fs ps k).getD j default:=by rw[W6 fs ps h1,W6 fs ps h2]
theorem Qc(fs:List Fd)(ps:List Int)(i:Nat):Zk fs ps (i+1)=if(fs.getD i default).kind≠0 then Zk fs ps i++[mkL fs ps (Qq fs ps i) i]else Zk fs ps i:=by
 unfold Zk
 rw[Qq,List.filter_append]
 by_cases h:(fs.getD i default).kind≠0
 ·have hl:Br (mkL fs ps (Qq fs ps i) i)=true:=decide_eq_true h
  rw[if_pos h,List.filter_cons,if_pos hl];rfl
 ·have hl:Br (mkL fs ps (Qq fs ps i) i)=false:=decide_eq_false h
  rw[if_neg h,List.filter_cons,if_neg (by rw[hl];decide)];simp
theorem Zf(fs:List Fd)(ps:List Int)(i:Nat):(Zk fs ps i).length≤i:=by
 have:=List.length_filter_le Br (Qq fs ps i)
 rw[Zn]at this
 exact this
def IOq(ps:List Int)(n:Nat):Prop:=∀j,j<n→ -1≤ps.getD j 0∧ps.getD j 0<j
theorem UY(fs:List Fd):IOq (Qi fs) fs.length:=fun j h=>EQ fs j h
theorem VB{fs:List Fd}{ps:List Int}{n:Nat}(ha:IOq ps n):∀i,i≤n→ ∀j,j<i→0≤((Qq fs ps i).getD j default).r∧((Qq fs ps i).getD j default).r≤((Qq fs ps i).getD j default).d∧((Qq fs ps i).getD j default).d≤j+1
 |0,_,j,h=>by omega
 |i+1,hi,j,h=>by
  by_cases hj:j<i
  ·rw[Ki fs ps h hj];exact VB ha i (by omega) j hj
  ·obtain rfl:j=i:=by omega
   rw[W6 fs ps h]
   have hp:=ha j (by omega)
   have hb:0≤(Wp (Qq fs ps j) (ps.getD j 0)).r∧(Wp (Qq fs ps j) (ps.getD j 0)).r≤(Wp (Qq fs ps j) (ps.getD j 0)).d∧(Wp (Qq fs ps j) (ps.getD j 0)).d≤j:=by
    unfold Wp
    split
    ·have:=VB (fs:=fs) ha j (by omega) (ps.getD j 0).toNat (by omega)
     omega
    ·simp[lf0]
   simp only[mkL]
   split<;>split<;>omega
def upR(fs:List Fd)(ps:List Int)(n:Nat)(k:Int):Int:=if 0≤k then((Qq fs ps n).getD k.toNat default).r else 0
def upD(fs:List Fd)(ps:List Int)(n:Nat)(k:Int):Int:=if 0≤k then((Qq fs ps n).getD k.toNat default).d else 0
theorem C5{fs:List Fd}{ps:List Int}{n k:Nat}(ha:IOq ps n)(hk:k<n):upR fs ps n k=upR fs ps n (ps.getD k 0)+(if(fs.getD k default).rep=2 then 1 else 0):=by
 have hp:=ha k hk
 unfold upR
 rw[if_pos (by omega),Int.toNat_natCast,W6 fs ps hk]
 simp only[mkL,Wp]
 by_cases h:0≤ps.getD k 0
 ·rw[if_pos h,if_pos h,Ki fs ps (i:=k) (k:=n) (by omega) (by omega)]
  split<;>omega
 ·rw[if_neg h,if_neg h]
  simp only[lf0];split<;>rfl
theorem C6{fs:List Fd}{ps:List Int}{n k:Nat}(ha:IOq ps n)(hk:k<n):upD fs ps n k=upD fs ps n (ps.getD k 0)+(if(fs.getD k default).rep≠0 then 1 else 0):=by
 have hp:=ha k hk
 unfold upD
 rw[if_pos (by omega),Int.toNat_natCast,W6 fs ps hk]
 simp only[mkL,Wp]
 by_cases h:0≤ps.getD k 0
 ·rw[if_pos h,if_pos h,Ki fs ps (i:=k) (k:=n) (by omega) (by omega)]
  split<;>omega
 ·rw[if_neg h,if_neg h]
  simp only[lf0];split<;>rfl
theorem CG{fs:List Fd}{ps:List Int}{i:Nat}:∀{n:Nat},i<n→(fs.getD i default).kind≠0→(Zk fs ps n).getD (Zk fs ps i).length default=mkL fs ps (Qq fs ps i) i∧(Zk fs ps i).length<(Zk fs ps n).length
 |0,h,_=>by omega
 |n+1,h,hk=>by
  by_cases hi:i<n
  ·obtain⟨h1,h2⟩:=CG (ps:=ps) hi hk
   rw[Qc]
   split
   ·refine⟨?_,by simp;omega⟩
    rw[Xu h2];exact h1
   ·exact⟨h1,h2⟩
  ·obtain rfl:i=n:=by omega
   rw[Qc,if_pos hk]
   exact⟨Yu,by simp⟩
structure LastI(fs:List Fd)(op:List Int):Prop where
 pos:0<fs.length
 last:(fs.getD (fs.length-1) default).kind=0→Xg op=((fs.length-1:Nat):Int)∧(fs.getD (fs.length-1) default).kids=0
def Xt:Stk→Stk
 |[]=>[]
 |(a,k)::t=>if k=0 then Xt t else(a,k)::t
def Wo(i:Nat)(f:Fd)(st:Stk):Stk:=if f.kind=0∧0<f.kids then((i:Int),f.kids)::st else st
def D6:List Fd→Nat→Stk→List (Int×Int)
 |[],_,_=>[]
 |f::fs,i,st=>(U5 (Xt st),((Xt st).length:Int))::D6 fs (i+1) (Wo i f (XN (Xt st)))
def KA(st:Stk):Prop:=∀p∈st,0≤p.2
theorem Do:∀{st:Stk},KA st→Xt st=Zt st
 |[],_=>rfl
 |(a,k)::t,h=>by
  have hk:0≤k:=h (a,k) (List.mem_cons_self ..)
  rw[Xt,Zt]
  by_cases h0:k=0
  ·rw[if_pos h0,if_pos (by omega)];exact Do fun p hp=>h p (List.mem_cons_of_mem _ hp)
  ·rw[if_neg h0,if_neg (by omega)]
theorem Cw{st:Stk}{p:Int×Int}(h:p∈Xt st):p∈st:=by
 induction st with
 |nil=>simp[Xt]at h
 |cons q t ih=>
  obtain⟨a,k⟩:=q
  rw[Xt]at h
  split at h
  ·exact List.mem_cons_of_mem _ (ih h)
  ·exact h
theorem Ld{st:Stk}{a k:Int}{t:Stk}(hn:KA st)(h:Xt st=(a,k)::t):0<k:=by
 induction st with
 |nil=>simp[Xt]at h
 |cons q s ih=>
  obtain⟨b,l⟩:=q
  rw[Xt]at h
  split at h
  ·exact ih (fun p hp=>hn p (List.mem_cons_of_mem _ hp)) h
  ·cases h
   have:=hn (a,k) (List.mem_cons_self ..)
   simp only at this;omega
theorem MT{st:Stk}(h:KA st)(i:Nat)(f:Fd):KA (Wo i f (XN (Xt st))):=by
 have hd:KA (XN (Xt st)):=by
  intro p hp
  cases hq:Xt st with
  |nil=>rw[hq]at hp;simp[XN]at hp
  |cons q t=>
   obtain⟨a,k⟩:=q
   rw[hq]at hp
   have hk:=Ld h hq
   simp only[XN,List.mem_cons]at hp
   rcases hp with rfl|hp
   ·simp only;omega
   ·exact h p (Cw (by rw[hq];exact List.mem_cons_of_mem _ hp))
 unfold Wo
 split
 ·rename_i hc
  intro p hp
  rcases List.mem_cons.1 hp with rfl|hp
  ·simp only;omega
  ·exact hd p hp
 ·exact hd
theorem Dj:∀(fs:List Fd) (i:Nat) (st rt:Stk),KA rt→Xt rt=Zt st→D6 fs i rt=Xa fs i st
 |[],_,_,_,_,_=>rfl
 |f::fs,i,st,rt,hn,he=>by
  rw[D6,Xa,he]
  congr 1
  refine Dj fs (i+1) _ _ ?_ ?_
  ·rw[←he];exact MT hn i f
  ·rw[Do (by rw[←he];exact MT hn i f)]
   unfold Wo Zp
   by_cases h0:f.kind=0
   ·by_cases h1:0<f.kids
    ·rw[if_pos ⟨h0,h1⟩,if_pos h0]
    ·rw[if_neg (fun h=>h1 h.2),if_pos h0]
     show _=Zt (((i:Int),f.kids)::XN (Zt st))
     rw[Zt,if_pos (by omega)]
   ·rw[if_neg (fun h=>h0 h.1),if_neg h0]
def X1(fs:List Fd):List Int:=(Xa fs 0 []).map (·.2)
theorem HO(fs:List Fd):D6 fs 0 []=Xa fs 0 []:=Dj fs 0 [] [] (fun p hp=>by cases hp) rfl
theorem K4(fs:List Fd):(X1 fs).length=fs.length:=by simp[X1,Yp]
def YE(c:UInt8):Bool:=decide (97≤c.toNat)&&decide (c.toNat≤122)
def Mu(c:UInt8):Bool:=YE c||(decide (48≤c.toNat)&&decide (c.toNat≤57))||decide (c.toNat=95)
def Yf(s:List UInt8):Bool:=decide (1≤s.length)&&decide (s.length≤12)&&YE (s.headD 0)&&s.all Mu
def BH(f:Fd)(i:Nat)(par dep:Int)(nm tw:Bool):Int:=
 if 0<i∧par<0 then 1 else if 8<dep then 11 else if nm=false∨tw=true then 7
 else if f.rep<0∨2<f.rep∨f.kind<0∨4<f.kind then 3 else if i=0∧(f.rep≠0∨f.kind≠0)then 3
 else if(f.kind=0∧f.kids<1)∨(f.kind≠0∧f.kids≠0)then 1 else 0
def YJ(fs:List Fd)(ps:List Int)(i:Nat)(dep:Int):Int:=
 BH (fs.getD i default) i (ps.getD i 0) dep (Yf (fs.getD i default).name) (WF fs ps i)
def Zc(fs:List Fd):Nat→Nat→Int
 |_,0=>0
 |i,n+1=>if YJ fs (Qi fs) i ((X1 fs).getD i 0)≠0 then YJ fs (Qi fs) i ((X1 fs).getD i 0)else Zc fs (i+1) n
def Ym:List Fd→Nat→Stk→Stk
 |[],_,st=>st
 |f::fs,i,st=>Ym fs (i+1) (Zp i f (XN (Zt st)))
def Ye(st:Stk):Bool:=st.any fun p=>decide (0<p.2)
def Z1(fs:List Fd):Int:=
 if fs.length<1∨40<fs.length then 4 else if Zc fs 0 fs.length≠0 then Zc fs 0 fs.length else if Ye (Ym fs 0 [])=true then 1 else 0
theorem Jm{fs:List Fd}{i:Nat}(h:i<fs.length):Zc fs i (fs.length-i)=if YJ fs (Qi fs) i ((X1 fs).getD i 0)≠0 then YJ fs (Qi fs) i ((X1 fs).getD i 0)else Zc fs (i+1) (fs.length-(i+1)):=by
 rw[show fs.length-i=(fs.length-(i+1))+1 by omega,Zc]
structure BR where
 b:List UInt8
 e:Int
def Qy(r:BR)(x:Int):BR:=if r.e=0 then⟨r.b,x⟩else r
def QF(n:Nat)(r:BR):List UInt8×BR:=
 if(if r.b.length<n then Qy r 8 else r).e≠0 then([],if r.b.length<n then Qy r 8 else r)else(r.b.take n,⟨r.b.drop n,r.e⟩)
def Z6(n:Nat)(r:BR):Nat×BR:=(leV (QF n r).1,(QF n r).2)
def X4(most:Nat)(wrong:Int)(r:BR):BR:=if(QW r.b 0 0).2.2=0∧most<(QW r.b 0 0).1 then Qy (Qy r (QW r.b 0 0).2.2) wrong else Qy r (QW r.b 0 0).2.2
def QD(most:Nat)(wrong:Int)(r:BR):Nat×BR:=
 if r.e≠0 then(0,r)else
 if(QF (QW r.b 0 0).2.1 (X4 most wrong r)).2.e≠0 then(0,(QF (QW r.b 0 0).2.1 (X4 most wrong r)).2)else((QW r.b 0 0).1,(QF (QW r.b 0 0).2.1 (X4 most wrong r)).2)
def Ce(f:Fd):List UInt8:=leB 1 f.rep.toNat++(leB 1 f.kind.toNat++(Y9 f.kids.toNat++(Y9 f.name.length++f.name)))
def sbL:List Fd→List UInt8
 |[]=>[]
 |f::l=>Ce f++sbL l
def sbF(s:List Fd):List UInt8:=Y9 s.length++sbL s
def fieldR(r:BR):Fd×BR:=
 let a:=Z6 1 r
 let b:=Z6 1 a.2
 let c:=QD 40 14 b.2
 let d:=QD 12 5 c.2
 let t:=QF d.1 d.2
 (⟨t.1,a.1,b.1,c.1⟩,t.2)
def Zi:Nat→BR→List Fd→List Fd×BR
 |0,r,s=>(s,r)
 |k+1,r,s=>if r.e≠0 then(s,r)else Zi k (fieldR r).2 (s++[(fieldR r).1])
def BC(p:List Fd×BR):BR:=if p.2.b≠[]then Qy p.2 9 else p.2
def ZD(b:List UInt8):List Fd×Int:=
 let n:=QD 40 4 ⟨b,0⟩
 let p:=Zi n.1 n.2 []
 let r:=if(BC p).e=0 then Qy (BC p) (Z1 p.1)else BC p
 if r.e≠0 then([],r.e)else(p.1,0)
structure SbOk(f:Fd):Prop where
 rep:0≤f.rep∧f.rep≤255
 kind:0≤f.kind∧f.kind≤255
 kids:0≤f.kids∧f.kids≤40
 name:f.name.length≤12
section
set_option maxRecDepth 100000
set_option maxHeartbeats 4000000
abbrev rdB(r:BR):Option Blk:=some (.cells [[vB r.b,.int .i64 r.e]] false)
theorem R0[Syms]{Post:AVal→Heap→Nat→Prop}(r:BR)(x:Int)(hP:Post (.tup []) [(0,rdB (Qy r x))] 1):
 fnT Q7 Q7 (Qx fns) (Qo tys) (Qz plt) 100 82 [.ptr 0 0 0,.int .i64 x] [(0,rdB r)] 1 Post:=by
 obtain⟨b,e⟩:=r
 by_cases h0:e=0
 ·subst h0
  rw[Qy,if_pos rfl]at hP
  repeat' first|refine And.intro ?_ ?_|(intro h;try first|exact dz|replace h:=cv)
  all_goals try exact cz
  exact⟨⟨[],[(0,rdB ⟨b,x⟩)],1⟩,Q0 [0] (by first|rfl|kernel_rfl) trivial ⟨⟨by decide,_,rfl,.refl _⟩,trivial⟩,_,rfl,hP⟩
 ·rw[Qy,if_neg h0]at hP
  repeat' first|refine And.intro ?_ ?_|(intro h;try first|exact dz|replace h:=cv)
  all_goals try exact cz
  exact⟨⟨[],[(0,rdB ⟨b,e⟩)],1⟩,Q0 [0] (by first|rfl|kernel_rfl) trivial ⟨⟨by decide,_,rfl,.refl _⟩,trivial⟩,_,rfl,hP⟩
def Mf:SpecT:=fun args H nx Post=>∃(r:BR) (x:Int),args=[.ptr 0 0 0,.int .i64 x]∧H=[(0,rdB r)]∧nx=1∧Post (.tup []) [(0,rdB (Qy r x))] 1
theorem MH[Syms]:Mf.ok Try.prog 82:=by
 rintro args H nx Post ⟨r,x,rfl,rfl,rfl,h⟩
 exact Qj Qf Qg Q3 Q9 Qw (R0 r x h)
abbrev cTk:CallT:=Q6 82 (QG Mf) Q7
theorem TK[Syms]:cTk.ok Try.prog:=Q4 MH Q9
theorem HV(b:List UInt8)(e:Int):asI (((List.map (AVal.renL (rho [0] 1)) [[vB b,AVal.int IntKind.i64 e]]).getD 0 []).getD 1 AVal.any)=e:=rfl
theorem LA(b:List UInt8)(n i:Nat):(b.drop n).getD i 0=b.getD (n+i) 0:=by
 rw[List.getD_eq_getElem?_getD,List.getD_eq_getElem?_getD,List.getElem?_drop]
theorem Pp(b:List UInt8)(n:Nat):AVal.vt 1 (b.length-n) (fun i=>encB (b.getD (n+i) 0))=vB (b.drop n):=by
 show AVal.vt 1 (b.length-n) _=AVal.vt 1 (b.drop n).length (fun i=>encB ((b.drop n).getD i 0))
 rw[List.length_drop]
 congr 1
 funext i
 rw[LA]
theorem Nf{b:List UInt8}{n:Nat}(h:n≤b.length):Zq n (fun i=>encB (b.getD (0+i) 0))=Zq (b.take n).length (fun i=>encB ((b.take n).getD i 0)):=by
 rw[Zx encB 0 (b.take n)]
 apply List.ext_getElem?
 intro i
 unfold Zq
 by_cases hi:i<n
 ·have:i<b.length:=by omega
  simp[hi,this,List.getElem?_take]
 ·simp[hi,List.getElem?_take]
theorem L7[Syms]{ι:Inj}{sz n m:Nat}{f g:Nat→List AVal}{v:Value}(h:Zq n f=Zq m g)(hv:RelV ι (.vt sz n f) v):RelV ι (.vt sz m g) v:=by
 cases hv with
 |vt _ _ _ _ hv=>exact .vt _ _ _ _ (h▸hv)
theorem ML[Syms]{N:Nat}{b:List UInt8}{n k nx:Nat}{e:Env}{H:Heap}(h:n≤b.length)(hn:QJ 1 nx [0]=true)(hk:e.get k= .vt 1 n (fun i=>encB (b.getD (0+i) 0)))
 (hb:H.get 0=some (.cells [[.vt 1 (b.length-n) (fun i=>encB (b.getD (n+i) 0)),.int .i64 0]] false)):Reb 1 N ⟨e,H,nx⟩ ⟨[(k,vB (b.take n))],[(0,rdB ⟨b.drop n,0⟩)],1⟩:=by
 rw[Pp]at hb
 refine(Xm (k:=k) (y:=vB (b.take n)) fun ι v hv=>?_).trans (Q0 [0] hn ⟨?_,trivial⟩ ⟨⟨Nat.zero_lt_one,_,hb,.refl _⟩,trivial⟩)
 ·rw[hk]at hv;exact L7 (Nf h) hv
 ·rw[Env.get_cons,Nat.beq_refl];exact .refl _
theorem Vy[Syms]{N:Nat}{r:BR}{k nx:Nat}{e:Env}{H:Heap}(hn:QJ 1 nx [0]=true)(hk:e.get k= .nils)(hb:H.get 0=rdB r):Reb 1 N ⟨e,H,nx⟩ ⟨[(k,vB [])],[(0,rdB r)],1⟩:=by
 refine(Xm (k:=k) (y:=vB []) fun ι v hv=>?_).trans (Q0 [0] hn ⟨?_,trivial⟩ ⟨⟨Nat.zero_lt_one,_,hb,.refl _⟩,trivial⟩)
 ·rw[hk]at hv;exact .vt _ _ _ _ (RelV.isZ (sz:=1) rfl hv)
 ·rw[Env.get_cons,Nat.beq_refl];exact .refl _
theorem PJ[Syms]{Post:AVal→Heap→Nat→Prop}(r:BR)(n:Nat)(hl:r.b.length≤1000000)(hn:n≤1000000000)(hP:Post (vB (QF n r).1) [(0,rdB (QF n r).2)] 1):
 fnT Q7 cTk (Qx fns) (Qo tys) (Qz plt) 100 98 [.ptr 0 0 0,.int .i64 n] [(0,rdB r)] 1 Post:=by
 obtain⟨b,e⟩:=r
 have hl:b.length≤1000000:=hl
 unfold QF at hP
 by_cases h1:b.length<n
 ·simp only[if_pos h1]at hP
  by_cases h0:e=0
  ·subst h0
   have hP:Post (vB []) [(0,rdB ⟨b,8⟩)] 1:=hP
   have hx1:Qy ⟨b,0⟩ 8=⟨b,8⟩:=rfl
   have hx2:¬(8:Int)=0:=by decide
   have hx3:=HV b 8
   have hx4:=hx2
   repeat' first|refine And.intro ?_ ?_|(intro h;try first|exact dz|replace h:=cv)
   all_goals try exact cz
   refine⟨[0],[.ptr 0 0 0,.int .i64 8],[(0,rdB ⟨b,0⟩)],rfl,⟨.refl _,.refl _,trivial⟩,⟨⟨by decide,_,rfl,.refl _⟩,trivial⟩,⟨b,0⟩,8,rfl,rfl,rfl,?_⟩
   rw[hx1,show rdB ⟨b,8⟩=some (.cells [[vB b,.int .i64 8]] false) from rfl]
   repeat' first|refine And.intro ?_ ?_|(intro h;try first|exact dzi|replace h:=cvi)
   all_goals try exact cz
   exact⟨_,Vy (k:=4) (by first|rfl|kernel_rfl) rfl rfl,_,rfl,hP⟩
  ·have hf:Qy ⟨b,e⟩ 8=⟨b,e⟩:=if_neg h0
   rw[hf,if_pos h0]at hP
   repeat' first|refine And.intro ?_ ?_|(intro h;try first|exact dz|replace h:=cv)
   all_goals try exact cz
   refine⟨[0],[.ptr 0 0 0,.int .i64 8],[(0,rdB ⟨b,e⟩)],rfl,⟨.refl _,.refl _,trivial⟩,⟨⟨by decide,_,rfl,.refl _⟩,trivial⟩,⟨b,e⟩,8,rfl,rfl,rfl,?_⟩
   rw[hf,show rdB ⟨b,e⟩=some (.cells [[vB b,.int .i64 e]] false) from rfl]
   have hx1:=HV b e
   have hx2:=hx1
   have hx3:=hx1
   have hx4:=hx1
   repeat' first|refine And.intro ?_ ?_|(intro h;try first|exact dzi|replace h:=cvi)
   all_goals try exact cz
   exact⟨_,Vy (k:=4) (by first|rfl|kernel_rfl) rfl rfl,_,rfl,hP⟩
 ·simp only[if_neg h1]at hP
  by_cases h0:e=0
  ·subst h0
   have hP:Post (vB (b.take n)) [(0,rdB ⟨b.drop n,0⟩)] 1:=hP
   repeat' first|refine And.intro ?_ ?_|(intro h;try first|exact dz|replace h:=cv)
   all_goals try exact cz
   exact⟨_,ML (k:=4) (b:=b) (n:=n) (by omega) (by first|rfl|kernel_rfl) rfl rfl,_,rfl,hP⟩
  ·rw[if_pos h0]at hP
   repeat' first|refine And.intro ?_ ?_|(intro h;try first|exact dz|replace h:=cv)
   all_goals try exact cz
   exact⟨_,Vy (k:=4) (by first|rfl|kernel_rfl) rfl rfl,_,rfl,hP⟩
def Me:SpecT:=fun args H nx Post=>∃(r:BR) (n:Nat),args=[.ptr 0 0 0,.int .i64 n]∧H=[(0,rdB r)]∧nx=1∧(r.b.length≤1000000∧n≤1000000000)∧Post (vB (QF n r).1) [(0,rdB (QF n r).2)] 1
theorem MD[Syms]:Me.ok Try.prog 98:=by
 rintro args H nx Post ⟨r,n,rfl,rfl,rfl,⟨h1,h2⟩,h⟩
 exact Qj Qf Qg Q3 TK Qw (PJ r n h1 h2 h)
end
section
set_option maxRecDepth 100000
set_option maxHeartbeats 4000000
theorem Fk:∀(l:List UInt8) (i v:Nat),(QW l i v).2.1≤i+l.length
 |[],i,v=>by simp[QW]
 |x::l,i,v=>by
  rw[QW]
  split
  ·simp
  ·split
   ·split
    ·simp
    ·simp<;>omega
   ·have:=Fk l (i+1) (v+x.toNat%128*2^(7*i))
    simp;omega
abbrev cNm:CallT:=Q6 79 (X0 S_get) (Q6 82 (QG Mf) (Q6 98 (QG Me) Q7))
theorem Q02[Syms]:cNm.ok Try.prog:=Qh Om (Q4 MH (Q4 MD Q9))
theorem Vu(n:Nat)(r:BR):(QF n r).2.b.length≤r.b.length:=by
 unfold QF Qy
 split<;>(try split)<;>simp<;>(try split)<;>simp
theorem YB(ρ:Nat→Nat)(b:List UInt8)(e:Int):asI (((List.map (AVal.renL ρ) [[vB b,AVal.int IntKind.i64 e]]).getD 0 []).getD 1 AVal.any)=e:=rfl
theorem Y1{n:Nat}{r:BR}(h:r.e≠0):QF n r=([],r):=by
 unfold QF Qy
 simp[h]
theorem Q19{n:Nat}(h:n≤2000000):wr .i64 (n:Int)=n:=wrI (by omega)
theorem SY[Syms]{Post:AVal→Heap→Nat→Prop}(r:BR)(most:Nat)(wrong:Int)(hl:r.b.length≤1000000)(hm:most≤1000000)(hw:wrong≠0)(hP:Post (.int .i64 ((QD most wrong r).1:Nat)) [(0,rdB (QD most wrong r).2)] 1):
 fnT Q7 cNm (Qx fns) (Qo tys) (Qz plt) 100 80 [.ptr 0 0 0,.int .i64 most,.int .i64 wrong] [(0,rdB r)] 1 Post:=by
 obtain⟨b,e⟩:=r
 have hl:b.length≤1000000:=hl
 unfold QD at hP
 by_cases h0:e=0
 ·subst h0
  have hk:=Fk b 0 0
  rw[if_neg (by simp)]at hP
  unfold X4 at hP
  simp only at hP
  repeat' first|refine And.intro ?_ ?_|(intro h;try first|exact dz|replace h:=cv)
  all_goals try exact cz
  refine⟨b,rfl,hl,?_⟩
  rcases hg:QW b 0 0 with⟨v,k,x⟩
  rw[hg]at hP hk
  simp only at hP hk
  repeat' first|refine And.intro ?_ ?_|(intro h;try first|exact dz|replace h:=cv)
  all_goals try exact cz
  refine⟨[0],[.ptr 0 0 0,.int .i64 x],[(0,rdB ⟨b,0⟩)],rfl,⟨.refl _,.refl _,trivial⟩,⟨⟨by decide,_,rfl,.refl _⟩,trivial⟩,⟨b,0⟩,x,rfl,rfl,rfl,?_⟩
  have hf:∀y:Int,Qy ⟨b,0⟩ y=⟨b,y⟩:=fun _=>rfl
  have hq:∀y:Int,rdB ⟨b,y⟩=some (.cells [[vB b,.int .i64 y]] false):=fun _=>rfl
  have hx1:=fun ρ=>YB ρ b
  have hx2:=KD (n:=most) (by omega)
  by_cases h2:x=0∧most<v
  ·obtain⟨hx0,h2'⟩:=h2
   subst hx0
   rw[hf,if_pos (show(0:Int)=0∧most<v from⟨rfl,h2'⟩),hf,Y1 (show(BR.mk b wrong).e≠0 from hw),if_pos (show(([]:List UInt8),BR.mk b wrong).2.e≠0 from hw)]at hP
   rw[hf,hq]
   have hx3:=hw
   have hx4:=hw
   repeat' first|refine And.intro ?_ ?_|(intro h;try first|exact dzi|replace h:=cvi)
   all_goals try exact cz
   refine⟨[0],[.ptr 0 0 0,.int .i64 wrong],[(0,rdB ⟨b,0⟩)],rfl,⟨.refl _,.refl _,trivial⟩,⟨⟨by decide,_,rfl,.refl _⟩,trivial⟩,⟨b,0⟩,wrong,rfl,rfl,rfl,?_⟩
   rw[hf,hq]
   repeat' first|refine And.intro ?_ ?_|(intro h;try first|exact dzi|replace h:=cvi)
   all_goals try exact cz
   refine⟨[0],[.ptr 0 0 0,.int .i64 k],[(0,rdB ⟨b,wrong⟩)],rfl,⟨.refl _,.refl _,trivial⟩,⟨⟨by decide,_,rfl,.refl _⟩,trivial⟩,⟨b,wrong⟩,k,rfl,rfl,rfl,⟨hl,by omega⟩,?_⟩
   rw[Y1 (show(BR.mk b wrong).e≠0 from hw),hq]
   repeat' first|refine And.intro ?_ ?_|(intro h;try first|exact dzi|replace h:=cvi)
   all_goals try exact cz
   exact⟨⟨[(6,.int .i64 0)],[(0,rdB ⟨b,wrong⟩)],1⟩,Q0 [0] (by first|rfl|kernel_rfl) ⟨.refl _,trivial⟩ ⟨⟨by decide,_,rfl,.refl _⟩,trivial⟩,_,rfl,hP⟩
  ·rw[hf,if_neg h2]at hP
   rw[hf,hq]
   by_cases h3:x=0
   ·subst h3
    have h4:v≤most:=by omega
    have hx4:=Q19 (n:=v) (by omega)
    have hx3:=hx4
    repeat' first|refine And.intro ?_ ?_|(intro h;try first|exact dzi|replace h:=cvi)
    all_goals try exact cz
    refine⟨[0],[.ptr 0 0 0,.int .i64 k],[(0,rdB ⟨b,0⟩)],rfl,⟨.refl _,.refl _,trivial⟩,⟨⟨by decide,_,rfl,.refl _⟩,trivial⟩,⟨b,0⟩,k,rfl,rfl,rfl,⟨hl,by omega⟩,?_⟩
    rcases ht:QF k ⟨b,0⟩with⟨t,b',e'⟩
    rw[ht]at hP
    have hx3:=fun ρ=>YB ρ b' e'
    rw[show rdB (t,BR.mk b' e').2=some (.cells [[vB b',.int .i64 e']] false) from rfl]
    by_cases h5:e'=0
    ·rw[if_neg (show ¬(t,BR.mk b' e').2.e≠0 from fun h=>h h5)]at hP
     repeat' first|refine And.intro ?_ ?_|(intro h;try first|exact dzi|replace h:=cvi)
     all_goals try exact cz
     refine⟨⟨[(6,.int .i64 (v:Nat))],[(0,rdB ⟨b',e'⟩)],1⟩,Q0 [0] (by first|rfl|kernel_rfl) ⟨Qm hx4,trivial⟩ ⟨⟨by decide,_,rfl,.refl _⟩,trivial⟩,_,rfl,hP⟩
    ·rw[if_pos (show(t,BR.mk b' e').2.e≠0 from h5)]at hP
     repeat' first|refine And.intro ?_ ?_|(intro h;try first|exact dzi|replace h:=cvi)
     all_goals try exact cz
     exact⟨⟨[(6,.int .i64 0)],[(0,rdB ⟨b',e'⟩)],1⟩,Q0 [0] (by first|rfl|kernel_rfl) ⟨.refl _,trivial⟩ ⟨⟨by decide,_,rfl,.refl _⟩,trivial⟩,_,rfl,hP⟩
   ·rw[Y1 (show(BR.mk b x).e≠0 from h3),if_pos (show(([]:List UInt8),BR.mk b x).2.e≠0 from h3)]at hP
    have hx3:=h3
    have hx4:=h3
    repeat' first|refine And.intro ?_ ?_|(intro h;try first|exact dzi|replace h:=cvi)
    all_goals try exact cz
    refine⟨[0],[.ptr 0 0 0,.int .i64 k],[(0,rdB ⟨b,x⟩)],rfl,⟨.refl _,.refl _,trivial⟩,⟨⟨by decide,_,rfl,.refl _⟩,trivial⟩,⟨b,x⟩,k,rfl,rfl,rfl,⟨hl,by omega⟩,?_⟩
    rw[Y1 (show(BR.mk b x).e≠0 from h3),hq]
    repeat' first|refine And.intro ?_ ?_|(intro h;try first|exact dzi|replace h:=cvi)
    all_goals try exact cz
    exact⟨⟨[(6,.int .i64 0)],[(0,rdB ⟨b,x⟩)],1⟩,Q0 [0] (by first|rfl|kernel_rfl) ⟨.refl _,trivial⟩ ⟨⟨by decide,_,rfl,.refl _⟩,trivial⟩,_,rfl,hP⟩
 ·rw[if_pos h0]at hP
  repeat' first|refine And.intro ?_ ?_|(intro h;try first|exact dz|replace h:=cv)
  all_goals try exact cz
  exact⟨⟨[(6,.int .i64 0)],[(0,rdB ⟨b,e⟩)],1⟩,Q0 [0] (by first|rfl|kernel_rfl) ⟨.refl _,trivial⟩ ⟨⟨by decide,_,rfl,.refl _⟩,trivial⟩,_,rfl,hP⟩
def Hs:SpecT:=fun args H nx Post=>∃(r:BR) (most:Nat) (wrong:Int),args=[.ptr 0 0 0,.int .i64 most,.int .i64 wrong]∧H=[(0,rdB r)]∧nx=1∧(r.b.length≤1000000∧most≤1000000∧wrong≠0)∧Post (.int .i64 ((QD most wrong r).1:Nat)) [(0,rdB (QD most wrong r).2)] 1
theorem HR[Syms]:Hs.ok Try.prog 80:=by
 rintro args H nx Post ⟨r,most,wrong,rfl,rfl,rfl,⟨h1,h2,h3⟩,h⟩
 exact Qj Qf Qg Q3 Q02 Qw (SY r most wrong h1 h2 h3 h)
end
section
set_option maxRecDepth 100000
set_option maxHeartbeats 4000000
abbrev rdN(k:Int):Option Blk:=some (.cells [[.nils,.int .i64 k]] false)
theorem RX[Syms]{Post:AVal→Heap→Nat→Prop}(b:List UInt8)(k:Int)(hk:k≠0)(hP:Post (.tup []) [(0,rdN k)] 1):
 fnT Q7 Q7 (Qx fns) (Qo tys) (Qz plt) 100 118 [.ptr 0 0 0,.int .i64 k] [(0,rdB ⟨b,0⟩)] 1 Post:=by
 have hx1:=hk
 have hx2:=hk
 have hx3:=hk
 have hx4:=hk
 repeat' first|refine And.intro ?_ ?_|(intro h;try first|exact dzi|replace h:=cvi)
 all_goals try exact cz
 ·exact⟨⟨[],[(0,rdN k)],1⟩,Q0 [0] (by first|rfl|kernel_rfl) trivial ⟨⟨by decide,_,rfl,.refl _⟩,trivial⟩,_,rfl,hP⟩
 ·exact absurd (show k=0 from h) hk
def Q18:SpecT:=fun args H nx Post=>∃(b:List UInt8) (k:Int),args=[.ptr 0 0 0,.int .i64 k]∧H=[(0,rdB ⟨b,0⟩)]∧nx=1∧k≠0∧Post (.tup []) [(0,rdN k)] 1
theorem OY[Syms]:Q18.ok Try.prog 118:=by
 rintro args H nx Post ⟨b,k,rfl,rfl,rfl,h1,h⟩
 exact Qj Qf Qg Q3 Q9 Qw (RX b k h1 h)
abbrev cCt:CallT:=Q6 118 (QG Q18) Q7
theorem P3[Syms]:cCt.ok Try.prog:=Q4 OY Q9
theorem mx0(n:Nat):(if(n:Int)<0 then 0 else(n:Int))=n:=if_neg (by omega)
theorem RJ[Syms]{Post:AVal→Heap→Nat→Prop}(b:List UInt8)(n:Nat)(hl:b.length≤1000000)(hn:n≤b.length)(hP:Post (vB (b.take n)) [(0,rdB ⟨b.drop n,0⟩)] 1):
 fnT Q7 cCt (Qx fns) (Qo tys) (Qz plt) 100 117 [.ptr 0 0 0,.int .i64 n] [(0,rdB ⟨b,0⟩)] 1 Post:=by
 have hmx:=mx0 n
 have hx1:=hmx
 have hx2:=hmx
 have hx3:=hmx
 have hx4:=hmx
 repeat' first|refine And.intro ?_ ?_|(intro h;try first|exact dzi|replace h:=cvi)
 all_goals try exact cz
 all_goals(try((with_reducible show(_:Nat)≤(_:Nat));show(if(n:Int)<0 then 0 else(n:Int)).toNat≤b.length;rw[hmx];omega))
 all_goals(try((with_reducible show(_:Int)≤(_:Int));show 0≤(if(n:Int)<0 then 0 else(n:Int));rw[hmx];omega))
 refine⟨_,ML (k:=4) (b:=b) (n:=n) hn (by first|rfl|kernel_rfl) ?_ ?_,_,rfl,hP⟩
 ·show AVal.vt 1 ((if(n:Int)<0 then 0 else(n:Int)).toNat-0) (fun i=>encB (b.getD (0+i) 0))=_
  rw[hmx];rfl
 ·show some (Blk.cells [[AVal.vt 1 (b.length-(if(n:Int)<0 then 0 else(n:Int)).toNat) (fun i=>encB (b.getD ((if(n:Int)<0 then 0 else(n:Int)).toNat+i) 0)),.int .i64 0]] false)=_
  rw[hmx];rfl
theorem ON[Syms]{Post:AVal→Heap→Nat→Prop}(b:List UInt8)(n:Nat)(hl:b.length≤1000000)(hn:b.length<n)(hn2:n≤1000000000)(hP:Post .nils [(0,rdN 8)] 1):
 fnT Q7 cCt (Qx fns) (Qo tys) (Qz plt) 100 117 [.ptr 0 0 0,.int .i64 n] [(0,rdB ⟨b,0⟩)] 1 Post:=by
 have hmx:=mx0 n
 have hx1:=hmx
 have hx2:=hmx
 have hx3:=hmx
 have hx4:=hmx
 repeat' first|refine And.intro ?_ ?_|(intro h;try first|exact dzi|replace h:=cvi)
 all_goals try exact cz
 refine⟨[0],[.ptr 0 0 0,.int .i64 8],[(0,rdB ⟨b,0⟩)],rfl,⟨.refl _,.refl _,trivial⟩,⟨⟨by decide,_,rfl,.refl _⟩,trivial⟩,b,8,rfl,rfl,rfl,by decide,?_⟩
 repeat' first|refine And.intro ?_ ?_|(intro h;try first|exact dzi|replace h:=cvi)
 all_goals try exact cz
 exact⟨⟨[(4,.nils)],[(0,rdN 8)],1⟩,Q0 [0] (by first|rfl|kernel_rfl) ⟨.refl _,trivial⟩ ⟨⟨by decide,_,rfl,.refl _⟩,trivial⟩,_,rfl,hP⟩
def IM:SpecT:=fun args H nx Post=>∃(b:List UInt8) (n:Nat),args=[.ptr 0 0 0,.int .i64 n]∧H=[(0,rdB ⟨b,0⟩)]∧nx=1∧(b.length≤1000000∧n≤1000000000)∧(n≤b.length∧Post (vB (b.take n)) [(0,rdB ⟨b.drop n,0⟩)] 1∨b.length<n∧Post .nils [(0,rdN 8)] 1)
theorem OM[Syms]:IM.ok Try.prog 117:=by
 rintro args H nx Post ⟨b,n,rfl,rfl,rfl,⟨h1,h2⟩,⟨h3,h⟩|⟨h3,h⟩⟩
 ·exact Qj Qf Qg Q3 P3 Qw (RJ b n h1 h3 h)
 ·exact Qj Qf Qg Q3 P3 Qw (ON b n h1 h3 h2 h)
end
section
set_option maxRecDepth 100000
set_option maxHeartbeats 4000000
theorem CM:∀(l:List UInt8) (x:UInt8),leV (l++[x])=leV l+256^l.length*x.toNat
 |[],x=>by simp[leV]
 |y::l,x=>by
  rw[List.cons_append,leV,leV,CM l x,List.length_cons,Nat.pow_succ,Nat.mul_add,Nat.add_assoc,←Nat.mul_assoc,Nat.mul_comm 256 (256^l.length)]
theorem JV:∀(l:List UInt8),leV l<256^l.length
 |[]=>by simp[leV]
 |y::l=>by
  have:=JV l
  have hy:=y.toNat_lt
  rw[leV,List.length_cons,Nat.pow_succ]
  omega
theorem CL{l:List UInt8}{i:Nat}(h:i<l.length):leV (l.take (i+1))=leV (l.take i)+256^i*(l.getD i 0).toNat:=by
 rw[List.take_add_one,List.getElem?_eq_getElem h]
 show leV (l.take i++[l[i]])=_
 rw[CM,List.length_take,Nat.min_eq_left (by omega),List.getD_eq_getElem?_getD,List.getElem?_eq_getElem h];rfl
theorem Sr(v x i:Nat)(hv:v<256^i)(hi:i<8)(hx:x<256):
 IntKind.u64.wrap (((BitVec.ofInt 64 (v:Int) ||| BitVec.ofInt 64 (wr .u64 (wr .u64 (x:Int)*2^min ((8*(i:Int)).toNat) 64))).toNat:Nat):Int)=((v+256^i*x:Nat):Int):=by
 have e:256^i=2^(8*i):=by rw[show(256:Nat)=2^8 from rfl,←Nat.pow_mul]
 rw[e]at hv ⊢
 have h1:(8*(i:Int)).toNat=8*i:=by omega
 have hp:0<2^(8*i):=Nat.pow_pos (by decide)
 have h3:2^(8*i)≤2^56:=Nat.pow_le_pow_right (by decide) (by omega)
 have h2:(x+1)*2^(8*i)≤256*2^56:=Nat.mul_le_mul (by omega) h3
 rw[Nat.add_mul,Nat.one_mul]at h2
 have hs:wr .u64 (wr .u64 (x:Int)*2^min ((8*(i:Int)).toNat) 64)=((x*2^(8*i):Nat):Int):=by
  rw[h1,Nat.min_eq_left (by omega),KD (n:=x) (by omega),←KD (n:=x*2^(8*i)) (by omega)]
  congr 1
 have hm:∀n:Nat,n<2^64→(BitVec.ofInt 64 (n:Int)).toNat=n:=fun n hn=>by simp;omega
 rw[hs]
 have ho:(BitVec.ofInt 64 (v:Int) ||| BitVec.ofInt 64 ((x*2^(8*i):Nat):Int)).toNat=v+2^(8*i)*x:=by
  rw[BitVec.toNat_or,hm v (by omega),hm _ (by omega),←Nat.shiftLeft_eq,Nat.or_comm,←Nat.shiftLeft_add_eq_or_of_lt hv,Nat.add_comm,Nat.shiftLeft_eq,Nat.mul_comm]
 rw[ho,Nat.mul_comm]
 generalize hn:v+x*2^(8*i)=n
 have hn64:n<2^64:=by omega
 simp[IntKind.wrap,IntKind.bits,IntKind.signed]
 try omega
abbrev cCg:CallT:=Q6 117 (QG IM) Q7
theorem P4[Syms]:cCg.ok Try.prog:=Q4 OM Q9
def gtS(bs:List UInt8)(i v:Nat)(B:Option Blk):St:=⟨[(6,.int .u64 v),(15,vB bs),(16,.int .i64 bs.length),(17,.int .i64 i)],[(0,B)],1⟩
theorem TH[Syms]{Post:AVal→Heap→Nat→Prop}(b:List UInt8)(n:Nat)(hl:b.length≤1000000)(hn:n≤b.length)(hn8:n≤8)(hP:Post (.int .u64 (leV (b.take n):Nat)) [(0,rdB ⟨b.drop n,0⟩)] 1):
 fnT Q7 cCg (Qx fns) (Qo tys) (Qz plt) 100 112 [.ptr 0 0 0,.int .i64 n] [(0,rdB ⟨b,0⟩)] 1 Post:=by
 repeat' first|refine And.intro ?_ ?_|(intro h;try first|exact dz|replace h:=cv)
 all_goals try exact cz
 refine⟨[0],[.ptr 0 0 0,.int .i64 n],[(0,rdB ⟨b,0⟩)],rfl,⟨.refl _,.refl _,trivial⟩,⟨⟨by decide,_,rfl,.refl _⟩,trivial⟩,b,n,rfl,rfl,rfl,⟨hl,by omega⟩,.inl ⟨hn,?_⟩⟩
 have hbl:(b.take n).length≤8:=by rw[List.length_take];omega
 have hbl2:(b.drop n).length≤1000000:=by rw[List.length_drop];omega
 generalize b.take n=bs at *
 generalize b.drop n=b2 at *
 refine⟨fun m s=>∃i:Nat,(i≤bs.length∧m=bs.length-i)∧s=gtS bs i (leV (bs.take i)) (rdB ⟨b2,0⟩),⟨_,gtS bs 0 (leV (bs.take 0)) (rdB ⟨b2,0⟩),Q0 [0] (by first|rfl|kernel_rfl) ⟨.refl _,.refl _,.refl _,.refl _,trivial⟩ ⟨⟨by decide,_,rfl,.refl _⟩,trivial⟩,0,⟨by omega,rfl⟩,rfl⟩,?_⟩
 rintro m s ⟨i,⟨hi,rfl⟩,rfl⟩
 by_cases h1:i<bs.length
 · repeat' first|refine And.intro ?_ ?_|(intro h;try first|exact dz|replace h:=cv)
   all_goals try exact cz
   refine⟨_,gtS bs (i+1) (leV (bs.take (i+1))) (rdB ⟨b2,0⟩),Q0 [0] (by first|rfl|kernel_rfl) ⟨Qm ?_,.refl _,.refl _,Qm (by omega),trivial⟩ ⟨⟨by decide,_,rfl,.refl _⟩,trivial⟩,⟨i+1,⟨by omega,rfl⟩,rfl⟩,by omega⟩
   rw[CL h1]
   exact Sr (leV (bs.take i)) (bs.getD i 0).toNat i (by have:=JV (bs.take i);rwa [List.length_take,Nat.min_eq_left (by omega)]at this) (by omega) (bs.getD i 0).toNat_lt
 ·obtain rfl:i=bs.length:=by omega
  rw[List.take_length]
  repeat' first|refine And.intro ?_ ?_|(intro h;try first|exact dz|replace h:=cv)
  all_goals try exact cz
  exact⟨⟨[(4,.int .u64 (leV bs:Nat))],[(0,rdB ⟨b2,0⟩)],1⟩,Q0 [0] (by first|rfl|kernel_rfl) ⟨.refl _,trivial⟩ ⟨⟨by decide,_,rfl,.refl _⟩,trivial⟩,_,rfl,hP⟩
theorem RW[Syms]{Post:AVal→Heap→Nat→Prop}(b:List UInt8)(n:Nat)(hl:b.length≤1000000)(hn:b.length<n)(hn8:n≤8)(hP:Post (.int .u64 (0:Nat)) [(0,rdN 8)] 1):
 fnT Q7 cCg (Qx fns) (Qo tys) (Qz plt) 100 112 [.ptr 0 0 0,.int .i64 n] [(0,rdB ⟨b,0⟩)] 1 Post:=by
 repeat' first|refine And.intro ?_ ?_|(intro h;try first|exact dz|replace h:=cv)
 all_goals try exact cz
 refine⟨[0],[.ptr 0 0 0,.int .i64 n],[(0,rdB ⟨b,0⟩)],rfl,⟨.refl _,.refl _,trivial⟩,⟨⟨by decide,_,rfl,.refl _⟩,trivial⟩,b,n,rfl,rfl,rfl,⟨hl,by omega⟩,.inr ⟨hn,?_⟩⟩
 refine Xo ?_
 repeat' first|refine And.intro ?_ ?_|(intro h;try first|exact dz|replace h:=cv)
 all_goals try exact cz
 exact⟨⟨[(4,.int .u64 (0:Nat))],[(0,rdN 8)],1⟩,Q0 [0] (by first|rfl|kernel_rfl) ⟨.refl _,trivial⟩ ⟨⟨by decide,_,rfl,.refl _⟩,trivial⟩,_,rfl,hP⟩
def Hw:SpecT:=fun args H nx Post=>∃(b:List UInt8) (n:Nat),args=[.ptr 0 0 0,.int .i64 n]∧H=[(0,rdB ⟨b,0⟩)]∧nx=1∧(b.length≤1000000∧n≤8)∧(n≤b.length∧Post (.int .u64 (leV (b.take n):Nat)) [(0,rdB ⟨b.drop n,0⟩)] 1∨b.length<n∧Post (.int .u64 (0:Nat)) [(0,rdN 8)] 1)
theorem Iw[Syms]:Hw.ok Try.prog 112:=by
 rintro args H nx Post ⟨b,n,rfl,rfl,rfl,⟨h1,h2⟩,⟨h3,h⟩|⟨h3,h⟩⟩
 ·exact Qj Qf Qg Q3 P4 Qw (TH b n h1 h3 h2 h)
 ·exact Qj Qf Qg Q3 P4 Qw (RW b n h1 h3 h2 h)
end
section
set_option maxRecDepth 100000
set_option maxHeartbeats 4000000
def S_cloneB:SpecI:=fun args K=>∃l,args=[vB l]∧l.length≤1000000∧K (vB l)
theorem LP[Syms]:Zs Try.prog 46 S_cloneB:=by
 rintro args K ⟨l,rfl,h,hk⟩
 exact⟨rfl,_,rfl,hk,fnI Qf Qg Q3 Q9 Qw (OR l h)⟩
abbrev cNw:CallT:=Q6 46 (X0 S_cloneB) Q7
theorem Q01[Syms]:cNw.ok Try.prog:=Qh LP Q9
theorem TC[Syms]{Post:AVal→Heap→Nat→Prop}(b:List UInt8)(hl:b.length≤1000000)(hP:Post (.ptr 0 0 0) [(0,rdB ⟨b,0⟩)] 1):
 fnT Q7 cNw (Qx fns) (Qo tys) (Qz plt) 100 111 [vB b] [] 0 Post:=by
 refine⟨b,rfl,hl,?_⟩
 repeat' first|refine And.intro ?_ ?_|(intro h;try first|exact dz|replace h:=cv)
 all_goals try exact cz
 exact⟨⟨[(2,.ptr 0 0 0)],[(0,rdB ⟨b,0⟩)],1⟩,Q0 [0] (by first|rfl|kernel_rfl) ⟨.refl _,trivial⟩ ⟨⟨by decide,_,rfl,.refl _⟩,trivial⟩,_,rfl,hP⟩
def Hu:SpecT:=fun args H nx Post=>∃(b:List UInt8),args=[vB b]∧H=[]∧nx=0∧b.length≤1000000∧Post (.ptr 0 0 0) [(0,rdB ⟨b,0⟩)] 1
theorem Iu[Syms]:Hu.ok Try.prog 111:=by
 rintro args H nx Post ⟨b,rfl,rfl,rfl,h1,h⟩
 exact Qj Qf Qg Q3 Q01 Qw (TC b h1 h)
abbrev cBy:CallT:=Q6 98 (QG Me) (Q6 111 (QG Hu) (Q6 112 (QG Hw) Q7))
theorem Q0c[Syms]:cBy.ok Try.prog:=Q4 MD (Q4 Iu (Q4 Iw Q9))
theorem KJ(n:Nat)(r:BR):(QF n r).1.length≤n:=by
 unfold QF
 generalize(if r.b.length<n then Qy r 8 else r)=q
 by_cases h:q.e≠0
 ·rw[if_pos h];simp
 ·rw[if_neg h];simp[List.length_take];omega
theorem Ro{t:List UInt8}(h:t.length≤1):leV t<256:=by
 have h1:=JV t
 have h2:256^t.length≤256^1:=Nat.pow_le_pow_right (by decide) h
 omega
theorem R9[Syms]{Post:AVal→Heap→Nat→Prop}(r:BR)(hl:r.b.length≤1000000)(hP:Post (.int .i64 ((Z6 1 r).1:Nat)) [(0,rdB (Z6 1 r).2)] 1):
 fnT Q7 cBy (Qx fns) (Qo tys) (Qz plt) 100 99 [.ptr 0 0 0] [(0,rdB r)] 1 Post:=by
 refine⟨[0],[.ptr 0 0 0,.int .i64 ((1:Nat):Int)],[(0,rdB r)],rfl,⟨.refl _,.refl _,trivial⟩,⟨⟨by decide,_,rfl,.refl _⟩,trivial⟩,r,1,rfl,rfl,rfl,⟨hl,by omega⟩,?_⟩
 unfold Z6 at hP
 have hle:=KJ 1 r
 generalize QF 1 r=q at *
 obtain⟨t,r2⟩:=q
 refine⟨[],[vB t],[],rfl,⟨.refl _,trivial⟩,trivial,t,rfl,rfl,rfl,by have:t.length≤1:=hle;omega,?_⟩
 have hle:t.length≤1:=hle
 have hP:Post (.int .i64 (leV t:Nat)) [(0,rdB r2)] 1:=hP
 have hv:=Ro hle
 have hwr:wr .i64 ((leV t:Nat):Int)=((leV t:Nat):Int):=Q19 (by omega)
 by_cases h0:t.length=0
 ·have ht:t=[]:=List.eq_nil_of_length_eq_zero h0
  subst ht
  refine⟨[2],[.ptr 0 0 0,.int .i64 ((1:Nat):Int)],[(0,rdB ⟨[],0⟩)],rfl,⟨.refl _,.refl _,trivial⟩,⟨⟨by decide,_,rfl,.refl _⟩,trivial⟩,[],1,rfl,rfl,rfl,⟨by simp,by omega⟩,.inr ⟨by simp,?_⟩⟩
  repeat' first|refine And.intro ?_ ?_|(intro h;try first|exact dz|replace h:=cv)
  all_goals try exact cz
  exact⟨⟨[(2,.int .i64 (leV []:Nat))],[(0,rdB r2)],1⟩,Q0 [0] (by first|rfl|kernel_rfl) ⟨.refl _,trivial⟩ ⟨⟨by decide,_,rfl,.refl _⟩,trivial⟩,_,rfl,hP⟩
 ·have ht:t.take 1=t:=List.take_of_length_le hle
  refine⟨[2],[.ptr 0 0 0,.int .i64 ((1:Nat):Int)],[(0,rdB ⟨t,0⟩)],rfl,⟨.refl _,.refl _,trivial⟩,⟨⟨by decide,_,rfl,.refl _⟩,trivial⟩,t,1,rfl,rfl,rfl,⟨by omega,by omega⟩,.inl ⟨by omega,?_⟩⟩
  rw[ht]
  repeat' first|refine And.intro ?_ ?_|(intro h;try first|exact dz|replace h:=cv)
  all_goals try exact cz
  exact⟨⟨[(2,.int .i64 (leV t:Nat))],[(0,rdB r2)],1⟩,Q0 [0] (by first|rfl|kernel_rfl) ⟨Qm hwr,trivial⟩ ⟨⟨by decide,_,rfl,.refl _⟩,trivial⟩,_,rfl,hP⟩
def IJ:SpecT:=fun args H nx Post=>∃(r:BR),args=[.ptr 0 0 0]∧H=[(0,rdB r)]∧nx=1∧r.b.length≤1000000∧Post (.int .i64 ((Z6 1 r).1:Nat)) [(0,rdB (Z6 1 r).2)] 1
theorem NH[Syms]:IJ.ok Try.prog 99:=by
 rintro args H nx Post ⟨r,rfl,rfl,rfl,h1,h⟩
 exact Qj Qf Qg Q3 Q0c Qw (R9 r h1 h)
end
section
set_option maxRecDepth 100000
set_option maxHeartbeats 4000000
abbrev cFl:CallT:=Q6 99 (QG IJ) (Q6 80 (QG Hs) (Q6 98 (QG Me) Q7))
theorem Q0a[Syms]:cFl.ok Try.prog:=Q4 NH (Q4 HR (Q4 MD Q9))
theorem Bz(r:BR)(x:Int):(Qy r x).b=r.b:=by unfold Qy;split<;>rfl
theorem XW(n:Nat)(r:BR):(Z6 n r).2.b.length≤r.b.length:=Vu n r
theorem QR(m:Nat)(w:Int)(r:BR):(QD m w r).2.b.length≤r.b.length:=by
 have h1:(X4 m w r).b=r.b:=by unfold X4;split<;>simp[Bz]
 have h2:=Vu (QW r.b 0 0).2.1 (X4 m w r)
 rw[h1]at h2
 unfold QD
 split
 ·exact Nat.le_refl _
 ·split<;>exact h2
theorem P5:∀(l:List UInt8),WR (l.map encB)=true∧X8 (l.map encB)=l
 |[]=>⟨rfl,rfl⟩
 |b::l=>by
  obtain⟨h1,h2⟩:=P5 l
  have hb:=b.toNat_lt
  refine⟨?_,?_⟩
  ·rw[List.map_cons,WR,List.all_cons,Bool.and_eq_true]
   exact⟨by simp[JY,encB],h1⟩
  ·rw[List.map_cons,X8,List.map_cons]
   have e:UInt8.ofNat (asI ((encB b).getD 0 .any)).toNat=b:=by
    show UInt8.ofNat ((b.toNat:Int)).toNat=b
    rw[Int.toNat_natCast,UInt8.ofNat_toNat]
   rw[e]
   exact congrArg (b:: ·) h2
theorem Vs(t:List UInt8):WR (Zq t.length fun i=>encB (t.getD i 0))=true∧X8 (Zq t.length fun i=>encB (t.getD i 0))=t:=by
 rw[Zx encB 0 t];exact P5 t
theorem Zr{m:Nat}{w:Int}(hw:w≠0)(r:BR):(QD m w r).1≤m:=by
 unfold QD
 by_cases h:r.e≠0
 ·rw[if_pos h];exact Nat.zero_le _
 ·rw[if_neg h]
  by_cases h2:(QF (QW r.b 0 0).2.1 (X4 m w r)).2.e≠0
  ·rw[if_pos h2];exact Nat.zero_le _
  ·rw[if_neg h2]
   show(QW r.b 0 0).1≤m
   apply Decidable.byContradiction
   intro hc
   apply h2
   have h0:r.e=0:=Decidable.not_not.1 h
   have hf:∀y,Qy r y=⟨r.b,y⟩:=fun y=>if_pos h0
   have hq:(X4 m w r).e≠0:=by
    unfold X4
    by_cases hx:(QW r.b 0 0).2.2=0
    ·rw[if_pos ⟨hx,by omega⟩,hf,hx]
     exact hw
    ·rw[if_neg (fun hh=>hx hh.1),hf]
     exact hx
   rw[Y1 hq]
   exact hq
theorem Ny[Syms]{Post:AVal→Heap→Nat→Prop}(r:BR)(hl:r.b.length≤1000000)(hP:Post (.agg (encF (fieldR r).1)) [(0,rdB (fieldR r).2),(1,some (.cells [encF (fieldR r).1] false))] 2):
 fnT Q7 cFl (Qx fns) (Qo tys) (Qz plt) 100 81 [.ptr 0 0 0] [(0,rdB r)] 1 Post:=by
 unfold fieldR at hP
 simp only at hP
 refine⟨[0],[.ptr 0 0 0],[(0,rdB r)],rfl,⟨.refl _,trivial⟩,⟨⟨by decide,_,rfl,.refl _⟩,trivial⟩,r,rfl,rfl,rfl,hl,?_⟩
 have l1:=XW 1 r
 generalize Z6 1 r=q1 at *
 obtain⟨v1,r1⟩:=q1
 have l1:r1.b.length≤r.b.length:=l1
 refine⟨[0],[.ptr 0 0 0],[(0,rdB r1)],rfl,⟨.refl _,trivial⟩,⟨⟨by decide,_,rfl,.refl _⟩,trivial⟩,r1,rfl,rfl,rfl,by omega,?_⟩
 have l2:=XW 1 r1
 have hP:Post (.agg (encF ⟨(QF (QD 12 5 (QD 40 14 (Z6 1 r1).2).2).1 (QD 12 5 (QD 40 14 (Z6 1 r1).2).2).2).1,v1,(Z6 1 r1).1,(QD 40 14 (Z6 1 r1).2).1⟩)) [(0,rdB (QF (QD 12 5 (QD 40 14 (Z6 1 r1).2).2).1 (QD 12 5 (QD 40 14 (Z6 1 r1).2).2).2).2),(1,some (.cells [encF ⟨(QF (QD 12 5 (QD 40 14 (Z6 1 r1).2).2).1 (QD 12 5 (QD 40 14 (Z6 1 r1).2).2).2).1,v1,(Z6 1 r1).1,(QD 40 14 (Z6 1 r1).2).1⟩] false))] 2:=hP
 generalize Z6 1 r1=q2 at *
 obtain⟨v2,r2⟩:=q2
 have l2:r2.b.length≤r1.b.length:=l2
 refine⟨[0],[.ptr 0 0 0,.int .i64 ((40:Nat):Int),.int .i64 14],[(0,rdB r2)],rfl,⟨.refl _,.refl _,.refl _,trivial⟩,⟨⟨by decide,_,rfl,.refl _⟩,trivial⟩,r2,40,14,rfl,rfl,rfl,⟨by omega,by omega,by decide⟩,?_⟩
 have l3:=QR 40 14 r2
 generalize QD 40 14 r2=q3 at *
 obtain⟨v3,r3⟩:=q3
 have l3:r3.b.length≤r2.b.length:=l3
 repeat' first|refine And.intro ?_ ?_|(intro h;try first|exact dz|replace h:=cv)
 all_goals try exact cz
 refine⟨[0],[.ptr 0 0 0,.int .i64 ((12:Nat):Int),.int .i64 5],[(0,rdB r3)],rfl,⟨.refl _,.refl _,.refl _,trivial⟩,⟨⟨by decide,_,rfl,.refl _⟩,trivial⟩,r3,12,5,rfl,rfl,rfl,⟨by omega,by omega,by decide⟩,?_⟩
 have l4:=QR 12 5 r3
 have l5:(QD 12 5 r3).1≤1000000000:=by have:=Zr (m:=12) (w:=5) (by decide) r3;omega
 generalize QD 12 5 r3=q4 at *
 obtain⟨v4,r4⟩:=q4
 have l4:r4.b.length≤r3.b.length:=l4
 refine⟨[0],[.ptr 0 0 0,.int .i64 (v4:Nat)],[(0,rdB r4)],rfl,⟨.refl _,.refl _,trivial⟩,⟨⟨by decide,_,rfl,.refl _⟩,trivial⟩,r4,v4,rfl,rfl,rfl,⟨by omega,l5⟩,?_⟩
 generalize QF v4 r4=q5 at *
 obtain⟨t,r5⟩:=q5
 repeat' first|refine And.intro ?_ ?_|(intro h;try first|exact dz|replace h:=cv)
 all_goals try exact cz
 ·exact(Vs t).1
 refine⟨⟨[(2,.ptr 1 0 0)],[(0,rdB r5),(1,some (.cells [encF ⟨t,v1,v2,v3⟩] false))],2⟩,Q0 [0,1] (by first|rfl|kernel_rfl) ⟨.refl _,trivial⟩ ⟨⟨by decide,_,rfl,.refl _⟩,⟨by decide,_,rfl,Q2 ?_ (fF [⟨t,v1,v2,v3⟩])⟩,trivial⟩,_,rfl,hP⟩
 show[[AVal.str (X8 (Zq t.length fun i=>encB (t.getD i 0))),.int .i64 v1,.int .i64 v2,.int .i64 v3]]=_
 rw[(Vs t).2];rfl
def Ep:SpecT:=fun args H nx Post=>∃(r:BR),args=[.ptr 0 0 0]∧H=[(0,rdB r)]∧nx=1∧r.b.length≤1000000∧Post (.agg (encF (fieldR r).1)) [(0,rdB (fieldR r).2),(1,some (.cells [encF (fieldR r).1] false))] 2
theorem L3[Syms]:Ep.ok Try.prog 81:=by
 rintro args H nx Post ⟨r,rfl,rfl,rfl,h1,h⟩
 exact Qj Qf Qg Q3 Q0a Qw (Ny r h1 h)
end
section
set_option maxRecDepth 100000
set_option maxHeartbeats 4000000
theorem RC[Syms]{Post:AVal→Heap→Nat→Prop}(r:BR)(x:Int)(hP:Post (.tup []) [(0,rdB (Qy r x))] 1):
 fnT Q7 Q7 (Qx fns) (Qo tys) (Qz plt) 100 27 [.ptr 0 0 0,.int .i64 x] [(0,rdB r)] 1 Post:=by
 obtain⟨b,e⟩:=r
 by_cases h0:e=0
 ·subst h0
  rw[Qy,if_pos rfl]at hP
  repeat' first|refine And.intro ?_ ?_|(intro h;try first|exact dz|replace h:=cv)
  all_goals try exact cz
  exact⟨⟨[],[(0,rdB ⟨b,x⟩)],1⟩,Q0 [0] (by first|rfl|kernel_rfl) trivial ⟨⟨by decide,_,rfl,.refl _⟩,trivial⟩,_,rfl,hP⟩
 ·rw[Qy,if_neg h0]at hP
  repeat' first|refine And.intro ?_ ?_|(intro h;try first|exact dz|replace h:=cv)
  all_goals try exact cz
  exact⟨⟨[],[(0,rdB ⟨b,e⟩)],1⟩,Q0 [0] (by first|rfl|kernel_rfl) trivial ⟨⟨by decide,_,rfl,.refl _⟩,trivial⟩,_,rfl,hP⟩
def UT:SpecT:=fun args H nx Post=>∃(r:BR) (x:Int),args=[.ptr 0 0 0,.int .i64 x]∧H=[(0,rdB r)]∧nx=1∧Post (.tup []) [(0,rdB (Qy r x))] 1
theorem Uu[Syms]:UT.ok Try.prog 27:=by
 rintro args H nx Post ⟨r,x,rfl,rfl,rfl,h⟩
 exact Qj Qf Qg Q3 Q9 Qw (RC r x h)
abbrev cFTk:CallT:=Q6 27 (QG UT) Q7
theorem Sd[Syms]:cFTk.ok Try.prog:=Q4 Uu Q9
theorem Rv[Syms]{Post:AVal→Heap→Nat→Prop}(r:BR)(n:Nat)(hl:r.b.length≤1000000)(hn:n≤1000000000)(hP:Post (vB (QF n r).1) [(0,rdB (QF n r).2)] 1):
 fnT Q7 cFTk (Qx fns) (Qo tys) (Qz plt) 100 54 [.ptr 0 0 0,.int .i64 n] [(0,rdB r)] 1 Post:=by
 obtain⟨b,e⟩:=r
 have hl:b.length≤1000000:=hl
 unfold QF at hP
 by_cases h1:b.length<n
 ·simp only[if_pos h1]at hP
  by_cases h0:e=0
  ·subst h0
   have hP:Post (vB []) [(0,rdB ⟨b,8⟩)] 1:=hP
   have hx1:Qy ⟨b,0⟩ 8=⟨b,8⟩:=rfl
   have hx2:¬(8:Int)=0:=by decide
   have hx3:=HV b 8
   have hx4:=hx2
   repeat' first|refine And.intro ?_ ?_|(intro h;try first|exact dz|replace h:=cv)
   all_goals try exact cz
   refine⟨[0],[.ptr 0 0 0,.int .i64 8],[(0,rdB ⟨b,0⟩)],rfl,⟨.refl _,.refl _,trivial⟩,⟨⟨by decide,_,rfl,.refl _⟩,trivial⟩,⟨b,0⟩,8,rfl,rfl,rfl,?_⟩
   rw[hx1,show rdB ⟨b,8⟩=some (.cells [[vB b,.int .i64 8]] false) from rfl]
   repeat' first|refine And.intro ?_ ?_|(intro h;try first|exact dzi|replace h:=cvi)
   all_goals try exact cz
   exact⟨_,Vy (k:=4) (by first|rfl|kernel_rfl) rfl rfl,_,rfl,hP⟩
  ·have hf:Qy ⟨b,e⟩ 8=⟨b,e⟩:=if_neg h0
   rw[hf,if_pos h0]at hP
   repeat' first|refine And.intro ?_ ?_|(intro h;try first|exact dz|replace h:=cv)
   all_goals try exact cz
   refine⟨[0],[.ptr 0 0 0,.int .i64 8],[(0,rdB ⟨b,e⟩)],rfl,⟨.refl _,.refl _,trivial⟩,⟨⟨by decide,_,rfl,.refl _⟩,trivial⟩,⟨b,e⟩,8,rfl,rfl,rfl,?_⟩
   rw[hf,show rdB ⟨b,e⟩=some (.cells [[vB b,.int .i64 e]] false) from rfl]
   have hx1:=HV b e
   have hx2:=hx1
   have hx3:=hx1
   have hx4:=hx1
   repeat' first|refine And.intro ?_ ?_|(intro h;try first|exact dzi|replace h:=cvi)
   all_goals try exact cz
   exact⟨_,Vy (k:=4) (by first|rfl|kernel_rfl) rfl rfl,_,rfl,hP⟩
 ·simp only[if_neg h1]at hP
  by_cases h0:e=0
  ·subst h0
   have hP:Post (vB (b.take n)) [(0,rdB ⟨b.drop n,0⟩)] 1:=hP
   repeat' first|refine And.intro ?_ ?_|(intro h;try first|exact dz|replace h:=cv)
   all_goals try exact cz
   exact⟨_,ML (k:=4) (b:=b) (n:=n) (by omega) (by first|rfl|kernel_rfl) rfl rfl,_,rfl,hP⟩
  ·rw[if_pos h0]at hP
   repeat' first|refine And.intro ?_ ?_|(intro h;try first|exact dz|replace h:=cv)
   all_goals try exact cz
   exact⟨_,Vy (k:=4) (by first|rfl|kernel_rfl) rfl rfl,_,rfl,hP⟩
def JB:SpecT:=fun args H nx Post=>∃(r:BR) (n:Nat),args=[.ptr 0 0 0,.int .i64 n]∧H=[(0,rdB r)]∧nx=1∧(r.b.length≤1000000∧n≤1000000000)∧Post (vB (QF n r).1) [(0,rdB (QF n r).2)] 1
theorem J4[Syms]:JB.ok Try.prog 54:=by
 rintro args H nx Post ⟨r,n,rfl,rfl,rfl,⟨h1,h2⟩,h⟩
 exact Qj Qf Qg Q3 Sd Qw (Rv r n h1 h2 h)
abbrev cFNm:CallT:=Q6 79 (X0 S_get) (Q6 27 (QG UT) (Q6 54 (QG JB) Q7))
theorem Se[Syms]:cFNm.ok Try.prog:=Qh Om (Q4 Uu (Q4 J4 Q9))
theorem Tq[Syms]{Post:AVal→Heap→Nat→Prop}(r:BR)(most:Nat)(wrong:Int)(hl:r.b.length≤1000000)(hm:most≤2000000)(hw:wrong≠0)(hP:Post (.int .i64 ((QD most wrong r).1:Nat)) [(0,rdB (QD most wrong r).2)] 1):
 fnT Q7 cFNm (Qx fns) (Qo tys) (Qz plt) 100 55 [.ptr 0 0 0,.int .i64 most,.int .i64 wrong] [(0,rdB r)] 1 Post:=by
 obtain⟨b,e⟩:=r
 have hl:b.length≤1000000:=hl
 unfold QD at hP
 by_cases h0:e=0
 ·subst h0
  have hk:=Fk b 0 0
  rw[if_neg (by simp)]at hP
  unfold X4 at hP
  simp only at hP
  repeat' first|refine And.intro ?_ ?_|(intro h;try first|exact dz|replace h:=cv)
  all_goals try exact cz
  refine⟨b,rfl,hl,?_⟩
  rcases hg:QW b 0 0 with⟨v,k,x⟩
  rw[hg]at hP hk
  simp only at hP hk
  repeat' first|refine And.intro ?_ ?_|(intro h;try first|exact dz|replace h:=cv)
  all_goals try exact cz
  refine⟨[0],[.ptr 0 0 0,.int .i64 x],[(0,rdB ⟨b,0⟩)],rfl,⟨.refl _,.refl _,trivial⟩,⟨⟨by decide,_,rfl,.refl _⟩,trivial⟩,⟨b,0⟩,x,rfl,rfl,rfl,?_⟩
  have hf:∀y:Int,Qy ⟨b,0⟩ y=⟨b,y⟩:=fun _=>rfl
  have hq:∀y:Int,rdB ⟨b,y⟩=some (.cells [[vB b,.int .i64 y]] false):=fun _=>rfl
  have hx1:=fun ρ=>YB ρ b
  have hx2:=KD (n:=most) (by omega)
  by_cases h2:x=0∧most<v
  ·obtain⟨hx0,h2'⟩:=h2
   subst hx0
   rw[hf,if_pos (show(0:Int)=0∧most<v from⟨rfl,h2'⟩),hf,Y1 (show(BR.mk b wrong).e≠0 from hw),if_pos (show(([]:List UInt8),BR.mk b wrong).2.e≠0 from hw)]at hP
   rw[hf,hq]
   have hx3:=hw
   have hx4:=hw
   repeat' first|refine And.intro ?_ ?_|(intro h;try first|exact dzi|replace h:=cvi)
   all_goals try exact cz
   refine⟨[0],[.ptr 0 0 0,.int .i64 wrong],[(0,rdB ⟨b,0⟩)],rfl,⟨.refl _,.refl _,trivial⟩,⟨⟨by decide,_,rfl,.refl _⟩,trivial⟩,⟨b,0⟩,wrong,rfl,rfl,rfl,?_⟩
   rw[hf,hq]
   repeat' first|refine And.intro ?_ ?_|(intro h;try first|exact dzi|replace h:=cvi)
   all_goals try exact cz
   refine⟨[0],[.ptr 0 0 0,.int .i64 k],[(0,rdB ⟨b,wrong⟩)],rfl,⟨.refl _,.refl _,trivial⟩,⟨⟨by decide,_,rfl,.refl _⟩,trivial⟩,⟨b,wrong⟩,k,rfl,rfl,rfl,⟨hl,by omega⟩,?_⟩
   rw[Y1 (show(BR.mk b wrong).e≠0 from hw),hq]
   repeat' first|refine And.intro ?_ ?_|(intro h;try first|exact dzi|replace h:=cvi)
   all_goals try exact cz
   exact⟨⟨[(6,.int .i64 0)],[(0,rdB ⟨b,wrong⟩)],1⟩,Q0 [0] (by first|rfl|kernel_rfl) ⟨.refl _,trivial⟩ ⟨⟨by decide,_,rfl,.refl _⟩,trivial⟩,_,rfl,hP⟩
  ·rw[hf,if_neg h2]at hP
   rw[hf,hq]
   by_cases h3:x=0
   ·subst h3
    have h4:v≤most:=by omega
    have hx4:=Q19 (n:=v) (by omega)
    have hx3:=hx4
    repeat' first|refine And.intro ?_ ?_|(intro h;try first|exact dzi|replace h:=cvi)
    all_goals try exact cz
    refine⟨[0],[.ptr 0 0 0,.int .i64 k],[(0,rdB ⟨b,0⟩)],rfl,⟨.refl _,.refl _,trivial⟩,⟨⟨by decide,_,rfl,.refl _⟩,trivial⟩,⟨b,0⟩,k,rfl,rfl,rfl,⟨hl,by omega⟩,?_⟩
    rcases ht:QF k ⟨b,0⟩with⟨t,b',e'⟩
    rw[ht]at hP
    have hx3:=fun ρ=>YB ρ b' e'
    rw[show rdB (t,BR.mk b' e').2=some (.cells [[vB b',.int .i64 e']] false) from rfl]
    by_cases h5:e'=0
    ·rw[if_neg (show ¬(t,BR.mk b' e').2.e≠0 from fun h=>h h5)]at hP
     repeat' first|refine And.intro ?_ ?_|(intro h;try first|exact dzi|replace h:=cvi)
     all_goals try exact cz
     refine⟨⟨[(6,.int .i64 (v:Nat))],[(0,rdB ⟨b',e'⟩)],1⟩,Q0 [0] (by first|rfl|kernel_rfl) ⟨Qm hx4,trivial⟩ ⟨⟨by decide,_,rfl,.refl _⟩,trivial⟩,_,rfl,hP⟩
    ·rw[if_pos (show(t,BR.mk b' e').2.e≠0 from h5)]at hP
     repeat' first|refine And.intro ?_ ?_|(intro h;try first|exact dzi|replace h:=cvi)
     all_goals try exact cz
     exact⟨⟨[(6,.int .i64 0)],[(0,rdB ⟨b',e'⟩)],1⟩,Q0 [0] (by first|rfl|kernel_rfl) ⟨.refl _,trivial⟩ ⟨⟨by decide,_,rfl,.refl _⟩,trivial⟩,_,rfl,hP⟩
   ·rw[Y1 (show(BR.mk b x).e≠0 from h3),if_pos (show(([]:List UInt8),BR.mk b x).2.e≠0 from h3)]at hP
    have hx3:=h3
    have hx4:=h3
    repeat' first|refine And.intro ?_ ?_|(intro h;try first|exact dzi|replace h:=cvi)
    all_goals try exact cz
    refine⟨[0],[.ptr 0 0 0,.int .i64 k],[(0,rdB ⟨b,x⟩)],rfl,⟨.refl _,.refl _,trivial⟩,⟨⟨by decide,_,rfl,.refl _⟩,trivial⟩,⟨b,x⟩,k,rfl,rfl,rfl,⟨hl,by omega⟩,?_⟩
    rw[Y1 (show(BR.mk b x).e≠0 from h3),hq]
    repeat' first|refine And.intro ?_ ?_|(intro h;try first|exact dzi|replace h:=cvi)
    all_goals try exact cz
    exact⟨⟨[(6,.int .i64 0)],[(0,rdB ⟨b,x⟩)],1⟩,Q0 [0] (by first|rfl|kernel_rfl) ⟨.refl _,trivial⟩ ⟨⟨by decide,_,rfl,.refl _⟩,trivial⟩,_,rfl,hP⟩
 ·rw[if_pos h0]at hP
  repeat' first|refine And.intro ?_ ?_|(intro h;try first|exact dz|replace h:=cv)
  all_goals try exact cz
  exact⟨⟨[(6,.int .i64 0)],[(0,rdB ⟨b,e⟩)],1⟩,Q0 [0] (by first|rfl|kernel_rfl) ⟨.refl _,trivial⟩ ⟨⟨by decide,_,rfl,.refl _⟩,trivial⟩,_,rfl,hP⟩
def FX:SpecT:=fun args H nx Post=>∃(r:BR) (most:Nat) (wrong:Int),args=[.ptr 0 0 0,.int .i64 most,.int .i64 wrong]∧H=[(0,rdB r)]∧nx=1∧(r.b.length≤1000000∧most≤2000000∧wrong≠0)∧Post (.int .i64 ((QD most wrong r).1:Nat)) [(0,rdB (QD most wrong r).2)] 1
theorem M7[Syms]:FX.ok Try.prog 55:=by
 rintro args H nx Post ⟨r,most,wrong,rfl,rfl,rfl,⟨h1,h2,h3⟩,h⟩
 exact Qj Qf Qg Q3 Se Qw (Tq r most wrong h1 h2 h3 h)
end
section
set_option maxRecDepth 100000
set_option maxHeartbeats 4000000
def prS(r:BR)(n i:Nat)(fs:List Fd):St:=⟨[(4,.ptr 0 0 0),(5,.int .i64 n),(6,.slice 1 0 fs.length 4 none),(7,.int .i64 i)],[(0,rdB r),(1,some (.cells (fs.map encF) false))],2⟩
def prN(r:BR)(n:Nat):St:=⟨[(4,.ptr 0 0 0),(5,.int .i64 n),(6,.nils),(7,.int .i64 (0:Nat))],[(0,rdB r)],1⟩
theorem Fu(r:BR):(fieldR r).2.b.length≤r.b.length:=by
 unfold fieldR
 simp only
 exact Nat.le_trans (Vu _ _) (Nat.le_trans (QR _ _ _) (Nat.le_trans (QR _ _ _) (Nat.le_trans (XW _ _) (XW _ _))))
theorem J7(k:Nat)(r:BR)(s:List Fd)(h:r.e=0):Zi (k+1) r s=Zi k (fieldR r).2 (s++[(fieldR r).1]):=by
 rw[Zi,if_neg (fun x=>x h)]
theorem J6(k:Nat)(r:BR)(s:List Fd)(h:r.e≠0):Zi k r s=(s,r):=by
 cases k with
 |zero=>rfl
 |succ k=>rw[Zi,if_pos h]
end
section
set_option maxRecDepth 100000
set_option maxHeartbeats 4000000
def nmS(s:List UInt8)(k:Nat):St:=⟨[(0,.str s),(14,.obj 0)],[(0,some (.iter s k))],1⟩
theorem RE{s:List UInt8}(h:s≠[]):eqb s []=false:=by
 cases s with
 |nil=>exact absurd rfl h
 |cons a l=>rfl
theorem RH{s:List UInt8}{k:Nat}(hk:k<s.length)(ha:(s.getD k 0).toNat<128):Utf8.decode ⟨⟨s⟩⟩ k=((s.getD k 0).toNat,1):=by
 have e:s.getD k 0=s[k]:=by simp[hk]
 have:=decode_ascii ⟨⟨s⟩⟩ k hk (by rw[e]at ha;exact ha)
 rw[this,e];rfl
theorem OL{s:List UInt8}{k:Nat}(hk:k<s.length)(ha:128≤(s.getD k 0).toNat):128≤(Utf8.decode ⟨⟨s⟩⟩ k).1∧1≤(Utf8.decode ⟨⟨s⟩⟩ k).2:=by
 have e:s.getD k 0=s[k]:=by simp[hk]
 exact decode_high ⟨⟨s⟩⟩ k hk (by rw[e]at ha;exact ha)
def F3(s:List UInt8)(k:Nat):Bool:=Mu (s.getD k 0)&&(decide (0<k)||YE (s.getD k 0))
theorem KV{s:List UInt8}(h0:s≠[])(hl:¬12<s.length):Yf s=true↔ ∀k,k<s.length→F3 s k=true:=by
 have hp:0<s.length:=List.length_pos_iff.2 h0
 have e0:s.headD 0=s.getD 0 0:=by cases s with|nil=>exact absurd rfl h0|cons a l=>rfl
 rw[Yf,decide_eq_true (show 1≤s.length by omega),decide_eq_true (show s.length≤12 by omega),Bool.true_and,Bool.true_and,Bool.and_eq_true,List.all_eq_true,e0]
 constructor
 ·rintro⟨h1,h2⟩ k hk
  have:=h2 (s.getD k 0) (by rw[List.getD_eq_getElem?_getD,List.getElem?_eq_getElem hk];exact List.getElem_mem hk)
  rw[F3,this,Bool.true_and,Bool.or_eq_true]
  by_cases hk0:0<k
  ·exact .inl (decide_eq_true hk0)
  ·obtain rfl:k=0:=by omega
   exact .inr h1
 ·intro h
  refine⟨?_,fun c hc=>?_⟩
  ·have:=h 0 hp
   rw[F3,Bool.and_eq_true,Bool.or_eq_true]at this
   rcases this.2 with h|h
   ·exact absurd (of_decide_eq_true h) (by omega)
   ·exact h
  ·obtain⟨k,hk,rfl⟩:=List.getElem_of_mem hc
   have:=h k hk
   rw[F3,Bool.and_eq_true]at this
   have e:s.getD k 0=s[k]:=by simp[hk]
   rw[e]at this
   exact this.1
theorem KT(s:List UInt8)(k:Nat):F3 s k=true↔(97≤(s.getD k 0).toNat∧(s.getD k 0).toNat≤122)∨(0<k∧((48≤(s.getD k 0).toNat∧(s.getD k 0).toNat≤57)∨(s.getD k 0).toNat=95)):=by
 simp only[F3,Mu,YE,Bool.and_eq_true,Bool.or_eq_true,decide_eq_true_eq]
 omega
theorem CC{s:List UInt8}{k:Nat}(h0:s≠[])(hl:¬12<s.length)(hk:k<s.length)(h:¬((97≤(s.getD k 0).toNat∧(s.getD k 0).toNat≤122)∨(0<k∧((48≤(s.getD k 0).toNat∧(s.getD k 0).toNat≤57)∨(s.getD k 0).toNat=95)))):Yf s=false:=by
 refine Bool.eq_false_iff.2 fun hn=>h ?_
 exact(KT s k).1 ((KV h0 hl).1 hn k hk)
theorem Th[Syms](s:List UInt8)(hs:s.length≤1000):
 fnT Q7 Q7 (Qx fns) (Qo tys) (Qz plt) 100 113 [.str s] [] 0 (fun v H _=>v= .bool (Yf s)∧H=[]):=by
 by_cases h0:s=[]
 ·subst h0
  refine And.intro (fun _=>?_) (fun h=>absurd (show true=false from h) (by decide))
  refine And.intro (fun _=>?_) (fun h=>absurd (show true=false from h) (by decide))
  exact⟨_,Q1 [2] rfl,_,rfl,rfl,rfl⟩
 have hl0:0<s.length:=List.length_pos_iff.2 h0
 have hx1:=RE h0
 by_cases hl:12<s.length
 ·have hn:Yf s=false:=by rw[Yf,decide_eq_false (show ¬s.length≤12 by omega)];simp
  rw[hn]
  repeat' first|refine And.intro ?_ ?_|(intro h;try first|exact dzh|replace h:=cvh)
  all_goals try exact cz
  exact⟨_,Q1 [2] rfl,_,rfl,rfl,rfl⟩
 · repeat' first|refine And.intro ?_ ?_|(intro h;try first|exact dzh|replace h:=cvh)
   all_goals try exact cz
   refine⟨fun m st=>∃k:Nat,(k≤s.length∧m=s.length-k∧ ∀j,j<k→F3 s j=true)∧st=nmS s k,⟨_,nmS s 0,Q0 [0] rfl ⟨.refl _,.refl _,trivial⟩ ⟨⟨by decide,_,rfl,.refl _⟩,trivial⟩,0,⟨by omega,rfl,fun j h=>by omega⟩,rfl⟩,?_⟩
   rintro m st ⟨k,⟨hk,rfl,hj⟩,rfl⟩
   by_cases hin:k<s.length
   ·have hnext:F3 s k=true→ ∀j,j<k+1→F3 s j=true:=fun h j hlt=>by
     rcases Nat.lt_or_ge j k with h'|h'
     ·exact hj j h'
     ·obtain rfl:j=k:=by omega
      exact h
    have hok:=KT s k
    have hno:=CC (k:=k) h0 hl hin
    by_cases hb:(s.getD k 0).toNat<128
    ·have hd:=RH hin hb
     generalize(s.getD k 0).toNat=c at *
     by_cases hc:(97≤c∧c≤122)∨(0<k∧((48≤c∧c≤57)∨c=95))
     ·have hnx:=hnext (hok.2 hc)
      have hx1:=congrArg Prod.fst hd
      have hx2:=congrArg Prod.snd hd
      simp only at hx1 hx2
      rcases hc with hc|⟨hc1,hc2|hc2⟩
      all_goals
       repeat' first|refine And.intro ?_ ?_|(intro h;try first|exact dz|replace h:=cv)
       all_goals try exact cz
       exact⟨_,nmS s (k+1),Q0 [0] rfl ⟨.refl _,.refl _,trivial⟩ ⟨⟨by decide,_,rfl,by rw[hx2];exact .refl _⟩,trivial⟩,⟨k+1,⟨by omega,rfl,hnx⟩,rfl⟩,by omega⟩
     ·have hnn:=hno hc
      have hx1:=congrArg Prod.fst hd
      have hx2:=congrArg Prod.snd hd
      simp only at hx1 hx2
      rw[hnn]
      repeat' first|refine And.intro ?_ ?_|(intro h;try first|exact dz|replace h:=cv)
      all_goals try exact cz
      all_goals exact⟨_,Q1 [2] rfl,_,rfl,rfl,rfl⟩
    ·have hd:=OL hin (by omega)
     have hnn:=hno (by omega)
     rw[hnn]
     repeat' first|refine And.intro ?_ ?_|(intro h;try first|exact dz|replace h:=cv)
     all_goals try exact cz
     all_goals exact⟨_,Q1 [2] rfl,_,rfl,rfl,rfl⟩
   ·have hn:Yf s=true:=(KV h0 hl).2 fun j hjl=>hj j (by omega)
    rw[hn]
    repeat' first|refine And.intro ?_ ?_|(intro h;try first|exact dzh|replace h:=cvh)
    all_goals try exact cz
    exact⟨_,Q1 [2] rfl,_,rfl,rfl,rfl⟩
end
section
set_option maxRecDepth 100000
set_option maxHeartbeats 4000000
def S_name:SpecI:=fun args K=>∃s,args=[.str s]∧s.length≤1000∧K (.bool (Yf s))
theorem I5[Syms]:Zs Try.prog 113 S_name:=by
 rintro args K ⟨s,rfl,h,hk⟩
 exact⟨rfl,_,rfl,hk,fnI Qf Qg Q3 Q9 Qw (Th s h)⟩
def S_twin:SpecI:=fun args K=>∃(fs:List Fd) (ps:List Int) (i:Nat),args=[vF fs,vI ps,.int .i64 i]∧(i<fs.length∧ps.length=fs.length∧fs.length<1000)∧K (.bool (WF fs ps i))
theorem HE[Syms]:Zs Try.prog 114 S_twin:=by
 rintro args K ⟨fs,ps,i,rfl,⟨h1,h2,h3⟩,hk⟩
 exact⟨rfl,_,rfl,hk,fnI Qf Qg Q3 Q9 Qw (SL fs ps i h1 h2 h3)⟩
abbrev cCk:CallT:=Q6 113 (X0 S_name) (Q6 114 (X0 S_twin) Q7)
theorem Q0b[Syms]:cCk.ok Try.prog:=Qh I5 (Qh HE Q9)
theorem Sg[Syms]:cCk.det Try.prog:=Zz I5 (Zz HE Q3)
theorem RV[Syms](fs:List Fd)(ps:List Int)(i:Nat)(dep:Int)(hi:i<fs.length)(hp:ps.length=fs.length)(hl:fs.length<1000)(hnl:(fs.getD i default).name.length≤1000):
 fnT cCk cCk (Qx fns) (Qo tys) (Qz plt) 100 101 [vF fs,vI ps,.int .i64 i,.int .i64 dep] [] 0 (fun v H _=>v= .int .i64 (YJ fs ps i dep)∧H=[]):=by
 generalize he:YJ fs ps i dep=e
 unfold YJ BH at he
 cases hnm:Yf (fs.getD i default).name
 ·simp only[hnm,reduceCtorEq,or_true,or_false,true_or,false_or,if_true,if_false]at he
  refine .inl ?_
  repeat' first|refine And.intro ?_ ?_|(intro h;try first|exact dz|replace h:=cv)
  all_goals try exact cz
  all_goals(try(refine⟨_,Q1 [8] rfl,_,rfl,congrArg (AVal.int .i64) ?_,rfl⟩;(repeat'(split at he))<;>omega))
  all_goals(refine⟨(fs.getD i default).name,rfl,hnl,?_⟩;rw[hnm])
  all_goals
   repeat' first|refine And.intro ?_ ?_|(intro h;try first|exact dz|replace h:=cv)
   all_goals try exact cz
  all_goals(try(refine⟨_,Q1 [8] rfl,_,rfl,congrArg (AVal.int .i64) ?_,rfl⟩;(repeat'(split at he))<;>omega))
 cases htw:WF fs ps i
 all_goals
  simp only[hnm,htw,reduceCtorEq,or_true,or_false,true_or,false_or,if_true,if_false]at he
  refine .inl ?_
  repeat' first|refine And.intro ?_ ?_|(intro h;try first|exact dz|replace h:=cv)
  all_goals try exact cz
 all_goals(try(refine⟨_,Q1 [8] rfl,_,rfl,congrArg (AVal.int .i64) ?_,rfl⟩;(repeat'(split at he))<;>omega))
 all_goals(refine⟨(fs.getD i default).name,rfl,hnl,?_⟩;rw[hnm])
 all_goals
  repeat' first|refine And.intro ?_ ?_|(intro h;try first|exact dz|replace h:=cv)
  all_goals try exact cz
 all_goals(try(refine⟨_,Q1 [8] rfl,_,rfl,congrArg (AVal.int .i64) ?_,rfl⟩;(repeat'(split at he))<;>omega))
 all_goals(refine⟨fs,ps,i,rfl,⟨hi,hp,hl⟩,?_⟩;rw[htw])
 all_goals
  repeat' first|refine And.intro ?_ ?_|(intro h;try first|exact dz|replace h:=cv)
  all_goals try exact cz
 all_goals(try have q0:(fs.getD i default).rep<0:=by assumption)
 all_goals(try have q1:0≤(fs.getD i default).rep:=by assumption)
 all_goals(try have q2:2<(fs.getD i default).rep:=by assumption)
 all_goals(try have q3:(fs.getD i default).rep≤2:=by assumption)
 all_goals(try have q4:(fs.getD i default).kind<0:=by assumption)
 all_goals(try have q5:0≤(fs.getD i default).kind:=by assumption)
 all_goals(try have q6:4<(fs.getD i default).kind:=by assumption)
 all_goals(try have q7:(fs.getD i default).kind≤4:=by assumption)
 all_goals(try have q8:(fs.getD i default).rep=0:=by assumption)
 all_goals(try have q9:¬(fs.getD i default).rep=0:=by assumption)
 all_goals(try have q10:(fs.getD i default).kind=0:=by assumption)
 all_goals(try have q11:¬(fs.getD i default).kind=0:=by assumption)
 all_goals(try have q12:(fs.getD i default).kids<1:=by assumption)
 all_goals(try have q13:1≤(fs.getD i default).kids:=by assumption)
 all_goals(try have q14:(fs.getD i default).kids=0:=by assumption)
 all_goals(try have q15:¬(fs.getD i default).kids=0:=by assumption)
 all_goals(try(refine⟨_,Q1 [8] rfl,_,rfl,congrArg (AVal.int .i64) ?_,rfl⟩;(repeat'(split at he))<;>omega))
def S_check1:SpecI:=fun args K=>∃(fs:List Fd) (ps:List Int) (i:Nat) (dep:Int),args=[vF fs,vI ps,.int .i64 i,.int .i64 dep]∧(i<fs.length∧ps.length=fs.length∧fs.length<1000∧(fs.getD i default).name.length≤1000)∧K (.int .i64 (YJ fs ps i dep))
theorem LS[Syms]:Zs Try.prog 101 S_check1:=by
 rintro args K ⟨fs,ps,i,dep,rfl,⟨h1,h2,h3,h4⟩,hk⟩
 exact⟨rfl,_,rfl,hk,fnI Qf Qg Sg Q0b Qw (RV fs ps i dep h1 h2 h3 h4)⟩
end
section
set_option maxRecDepth 100000
set_option maxHeartbeats 4000000
abbrev c36:CallT:=Q6 101 (X0 S_check1) Q7
theorem Q0d[Syms]:c36.ok Try.prog:=Qh LS Q9
abbrev cChk[Syms]:CallT:=Q6 94 (tB Q7 (Q6 100 (tB Q7 c36) Q7)) (Q6 73 (X0 S_par) Q7)
theorem Sh[Syms]:cChk.ok Try.prog:=Xn (XY Qf Qg Q3 (Xn (XY Qf Qg Q3 Q0d Qw) Q9) Qw) (Qh NM Q9)
abbrev fnCk:AVal:=.func 100 [.ptr 0 0 0,.ptr 2 0 0,.ptr 1 0 0]
def ckE(fs:List Fd)(i:Nat)(l:AVal):Env:=[(0,vF fs),(1,fnCk),(4,.bool false),(5,l),(12,vF fs),(13,.int .i64 fs.length),(14,.int .i64 i)]
def ckA(fs:List Fd)(i:Nat):St:=⟨ckE fs i .nils,[(0,some (.cells [[vF fs]] false)),(1,some (.cells [[.int .i64 0]] false)),(2,some (.cells [[vI (Qi fs)]] false))],4⟩
def ckC(fs:List Fd)(i:Nat)(st:Stk)(junk:List (List AVal)):St:=⟨ckE fs i (.slice 4 0 st.length 2 none),[(0,some (.cells [[vF fs]] false)),(1,some (.cells [[.int .i64 0]] false)),(2,some (.cells [[vI (Qi fs)]] false)),(4,some (.cells (st.reverse.map encG++junk) false))],5⟩
def ckI(fs:List Fd)(i m:Nat)(R:List (List AVal)):St:=⟨[(0,vF fs),(1,fnCk),(4,.bool false),(5,.slice 4 0 m 2 none),(6,.int .i64 i),(7,.ptr 5 0 0),(12,vF fs),(13,.int .i64 fs.length),(14,.int .i64 i)],[(0,some (.cells [[vF fs]] false)),(1,some (.cells [[.int .i64 0]] false)),(2,some (.cells [[vI (Qi fs)]] false)),(4,some (.cells R false)),(5,some (.cells [encF (fs.getD i default)] false))],6⟩
def ckJ(fs:List Fd)(j:Nat)(st:Stk)(R:List (List AVal))(b:Bool):St:=⟨[(4,.bool b),(74,.slice 4 0 st.length 2 none),(75,.int .i64 st.length),(76,.int .i64 j)],[(0,some (.cells [[vF fs]] false)),(1,some (.cells [[.int .i64 0]] false)),(2,some (.cells [[vI (Qi fs)]] false)),(4,some (.cells R false))],5⟩
theorem Fq[Syms]{N:Nat}{e:Env}{H:Heap}{nx:Nat}{x:Int}(h2:e.get 2= .ptr 1 0 0)(hb:H.get 1=some (.cells [[.int .i64 x]] false)):Reb 0 N ⟨e,H,nx⟩ ⟨[(2,.vp [.int .i64 x] 0)],[],nx⟩:=
 QH (n:=1) (rows:=[[.int .i64 x]]) hb (fun q hq y hy=>by simp at hq;subst hq;simp at hy;subst hy;rfl) ⟨by rw[h2];exact .pt 0 0 _ [.int .i64 x] rfl ⟨.same _,trivial⟩,trivial⟩ trivial
theorem ZG{a b:Bool}(h:a=b):WkV (.bool a) (.bool b):=h▸ .refl _
def ckR(fs:List Fd)(i:Nat)(e:Int):St:=⟨[(9,.bool (decide (e=0)))],[(0,some (.cells [[vF fs]] false)),(1,some (.cells [[.int .i64 e]] false)),(2,some (.cells [[vI (Qi fs)]] false)),(4,some (.cells [encF (fs.getD i default)] false))],6⟩
def RP(fs:List Fd)(i n:Nat)(e:Int)(R:List (List AVal)):St:=⟨[(9,.bool (decide (e=0)))],[(0,some (.cells [[vF fs]] false)),(1,some (.cells [[.int .i64 e]] false)),(2,some (.cells [[vI (Qi fs)]] false)),(4,some (.cells R false)),(5,some (.cells [encF (fs.getD i default)] false))],n⟩
theorem F1{l:Stk}{j:Nat}(h:j<l.length):Ye (l.take (j+1))=(Ye (l.take j)||decide (0<(l.getD j default).2)):=by
 rw[List.take_succ_eq_append_getElem h,Ye,Ye,List.any_append]
 simp[List.getD_eq_getElem?_getD,h]
theorem E4{fs:List Fd}{i:Nat}{st:Stk}(h:i<fs.length)(hw:Xa (fs.drop i) i st=(Xa fs 0 []).drop i):(X1 fs).getD i 0=((Zt st).length:Int)∧Xa (fs.drop (i+1)) (i+1) (Zp i (fs.getD i default) (XN (Zt st)))=(Xa fs 0 []).drop (i+1):=by
 have hl:i<(Xa fs 0 []).length:=by rw[Yp];exact h
 rw[Hy h,List.drop_eq_getElem_cons hl]at hw
 injection hw with h1 h2
 refine⟨?_,h2⟩
 rw[X1,List.getD_eq_getElem?_getD,List.getElem?_map,List.getElem?_eq_getElem hl,←h1];rfl
theorem HB{fs:List Fd}{i:Nat}{st:Stk}(h:i<fs.length):Ym (fs.drop i) i st=Ym (fs.drop (i+1)) (i+1) (Zp i (fs.getD i default) (XN (Zt st))):=by
 rw[BD h];rfl
theorem SR[Syms](fs:List Fd)(hF:FsOk fs):
 fnT Q7 cChk (Qx fns) (Qo tys) (Qz plt) 100 83 [vF fs] [] 0 (fun v H _=>v= .int .i64 (Z1 fs)∧H=[]):=by
 have hl:=hF.len
 by_cases hn:fs.length<1∨40<fs.length
 ·have he:Z1 fs=4:=by rw[Z1,if_pos hn]
  rw[he]
  repeat' first|refine And.intro ?_ ?_|(intro h;try first|exact dz|replace h:=cv)
  all_goals try exact cz
  all_goals exact⟨_,Fq rfl rfl,_,rfl,rfl,rfl⟩
 have hk:=hF.kids
 have hpl:=XR fs
 have hlast:Z1 fs=if Zc fs 0 fs.length≠0 then Zc fs 0 fs.length else if Ye (Ym fs 0 [])=true then 1 else 0:=by rw[Z1,if_neg hn]
 repeat' first|refine And.intro ?_ ?_|(intro h;try first|exact dz|replace h:=cv)
 all_goals try exact cz
 refine⟨fs,rfl,hF,?_⟩
 repeat' first|refine And.intro ?_ ?_|(intro h;try first|exact dz|replace h:=cv)
 all_goals try exact cz
 refine⟨fun n s=>∃(i:Nat) (st:Stk),(i≤fs.length∧n=fs.length-i∧Zc fs i (fs.length-i)=Zc fs 0 fs.length∧Xa (fs.drop i) i st=(Xa fs 0 []).drop i∧Ym (fs.drop i) i st=Ym fs 0 []∧(∀p∈st,p.2≤9223372036854775807)∧st.length≤i)∧((st=[]∧s=ckA fs i)∨(∃junk,Qp junk∧s=ckC fs i st junk)),
  ⟨_,ckA fs 0,Q0 [0,1,2,3] rfl ?_ ?_,0,[],⟨by omega,rfl,rfl,rfl,rfl,by simp,by simp⟩,.inl ⟨rfl,rfl⟩⟩,?_⟩
 ·exact⟨.refl _,.refl _,.refl _,.refl _,.refl _,.refl _,.refl _,trivial⟩
 ·exact⟨⟨by decide,_,rfl,.refl _⟩,⟨by decide,_,rfl,.refl _⟩,⟨by decide,_,rfl,.refl _⟩,trivial⟩
 rintro n s ⟨i,st,⟨hi,rfl,hc,hw,hfin,hb,hsl⟩,(⟨rfl,rfl⟩|⟨junk,hj,rfl⟩)⟩
 ·by_cases hin:i<fs.length
  ·have hnm:=hF.name i
   obtain⟨hd,hw'⟩:=E4 hin hw
   rw[HB hin]at hfin
   rw[Jm hin]at hc
   have hdd:((Zt []).length:Int)=0:=rfl
   rw[hdd]at hd
   rw[hd]at hc
   have hps:Zt []=([]:Stk):=rfl
   rw[hps]at hw' hfin
   repeat' first|refine And.intro ?_ ?_|(intro h;try first|exact dz|replace h:=cv)
   all_goals try exact cz
   refine Xo ?_
   repeat' first|refine And.intro ?_ ?_|(intro h;try first|exact dz|replace h:=cv)
   all_goals try exact cz
   refine⟨fs,Qi fs,i,0,rfl,⟨hin,hpl,hl,hnm⟩,?_⟩
   generalize hz:YJ fs (Qi fs) i 0=e at *
   by_cases he:e=0
   ·rw[if_neg (fun h=>h he)]at hc
    subst he
    repeat' first|refine And.intro ?_ ?_|(intro h;try first|exact dz|replace h:=cv)
    all_goals try exact cz
    all_goals refine⟨ckR fs i 0,Q0 [0,1,2,3,4,5] rfl ⟨.refl _,trivial⟩ ⟨⟨by decide,_,rfl,.refl _⟩,⟨by decide,_,rfl,.refl _⟩,⟨by decide,_,rfl,.refl _⟩,⟨by decide,_,rfl,.refl _⟩,trivial⟩,_,rfl,?_⟩
    by_cases hg:(fs.getD i default).kind=0
    · repeat' first|refine And.intro ?_ ?_|(intro h;try first|exact dz|replace h:=cv)
      all_goals try exact cz
      have hpu:Zp i (fs.getD i default) (XN [])=[((i:Int),(fs.getD i default).kids)]:=by rw[Zp,if_pos hg];rfl
      rw[hpu]at hw' hfin
      refine⟨_,ckC fs (i+1) [((i:Int),(fs.getD i default).kids)] [],Q0 [0,1,2,3,7] (by first|rfl|kernel_rfl) ⟨.refl _,.refl _,.refl _,.refl _,.refl _,.refl _,.refl _,trivial⟩ ⟨⟨by decide,_,rfl,.refl _⟩,⟨by decide,_,rfl,.refl _⟩,⟨by decide,_,rfl,.refl _⟩,⟨by decide,_,rfl,Q2 rfl (QA (fG _) QL)⟩,trivial⟩,⟨i+1,_,⟨by omega,rfl,hc,hw',hfin,?_,by simp⟩,.inr ⟨[],QL,rfl⟩⟩,by omega⟩
      intro p hp;simp at hp;subst hp;exact hk i
    · repeat' first|refine And.intro ?_ ?_|(intro h;try first|exact dz|replace h:=cv)
      all_goals try exact cz
      have hpu:Zp i (fs.getD i default) (XN [])=[]:=by rw[Zp,if_neg hg];rfl
      rw[hpu]at hw' hfin
      exact⟨_,ckA fs (i+1),Q0 [0,1,2,3] (by first|rfl|kernel_rfl) ⟨.refl _,.refl _,.refl _,.refl _,.refl _,.refl _,.refl _,trivial⟩ ⟨⟨by decide,_,rfl,.refl _⟩,⟨by decide,_,rfl,.refl _⟩,⟨by decide,_,rfl,.refl _⟩,trivial⟩,⟨i+1,[],⟨by omega,rfl,hc,hw',hfin,by simp,by simp⟩,.inl ⟨rfl,rfl⟩⟩,by omega⟩
   ·rw[if_pos he]at hc
    repeat' first|refine And.intro ?_ ?_|(intro h;try first|exact dz|replace h:=cv)
    all_goals try exact cz
    all_goals refine⟨ckR fs i e,Q0 [0,1,2,3,4,5] rfl ⟨.refl _,trivial⟩ ⟨⟨by decide,_,rfl,.refl _⟩,⟨by decide,_,rfl,.refl _⟩,⟨by decide,_,rfl,.refl _⟩,⟨by decide,_,rfl,.refl _⟩,trivial⟩,_,rfl,?_⟩
    repeat' first|refine And.intro ?_ ?_|(intro h;try first|exact dz|replace h:=cv)
    all_goals try exact cz
    refine⟨_,.refl _ _ _,_,rfl,?_⟩
    repeat' first|refine And.intro ?_ ?_|(intro h;try first|exact dz|replace h:=cv)
    all_goals try exact cz
    rw[if_pos (by rw[←hc];exact he),←hc]at hlast
    rw[hlast]
    exact⟨_,Fq rfl rfl,_,rfl,rfl,rfl⟩
  ·obtain rfl:i=fs.length:=by omega
   rw[List.drop_of_length_le (Nat.le_refl _)]at hfin
   have hc0:Zc fs 0 fs.length=0:=by rw[←hc,Nat.sub_self];rfl
   have hop:Ye (Ym fs 0 [])=false:=by rw[←hfin];rfl
   rw[hc0,hop]at hlast
   rw[show Z1 fs=0 from hlast]
   repeat' first|refine And.intro ?_ ?_|(intro h;try first|exact dz|replace h:=cv)
   all_goals try exact cz
   refine Xo ?_
   repeat' first|refine And.intro ?_ ?_|(intro h;try first|exact dz|replace h:=cv)
   all_goals try exact cz
   refine⟨_,.refl _ _ _,_,rfl,?_⟩
   repeat' first|refine And.intro ?_ ?_|(intro h;try first|exact dz|replace h:=cv)
   all_goals try exact cz
   exact⟨_,Fq rfl rfl,_,rfl,rfl,rfl⟩
 ·by_cases hin:i<fs.length
  ·have hnm:=hF.name i
   obtain⟨hd,hw'⟩:=E4 hin hw
   rw[HB hin]at hfin
   rw[Jm hin,hd]at hc
   repeat' first|refine And.intro ?_ ?_|(intro h;try first|exact dz|replace h:=cv)
   all_goals try exact cz
   refine⟨fun n s=>∃(st1:Stk) (junk1:List (List AVal)) (m:Nat),(n=m∧m=st1.length∧Zt st1=Zt st∧st1.reverse.map encG++junk1=st.reverse.map encG++junk∧Qp junk1∧(∀p∈st1,p.2≤9223372036854775807)∧st1.length≤st.length)∧s=ckI fs i m (st.reverse.map encG++junk),⟨_,ckI fs i st.length (st.reverse.map encG++junk),Q0 [0,1,2,3,4,5] (by first|rfl|kernel_rfl) ⟨.refl _,.refl _,.refl _,.refl _,.refl _,.refl _,.refl _,.refl _,.refl _,trivial⟩ ⟨⟨by decide,_,rfl,.refl _⟩,⟨by decide,_,rfl,.refl _⟩,⟨by decide,_,rfl,.refl _⟩,⟨by decide,_,rfl,Qa (QA (fG _) hj)⟩,⟨by decide,_,rfl,.refl _⟩,trivial⟩,st,junk,st.length,⟨rfl,rfl,rfl,rfl,hj,hb,Nat.le_refl _⟩,rfl⟩,?_⟩
   rintro n s ⟨st1,junk1,m,⟨rfl,hm,hp1,hR,hj1,hb1,hl1⟩,rfl⟩
   generalize st.reverse.map encG++junk=R at hR ⊢
   cases st1 with
   |nil=>
    obtain rfl:n=0:=hm
    have hst:Zt st=[]:=hp1.symm
    have hRf:Qp R:=hR▸QA (fG []) hj1
    have hdd:((Zt st).length:Int)=0:=by rw[hst];rfl
    rw[hdd]at hc
    rw[hst]at hw' hfin
    repeat' first|refine And.intro ?_ ?_|(intro h;try first|exact dz|replace h:=cv)
    all_goals try exact cz
    refine⟨fs,Qi fs,i,0,rfl,⟨hin,hpl,hl,hnm⟩,?_⟩
    generalize hz:YJ fs (Qi fs) i 0=e at *
    by_cases he:e=0
    ·rw[if_neg (fun h=>h he)]at hc
     subst he
     repeat' first|refine And.intro ?_ ?_|(intro h;try first|exact dz|replace h:=cv)
     all_goals try exact cz
     refine⟨RP fs i 6 0 R,Q0 [0,1,2,3,4,5] (by first|rfl|kernel_rfl) ⟨.refl _,trivial⟩ ⟨⟨by decide,_,rfl,.refl _⟩,⟨by decide,_,rfl,.refl _⟩,⟨by decide,_,rfl,.refl _⟩,⟨by decide,_,rfl,Qa hRf⟩,⟨by decide,_,rfl,.refl _⟩,trivial⟩,_,rfl,?_⟩
     by_cases hg:(fs.getD i default).kind=0
     · repeat' first|refine And.intro ?_ ?_|(intro h;try first|exact dz|replace h:=cv)
       all_goals try exact cz
       have hpu:Zp i (fs.getD i default) (XN [])=[((i:Int),(fs.getD i default).kids)]:=by rw[Zp,if_pos hg];rfl
       rw[hpu]at hw' hfin
       refine⟨_,ckC fs (i+1) [((i:Int),(fs.getD i default).kids)] [],Q0 [0,1,2,3,7] (by first|rfl|kernel_rfl) ⟨.refl _,.refl _,.refl _,.refl _,.refl _,.refl _,.refl _,trivial⟩ ⟨⟨by decide,_,rfl,.refl _⟩,⟨by decide,_,rfl,.refl _⟩,⟨by decide,_,rfl,.refl _⟩,⟨by decide,_,rfl,Q2 rfl (QA (fG _) QL)⟩,trivial⟩,⟨i+1,_,⟨by omega,rfl,hc,hw',hfin,?_,by simp⟩,.inr ⟨[],QL,rfl⟩⟩,by omega⟩
       intro p hp;simp at hp;subst hp;exact hk i
     · repeat' first|refine And.intro ?_ ?_|(intro h;try first|exact dz|replace h:=cv)
       all_goals try exact cz
       have hpu:Zp i (fs.getD i default) (XN [])=[]:=by rw[Zp,if_neg hg];rfl
       rw[hpu]at hw' hfin
       exact⟨_,ckC fs (i+1) [] R,Q0 [0,1,2,3,4] (by first|rfl|kernel_rfl) ⟨.refl _,.refl _,.refl _,.refl _,.refl _,.refl _,.refl _,trivial⟩ ⟨⟨by decide,_,rfl,.refl _⟩,⟨by decide,_,rfl,.refl _⟩,⟨by decide,_,rfl,.refl _⟩,⟨by decide,_,rfl,Q2 rfl (QA (fG []) hRf)⟩,trivial⟩,⟨i+1,[],⟨by omega,rfl,hc,hw',hfin,by simp,by simp⟩,.inr ⟨R,hRf,rfl⟩⟩,by omega⟩
    ·rw[if_pos he]at hc
     repeat' first|refine And.intro ?_ ?_|(intro h;try first|exact dz|replace h:=cv)
     all_goals try exact cz
     refine⟨RP fs i 6 e R,Q0 [0,1,2,3,4,5] (by first|rfl|kernel_rfl) ⟨.refl _,trivial⟩ ⟨⟨by decide,_,rfl,.refl _⟩,⟨by decide,_,rfl,.refl _⟩,⟨by decide,_,rfl,.refl _⟩,⟨by decide,_,rfl,Qa hRf⟩,⟨by decide,_,rfl,.refl _⟩,trivial⟩,_,rfl,?_⟩
     repeat' first|refine And.intro ?_ ?_|(intro h;try first|exact dz|replace h:=cv)
     all_goals try exact cz
     refine⟨_,.refl _ _ _,_,rfl,?_⟩
     repeat' first|refine And.intro ?_ ?_|(intro h;try first|exact dz|replace h:=cv)
     all_goals try exact cz
     rw[if_pos (by rw[←hc];exact he),←hc]at hlast
     rw[hlast]
     exact⟨_,Fq rfl rfl,_,rfl,rfl,rfl⟩
   |cons q t=>
    obtain⟨a,k⟩:=q
    obtain rfl:n=t.length+1:=hm
    have hx0:0+((↑(t.length+1):Int)-1).toNat=t.length:=by omega
    have hx1:((↑(t.length+1):Int)-1).toNat=t.length:=by omega
    have hx2:R.getD t.length []=encG (a,k):=by rw[←hR];simp[List.getElem?_append,List.getElem?_map]
    have hRl:t.length<R.length:=by rw[←hR];simp
    have hRf:Qp R:=hR▸QA (fG _) hj1
    have hkb:k≤9223372036854775807:=hb1 (a,k) (List.mem_cons_self ..)
    have htl:t.length+1≤st.length:=hl1
    have hset:∀x,R.set t.length (encG x)=(x::t).reverse.map encG++junk1:=fun x=>by rw[←hR];simp[List.set_append]
    have hv1:asI ((encG (a,k)).getD 1 AVal.any)=k:=rfl
    have hspl:QI (encG (a,k)) (0+1) [.int .i64 (asI ((encG (a,k)).getD (0+1) .any)-1)]=encG (a,k-1):=rfl
    by_cases hk0:k≤0
    · repeat' first|refine And.intro ?_ ?_|(intro h;(try first|replace h:=of_decide_eq_true h|replace h:=of_decide_eq_false h);(try simp only[sg,hx1,hx2]at h);(try simp only[sx,↓reduceIte,Nat.reduceAdd,reduceCtorEq,Int.reduceLT,Int.reduceLE,Int.reduceSub,Nat.reduceEqDiff,Nat.reduceLT]at h);try exact nz h)
      all_goals try exact cz
      all_goals(try(rw[hx0,hx2];exact rfl))
      refine⟨t.length,ckI fs i t.length R,Q0 [0,1,2,3,4,5] (by first|rfl|kernel_rfl) ⟨.refl _,.refl _,.refl _,?_,.refl _,.refl _,.refl _,.refl _,.refl _,trivial⟩ ⟨⟨by decide,_,rfl,.refl _⟩,⟨by decide,_,rfl,.refl _⟩,⟨by decide,_,rfl,.refl _⟩,⟨by decide,_,rfl,Qa hRf⟩,⟨by decide,_,rfl,.refl _⟩,trivial⟩,⟨t,encG (a,k)::junk1,t.length,⟨rfl,rfl,?_,?_,?_,fun p hp=>hb1 p (List.mem_cons_of_mem _ hp),by omega⟩,rfl⟩,by omega⟩
      ·show WkV (.slice 4 (0+0) (((↑(t.length+1):Int)-1).toNat-0) 2 none) _
       rw[hx1]
       exact .refl _
      ·rw[←hp1,Zt,if_pos hk0]
      ·rw[←hR];simp
      ·exact ZM (fun x hx=>by simp[encG]at hx;rcases hx with rfl|rfl<;>rfl) hj1
    ·have hpz:Zt st=(a,k)::t:=by rw[←hp1,Zt,if_neg hk0]
     have hdd:((Zt st).length:Int)=(t.length+1:Nat):=by rw[hpz];rfl
     rw[hdd]at hc
     rw[hpz]at hw' hfin
     repeat' first|refine And.intro ?_ ?_|(intro h;(try first|replace h:=of_decide_eq_true h|replace h:=of_decide_eq_false h);(try simp only[sg,hx1,hx2]at h);(try simp only[sx,↓reduceIte,Nat.reduceAdd,reduceCtorEq,Int.reduceLT,Int.reduceLE,Int.reduceSub,Nat.reduceEqDiff,Nat.reduceLT]at h);try exact nz h)
     all_goals try exact cz
     all_goals(try(rw[hx0,hx2];first|exact rfl|exact Nat.le_of_ble_eq_true rfl|(show(-9223372036854775808:Int)≤k-1;omega)|(show k-1≤(9223372036854775807:Int);omega)))
     refine⟨fs,Qi fs,i,(t.length+1:Nat),rfl,⟨hin,hpl,hl,hnm⟩,?_⟩
     have hR2:R.set (0+((↑(t.length+1):Int)-1).toNat) (QI (R.getD (0+((↑(t.length+1):Int)-1).toNat) []) (0+1) [.int .i64 (asI ((R.getD (0+((↑(t.length+1):Int)-1).toNat) []).getD (0+1) .any)-1)])=((a,k-1)::t).reverse.map encG++junk1:=by rw[hx0,hx2,hspl,hset]
     generalize hz:YJ fs (Qi fs) i (t.length+1:Nat)=e at *
     by_cases he:e=0
     ·rw[if_neg (fun h=>h he)]at hc
      subst he
      repeat' first|refine And.intro ?_ ?_|(intro h;(try first|replace h:=of_decide_eq_true h|replace h:=of_decide_eq_false h);(try simp only[sg,hx1,hx2]at h);(try simp only[sx,↓reduceIte,Nat.reduceAdd,reduceCtorEq,Int.reduceLT,Int.reduceLE,Int.reduceSub,Nat.reduceEqDiff,Nat.reduceLT]at h);try exact nz h)
      all_goals try exact cz
      refine⟨RP fs i 7 0 (((a,k-1)::t).reverse.map encG++junk1),Q0 [0,1,2,3,4,5,6] (by first|rfl|kernel_rfl) ⟨.refl _,trivial⟩ ⟨⟨by decide,_,rfl,.refl _⟩,⟨by decide,_,rfl,.refl _⟩,⟨by decide,_,rfl,.refl _⟩,⟨by decide,_,rfl,Q2 hR2 (QA (fG _) hj1)⟩,⟨by decide,_,rfl,.refl _⟩,trivial⟩,_,rfl,?_⟩
      by_cases hg:(fs.getD i default).kind=0
      · repeat' first|refine And.intro ?_ ?_|(intro h;(try first|replace h:=of_decide_eq_true h|replace h:=of_decide_eq_false h);(try simp only[sg,hx1,hx2]at h);(try simp only[sx,↓reduceIte,Nat.reduceAdd,reduceCtorEq,Int.reduceLT,Int.reduceLE,Int.reduceSub,Nat.reduceEqDiff,Nat.reduceLT]at h);try exact nz h)
        all_goals try exact cz
        ·show 0+(t.length+1)≤_
         simp
        have hpu:Zp i (fs.getD i default) (XN ((a,k)::t))=((i:Int),(fs.getD i default).kids)::(a,k-1)::t:=by rw[Zp,if_pos hg];rfl
        rw[hpu]at hw' hfin
        refine⟨_,ckC fs (i+1) (((i:Int),(fs.getD i default).kids)::(a,k-1)::t) [],Q0 [0,1,2,3,8] (by first|rfl|kernel_rfl) ⟨.refl _,.refl _,.refl _,.refl _,.refl _,.refl _,.refl _,trivial⟩ ⟨⟨by decide,_,rfl,.refl _⟩,⟨by decide,_,rfl,.refl _⟩,⟨by decide,_,rfl,.refl _⟩,⟨by decide,_,rfl,Q2 ?_ (QA (fG _) QL)⟩,trivial⟩,⟨i+1,_,⟨by omega,rfl,hc,hw',hfin,?_,by simp;omega⟩,.inr ⟨[],QL,rfl⟩⟩,by omega⟩
        ·show List.take (t.length+1) (List.drop 0 (((a,k-1)::t).reverse.map encG++junk1))++[encG (i,(fs.getD i default).kids)]=_
         have htk:List.take (t.length+1) (((a,k-1)::t).reverse.map encG++junk1)=((a,k-1)::t).reverse.map encG:=by
          rw[show t.length+1=(((a,k-1)::t).reverse.map encG).length by simp];exact List.take_left
         rw[List.drop_zero,htk]
         simp
        ·intro p hp
         simp at hp
         rcases hp with rfl|rfl|hp
         ·exact hk i
         ·show k-1≤_;omega
         ·exact hb1 p (List.mem_cons_of_mem _ hp)
      · repeat' first|refine And.intro ?_ ?_|(intro h;(try first|replace h:=of_decide_eq_true h|replace h:=of_decide_eq_false h);(try simp only[sg,hx1,hx2]at h);(try simp only[sx,↓reduceIte,Nat.reduceAdd,reduceCtorEq,Int.reduceLT,Int.reduceLE,Int.reduceSub,Nat.reduceEqDiff,Nat.reduceLT]at h);try exact nz h)
        all_goals try exact cz
        have hpu:Zp i (fs.getD i default) (XN ((a,k)::t))=(a,k-1)::t:=by rw[Zp,if_neg hg];rfl
        rw[hpu]at hw' hfin
        refine⟨_,ckC fs (i+1) ((a,k-1)::t) junk1,Q0 [0,1,2,3,4] (by first|rfl|kernel_rfl) ⟨.refl _,.refl _,.refl _,.refl _,.refl _,.refl _,.refl _,trivial⟩ ⟨⟨by decide,_,rfl,.refl _⟩,⟨by decide,_,rfl,.refl _⟩,⟨by decide,_,rfl,.refl _⟩,⟨by decide,_,rfl,Q2 rfl (QA (fG _) hj1)⟩,trivial⟩,⟨i+1,_,⟨by omega,rfl,hc,hw',hfin,?_,by simp;omega⟩,.inr ⟨junk1,hj1,rfl⟩⟩,by omega⟩
        intro p hp
        simp at hp
        rcases hp with rfl|hp
        ·show k-1≤_;omega
        ·exact hb1 p (List.mem_cons_of_mem _ hp)
     ·rw[if_pos he]at hc
      repeat' first|refine And.intro ?_ ?_|(intro h;(try first|replace h:=of_decide_eq_true h|replace h:=of_decide_eq_false h);(try simp only[sg,hx1,hx2]at h);(try simp only[sx,↓reduceIte,Nat.reduceAdd,reduceCtorEq,Int.reduceLT,Int.reduceLE,Int.reduceSub,Nat.reduceEqDiff,Nat.reduceLT]at h);try exact nz h)
      all_goals try exact cz
      refine⟨RP fs i 7 e (((a,k-1)::t).reverse.map encG++junk1),Q0 [0,1,2,3,4,5,6] (by first|rfl|kernel_rfl) ⟨.refl _,trivial⟩ ⟨⟨by decide,_,rfl,.refl _⟩,⟨by decide,_,rfl,.refl _⟩,⟨by decide,_,rfl,.refl _⟩,⟨by decide,_,rfl,Q2 hR2 (QA (fG _) hj1)⟩,⟨by decide,_,rfl,.refl _⟩,trivial⟩,_,rfl,?_⟩
      repeat' first|refine And.intro ?_ ?_|(intro h;(try first|replace h:=of_decide_eq_true h|replace h:=of_decide_eq_false h);(try simp only[sg,hx1,hx2]at h);(try simp only[sx,↓reduceIte,Nat.reduceAdd,reduceCtorEq,Int.reduceLT,Int.reduceLE,Int.reduceSub,Nat.reduceEqDiff,Nat.reduceLT]at h);try exact nz h)
      all_goals try exact cz
      refine⟨_,.refl _ _ _,_,rfl,?_⟩
      repeat' first|refine And.intro ?_ ?_|(intro h;(try first|replace h:=of_decide_eq_true h|replace h:=of_decide_eq_false h);(try simp only[sg,hx1,hx2]at h);(try simp only[sx,↓reduceIte,Nat.reduceAdd,reduceCtorEq,Int.reduceLT,Int.reduceLE,Int.reduceSub,Nat.reduceEqDiff,Nat.reduceLT]at h);try exact nz h)
      all_goals try exact cz
      rw[if_pos (by rw[←hc];exact he),←hc]at hlast
      rw[hlast]
      exact⟨_,Fq rfl rfl,_,rfl,rfl,rfl⟩
  ·obtain rfl:i=fs.length:=by omega
   rw[List.drop_of_length_le (Nat.le_refl _)]at hfin
   have hc0:Zc fs 0 fs.length=0:=by rw[←hc,Nat.sub_self];rfl
   have hop:Ye (Ym fs 0 [])=Ye st:=by rw[←hfin];rfl
   rw[hc0,hop]at hlast
   repeat' first|refine And.intro ?_ ?_|(intro h;try first|exact dz|replace h:=cv)
   all_goals try exact cz
   generalize hR:st.reverse.map encG++junk=R
   have hRl:st.length≤R.length:=by rw[←hR];simp
   have hRf:Qp R:=hR▸QA (fG _) hj
   have hx2:∀j,j<st.length→R.getD j []=encG (st.reverse.getD j default):=fun j h=>by
    have h':j<(st.reverse.map encG).length:=by simp;omega
    rw[←hR,List.getD_eq_getElem?_getD,List.getElem?_append_left h',←List.getD_eq_getElem?_getD]
    exact Xx encG default (by simp;omega)
   refine⟨fun n s=>∃(j:Nat) (b:Bool),(j≤st.length∧n=st.length-j∧b=Ye (st.reverse.take j))∧s=ckJ fs j st R b,⟨_,ckJ fs 0 st R false,Q0 [0,1,2,3,4] (by first|rfl|kernel_rfl) ⟨.refl _,.refl _,.refl _,.refl _,trivial⟩ ⟨⟨by decide,_,rfl,.refl _⟩,⟨by decide,_,rfl,.refl _⟩,⟨by decide,_,rfl,.refl _⟩,⟨by decide,_,rfl,Qa hRf⟩,trivial⟩,0,false,⟨by omega,rfl,rfl⟩,rfl⟩,?_⟩
   rintro n s ⟨j,b,⟨hj0,rfl,hb0⟩,rfl⟩
   by_cases hjn:j<st.length
   · repeat' first|refine And.intro ?_ ?_|(intro h;try first|exact dz|replace h:=cv)
     all_goals try exact cz
     ·show Fb _ _ (R.getD (0+((j:Nat):Int).toNat) []) 0=true
      rw[Nat.zero_add,Int.toNat_natCast,hx2 j hjn];rfl
     ·have hbn:true=Ye (st.reverse.take (j+1)):=by rw[F1 (by simpa using hjn),←hb0,show b=true from ‹_›];rfl
      exact⟨_,ckJ fs (j+1) st R true,Q0 [0,1,2,3,4] (by first|rfl|kernel_rfl) ⟨.refl _,.refl _,.refl _,.refl _,trivial⟩ ⟨⟨by decide,_,rfl,.refl _⟩,⟨by decide,_,rfl,.refl _⟩,⟨by decide,_,rfl,.refl _⟩,⟨by decide,_,rfl,Qa hRf⟩,trivial⟩,⟨j+1,true,⟨by omega,rfl,hbn⟩,rfl⟩,by omega⟩
     ·have hbn:decide (0<(st.reverse.getD j default).2)=Ye (st.reverse.take (j+1)):=by rw[F1 (by simpa using hjn),←hb0,show b=false from ‹_›];rfl
      refine⟨_,ckJ fs (j+1) st R (decide (0<(st.reverse.getD j default).2)),Q0 [0,1,2,3,4] (by first|rfl|kernel_rfl) ⟨ZG ?_,.refl _,.refl _,.refl _,trivial⟩ ⟨⟨by decide,_,rfl,.refl _⟩,⟨by decide,_,rfl,.refl _⟩,⟨by decide,_,rfl,.refl _⟩,⟨by decide,_,rfl,Qa hRf⟩,trivial⟩,⟨j+1,_,⟨by omega,rfl,hbn⟩,rfl⟩,by omega⟩
      show decide (0<asI ((R.getD (0+((j:Nat):Int).toNat) []).getD (0+1) AVal.any))=_
      rw[Nat.zero_add,Int.toNat_natCast,hx2 j hjn];rfl
   ·obtain rfl:j=st.length:=by omega
    have hb1:b=Ye st:=by rw[hb0,List.take_of_length_le (by simp),Ye,Ye,List.any_reverse]
    rw[←hb1]at hlast
    repeat' first|refine And.intro ?_ ?_|(intro h;try first|exact dz|replace h:=cv)
    all_goals try exact cz
    refine⟨_,.refl _ _ _,_,rfl,?_⟩
    cases b
    ·rw[show Z1 fs=0 from hlast]
     repeat' first|refine And.intro ?_ ?_|(intro h;try first|exact dz|replace h:=cv)
     all_goals try exact cz
     exact⟨_,Fq rfl rfl,_,rfl,rfl,rfl⟩
    ·rw[show Z1 fs=1 from hlast]
     repeat' first|refine And.intro ?_ ?_|(intro h;try first|exact dz|replace h:=cv)
     all_goals try exact cz
     exact⟨_,Fq rfl rfl,_,rfl,rfl,rfl⟩
def S_check:SpecI:=fun args K=>∃fs,args=[vF fs]∧FsOk fs∧K (.int .i64 (Z1 fs))
theorem PE[Syms]:Zs Try.prog 83 S_check:=by
 rintro args K ⟨fs,rfl,h,hk⟩
 exact⟨rfl,_,rfl,hk,fnI Qf Qg Q3 Sh Qw (SR fs h)⟩
end
section
set_option maxRecDepth 100000
set_option maxHeartbeats 4000000
abbrev cLp:CallT:=Q6 81 (QG Ep) (Q6 80 (QG Hs) (Q6 82 (QG Mf) (Q6 83 (X0 S_check) Q7)))
theorem Q04[Syms]:cLp.ok Try.prog:=Q4 L3 (Q4 HR (Q4 MH (Qh PE Q9)))
noncomputable def plPs:Nat→Nat→Pl:=XD [(56,8)] (Qz plt)
theorem WP[Syms]{N:Nat}{e:Env}{H:Heap}{nx:Nat}{x:Int}{p:List Fd×Int}{rs:List ResultVar}(h2:(e.get 2).isZ 4=true)(h3:e.get 3= .int .i64 x)(hp:p=([],x))
 (hrs:Ze (Qo tys) ⟨[(2,vF []),(3,.int .i64 x)],[],0⟩ rs=some (.tup [vF [],.int .i64 x])):
 ∃s3,Reb 0 N ⟨e,H,nx⟩ s3∧ ∃v,Ze (Qo tys) s3 rs=some v∧v= .tup [vF p.1,.int .i64 p.2]∧s3.heap=[]:=by
 subst hp
 refine⟨⟨[(2,vF []),(3,.int .i64 x)],[],0⟩,(Xm (k:=2) (y:=vF []) fun ι v hv=>.vt _ _ _ _ (RelV.isZ (sz:=4) h2 hv)).trans ?_,_,hrs,rfl,rfl⟩
 refine(Wt (e3:=[(2,vF []),(3,.int .i64 x)]) (H3:=[]) (fun j=>?_) (fun n b h=>by rw[Heap.get_nil]at h;cases h)).trans (Q1 [2,3] rfl)
 rw[Env.get_cons,Env.get_cons,Env.get_cons]
 by_cases h:j=2
 ·subst h;exact .inr rfl
 ·rw[QP h]
  by_cases h:j=3
  ·subst h;exact .inr h3
  ·rw[QP h];exact .inl (Env.get_nil j)
theorem Tu[Syms]{N n:Nat}{e:Env}{H:Heap}{nx:Nat}{fs:List Fd}{rows:List (List AVal)}{len:Nat}{rs:List ResultVar}(h2:e.get 2= .slice n 0 len 4 none)(h3:e.get 3= .int .i64 0)(hb:H.get n=some (.cells rows false))(hr:rows=fs.map encF)(hl:len=fs.length)
 (hrs:Ze (Qo tys) ⟨[(2,vF fs),(3,.int .i64 0)],[],0⟩ rs=some (.tup [vF fs,.int .i64 0])):
 ∃s3,Reb 0 N ⟨e,H,nx⟩ s3∧ ∃v,Ze (Qo tys) s3 rs=some v∧v= .tup [vF fs,.int .i64 0]∧s3.heap=[]:=by
 subst hr hl
 refine⟨⟨[(2,vF fs),(3,.int .i64 0)],[],0⟩,(Xy (enc:=encF) default (l:=fs) [(3,.int .i64 0)] [] h2 hb (fF fs) (List.take_of_length_le (by simp)) (by simp) (by simpa using h3) (fun n b h=>by rw[Heap.get_nil]at h;cases h)).trans (Q1 [2,3] rfl),_,hrs,rfl,rfl⟩
theorem Cs[Syms]{N:Nat}{e:Env}{H:Heap}{nx:Nat}{fs:List Fd}{r:BR}{b0 b:Bool}(h4:e.get 4= .ptr 0 0 0)(h6:e.get 6= .slice 1 0 fs.length 4 none)(h35:e.get 35= .bool b0)(hb0:b0=b)(H0:H.get 0=rdB r)(H1:H.get 1=some (.cells (fs.map encF) false))(hn:QJ 0 nx [0]=true):
 Reb 0 N ⟨e,H,nx⟩ ⟨[(4,.ptr 0 0 0),(6,vF fs),(35,.bool b)],[(0,rdB r)],1⟩:=by
 subst hb0
 refine(Xy (enc:=encF) default (l:=fs) [(4,.ptr 0 0 0),(35,.bool b0)] [(0,rdB r)] h6 H1 (fF fs) (List.take_of_length_le (by simp)) (by simp) (by simp[h4,h35]) (fun n b h=>?_)).trans (Q0 [0] hn ⟨.refl _,.refl _,.refl _,trivial⟩ ⟨⟨by decide,_,rfl,.refl _⟩,trivial⟩)
 rw[Heap.get_cons]at h
 by_cases hz:n=0
 ·subst hz;rw[Heap.get_set_ne _ _ (by decide)];rw[H0];exact h
 ·rw[QP hz]at h;rw[show(bif false then rdB r else Heap.get [] n)=none from Heap.get_nil n]at h;cases h
theorem Dn[Syms]{N:Nat}{e:Env}{H:Heap}{nx:Nat}{r:BR}{b0 b:Bool}(h4:e.get 4= .ptr 0 0 0)(h6:e.get 6= .nils)(h35:e.get 35= .bool b0)(hb0:b0=b)(H0:H.get 0=rdB r)(hn:QJ 0 nx [0]=true):
 Reb 0 N ⟨e,H,nx⟩ ⟨[(4,.ptr 0 0 0),(6,vF []),(35,.bool b)],[(0,rdB r)],1⟩:=by
 subst hb0
 refine(Xm (k:=6) (y:=vF []) fun ι v hv=>.vt _ _ _ _ (RelV.isZ (sz:=4) (by rw[h6];rfl) hv)).trans (Q0 [0] hn ⟨?_,.refl _,?_,trivial⟩ ⟨⟨by decide,_,H0,.refl _⟩,trivial⟩)
 ·rw[Env.get_cons,QP (by decide)];show WkV (e.get 4) _;rw[h4];exact .refl _
 ·rw[Env.get_cons,QP (by decide)];show WkV (e.get 35) _;rw[h35];exact .refl _
def V8(fs:List Fd)(r:BR):List Fd×Int:=
 let r':=if(BC (fs,r)).e=0 then Qy (BC (fs,r)) (Z1 fs)else BC (fs,r)
 if r'.e≠0 then([],r'.e)else(fs,0)
theorem VF{fs:List Fd}{r:BR}(h:r.e≠0):V8 fs r=([],r.e):=by
 have hf:Qy r 9=r:=if_neg h
 have he:BC (fs,r)=r:=by
  unfold BC
  show(if r.b≠[]then Qy r 9 else r)=r
  rw[hf];split<;>rfl
 unfold V8
 rw[he,if_neg h,if_pos h]
theorem Kp{fs:List Fd}{b:List UInt8}(h:b≠[]):V8 fs ⟨b,0⟩=([],9):=by
 unfold V8 BC
 simp only[if_pos h]
 rfl
theorem G5{fs:List Fd}:V8 fs ⟨[],0⟩=if Z1 fs≠0 then([],Z1 fs)else(fs,0):=rfl
def Wh(fs:List Fd):Prop:=∀f∈fs,(0≤f.rep∧f.rep<256)∧(0≤f.kind∧f.kind<256)∧(0≤f.kids∧f.kids≤40)∧f.name.length≤12
theorem Wh.fs{fs:List Fd}(h:Wh fs)(hl:fs.length≤40):FsOk fs:=by
 have key:∀i,fs.getD i default∈fs∨fs.getD i default=default:=fun i=>by
  rcases Nat.lt_or_ge i fs.length with h'|h'
  ·left;rw[List.getD_eq_getElem?_getD,List.getElem?_eq_getElem h'];exact List.getElem_mem h'
  ·right;rw[List.getD_eq_getElem?_getD,List.getElem?_eq_none h'];rfl
 refine⟨by omega,fun i=>?_,fun i=>?_⟩
 ·rcases key i with k|k
  ·have:=(h _ k).2.2.1;omega
  ·rw[k];decide
 ·rcases key i with k|k
  ·have:=(h _ k).2.2.2;omega
  ·rw[k];decide
theorem M9(n:Nat)(r:BR):(Z6 n r).1<256^n:=by
 have h1:=JV (QF n r).1
 have h2:=KJ n r
 have h3:256^(QF n r).1.length≤256^n:=Nat.pow_le_pow_right (by decide) h2
 show leV (QF n r).1<_
 omega
theorem LG(r:BR):((0≤(fieldR r).1.rep∧(fieldR r).1.rep<256)∧(0≤(fieldR r).1.kind∧(fieldR r).1.kind<256)∧(0≤(fieldR r).1.kids∧(fieldR r).1.kids≤40)∧(fieldR r).1.name.length≤12):=by
 have h1:=M9 1 r
 have h2:=M9 1 (Z6 1 r).2
 have h3:=Zr (m:=40) (w:=14) (by decide) (Z6 1 (Z6 1 r).2).2
 have h4:=Zr (m:=12) (w:=5) (by decide) (QD 40 14 (Z6 1 (Z6 1 r).2).2).2
 have h5:=KJ (QD 12 5 (QD 40 14 (Z6 1 (Z6 1 r).2).2).2).1 (QD 12 5 (QD 40 14 (Z6 1 (Z6 1 r).2).2).2).2
 refine⟨⟨?_,?_⟩,⟨?_,?_⟩,⟨?_,?_⟩,?_⟩
 ·show(0:Int)≤((Z6 1 r).1:Nat);omega
 ·show(((Z6 1 r).1:Nat):Int)<256;omega
 ·show(0:Int)≤((Z6 1 (Z6 1 r).2).1:Nat);omega
 ·show(((Z6 1 (Z6 1 r).2).1:Nat):Int)<256;omega
 ·show(0:Int)≤((QD 40 14 (Z6 1 (Z6 1 r).2).2).1:Nat);omega
 ·show(((QD 40 14 (Z6 1 (Z6 1 r).2).2).1:Nat):Int)≤40;omega
 ·exact Nat.le_trans h5 h4
theorem Wh.snoc{fs:List Fd}(h:Wh fs)(r:BR):Wh (fs++[(fieldR r).1]):=fun f hf=>by
 rcases List.mem_append.1 hf with k|k
 ·exact h f k
 ·rw[List.mem_singleton.1 k];exact LG r
theorem Q0m[Syms](b:List UInt8)(hl:b.length≤1000000)(A:AVal)(hA:A= .tup [vF (ZD b).1,.int .i64 (ZD b).2]):
 fnT Q7 cLp (Qx fns) (Qo tys) plPs 100 56 [vB b] [] 0 (fun v H _=>v=A∧H=[]):=by
 refine⟨[0],[.ptr 0 0 0,.int .i64 ((40:Nat):Int),.int .i64 4],[(0,rdB ⟨b,0⟩)],rfl,⟨.refl _,.refl _,.refl _,trivial⟩,⟨⟨by decide,_,rfl,.refl _⟩,trivial⟩,⟨b,0⟩,40,4,rfl,rfl,rfl,⟨hl,by omega,by decide⟩,?_⟩
 have l0:=QR 40 4 ⟨b,0⟩
 have hn40:=Zr (m:=40) (w:=4) (by decide) ⟨b,0⟩
 replace hA:A= .tup [vF (V8 (Zi (QD 40 4 ⟨b,0⟩).1 (QD 40 4 ⟨b,0⟩).2 []).1 (Zi (QD 40 4 ⟨b,0⟩).1 (QD 40 4 ⟨b,0⟩).2 []).2).1,.int .i64 (V8 (Zi (QD 40 4 ⟨b,0⟩).1 (QD 40 4 ⟨b,0⟩).2 []).1 (Zi (QD 40 4 ⟨b,0⟩).1 (QD 40 4 ⟨b,0⟩).2 []).2).2]:=hA
 generalize QD 40 4 ⟨b,0⟩=q at *
 obtain⟨n,r0⟩:=q
 have l0:r0.b.length≤b.length:=l0
 have hn40:n≤40:=hn40
 repeat' first|refine And.intro ?_ ?_|(intro h;try first|exact dz|replace h:=cv)
 all_goals try exact cz
 refine⟨fun m s=>∃(i:Nat) (r:BR) (fs:List Fd),(i≤n∧m=n-i∧fs.length=i∧r.b.length≤b.length∧Wh fs∧Zi (n-i) r fs=Zi n r0 [])∧(s=prS r n i fs∧0<i∨s=prN r n∧i=0),⟨_,prN r0 n,Q0 [0] (by first|rfl|kernel_rfl) ⟨.refl _,.refl _,.refl _,.refl _,trivial⟩ ⟨⟨by decide,_,rfl,.refl _⟩,trivial⟩,0,r0,[],⟨by omega,rfl,rfl,l0,(fun f hf=>nomatch hf),rfl⟩,.inr ⟨rfl,rfl⟩⟩,?_⟩
 rintro m s ⟨i,r,fs,⟨hi,rfl,hfl,hrl,hfo,hfr⟩,⟨rfl,hi0⟩|⟨rfl,rfl⟩⟩
 ·by_cases h1:i<n∧r.e=0
  ·obtain⟨h1,h2⟩:=h1
   repeat' first|refine And.intro ?_ ?_|(intro h;try first|exact dz|replace h:=cv)
   all_goals try exact cz
   refine⟨[0],[.ptr 0 0 0],[(0,rdB r)],rfl,⟨.refl _,trivial⟩,⟨⟨by decide,_,rfl,.refl _⟩,trivial⟩,r,rfl,rfl,rfl,by omega,?_⟩
   have hfs:=J7 (n-(i+1)) r fs h2
   have hfl2:=Fu r
   have hfo2:=hfo.snoc r
   generalize fieldR r=q at *
   obtain⟨f,r2⟩:=q
   have hlen:fs.length≤1000000:=by omega
   have hst:n-i=n-(i+1)+1:=by omega
   have hfl2:r2.b.length≤r.b.length:=hfl2
   repeat' first|refine And.intro ?_ ?_|(intro h;try first|exact dz|replace h:=cv)
   all_goals try exact cz
   refine⟨_,prS r2 n (i+1) (fs++[f]),Q0 [0,5] (by first|rfl|kernel_rfl) ⟨.refl _,.refl _,Q8 (by simp),Qm (by omega),trivial⟩ ⟨⟨by decide,_,rfl,.refl _⟩,⟨by decide,_,rfl,Q2 ?_ (fF _)⟩,trivial⟩,⟨i+1,r2,fs++[f],⟨by omega,rfl,by simp;omega,by omega,hfo2,?_⟩,.inl ⟨rfl,by omega⟩⟩,by omega⟩
   ·show List.take fs.length (List.drop 0 (fs.map encF))++[encF f]=_
    rw[List.drop_zero,List.take_of_length_le (by simp),List.map_append];rfl
   ·rw[←hfr,hst,hfs]
  ·have hfe:Zi n r0 []=(fs,r):=by
    rw[←hfr]
    by_cases h2:r.e=0
    ·have:n-i=0:=by omega
     rw[this];rfl
    ·exact J6 _ _ _ h2
   rw[hfe]at hA
   replace hA:A= .tup [vF (V8 fs r).1,.int .i64 (V8 fs r).2]:=hA
   have hfk:=hfo.fs (by omega)
   clear hfr hfe
   by_cases hb:r.b=[]
   · repeat' first|refine And.intro ?_ ?_|(intro h;try first|exact dz|replace h:=cv)
     all_goals try exact cz
     all_goals(refine⟨_,Cs (b:=false) rfl rfl rfl (by rw[hb];rfl) rfl rfl rfl,?_⟩)
     all_goals(obtain⟨b',e'⟩:=r;have hb:b'=[]:=hb;subst hb)
     all_goals(
      by_cases he:e'=0
      ·subst he
       rw[G5]at hA
       repeat' first|refine And.intro ?_ ?_|(intro h;try first|exact dz|replace h:=cv)
       all_goals try exact cz
       refine⟨_,rfl,hfk,?_⟩
       repeat' first|refine And.intro ?_ ?_|(intro h;try first|exact dz|replace h:=cv)
       all_goals try exact cz
       refine⟨[0],[.ptr 0 0 0,.int .i64 (Z1 fs)],[(0,rdB ⟨[],0⟩)],rfl,⟨.refl _,.refl _,trivial⟩,⟨⟨by decide,_,rfl,.refl _⟩,trivial⟩,⟨[],0⟩,Z1 fs,rfl,rfl,rfl,?_⟩
       rw[show Qy ⟨[],0⟩ (Z1 fs)=⟨[],Z1 fs⟩ from rfl,show rdB ⟨[],Z1 fs⟩=some (.cells [[vB [],.int .i64 (Z1 fs)]] false) from rfl]
       have hx1:=fun ρ=>YB ρ [] (Z1 fs)
       have hx2:=hx1
       have hx3:=hx1
       have hx4:=hx1
       by_cases hc:Z1 fs=0
       ·rw[if_neg (fun h=>h hc)]at hA
        subst hA
        repeat' first|refine And.intro ?_ ?_|(intro h;try first|exact dzi|replace h:=cvi)
        all_goals try exact cz
        ·show Yo 4 (Zq fs.length fun i=>encF (fs.getD i default))=true
         rw[Zx encF default fs];exact Z0 (enc:=encF) (z:=4) (fun _=>rfl) _
        ·have hz:fs=[]:=List.eq_nil_of_length_eq_zero (by rw[Ql]at h;exact h)
         subst hz
         exact WP (p:=([],0)) rfl rfl rfl rfl
        ·show(Zq fs.length fun i=>encF (fs.getD i default)).length*40≤_
         rw[Ql];omega
        ·show(Zq fs.length fun i=>encF (fs.getD i default)).length≤_
         rw[Ql];omega
        ·exact Tu rfl rfl rfl (Zx encF default fs) (Ql _ _) rfl
       ·rw[if_pos hc]at hA
        subst hA
        repeat' first|refine And.intro ?_ ?_|(intro h;try first|exact dzi|replace h:=cvi)
        all_goals try exact cz
        exact WP (p:=([],Z1 fs)) rfl rfl rfl rfl
      ·rw[VF (show(BR.mk [] e').e≠0 from he)]at hA
       subst hA
       repeat' first|refine And.intro ?_ ?_|(intro h;try first|exact dz|replace h:=cv)
       all_goals try exact cz
       exact WP (p:=([],e')) rfl rfl rfl rfl)
   · repeat' first|refine And.intro ?_ ?_|(intro h;try first|exact dz|replace h:=cv)
     all_goals try exact cz
     all_goals(refine⟨_,Cs (b:=true) rfl rfl rfl (decide_eq_true (by have:=List.length_pos_iff.2 hb;omega)) rfl rfl rfl,?_⟩)
     all_goals(obtain⟨b',e'⟩:=r;have hb:b'≠[]:=hb)
     all_goals(
      repeat' first|refine And.intro ?_ ?_|(intro h;try first|exact dz|replace h:=cv)
      all_goals try exact cz
      refine⟨[0],[.ptr 0 0 0,.int .i64 9],[(0,rdB ⟨b',e'⟩)],rfl,⟨.refl _,.refl _,trivial⟩,⟨⟨by decide,_,rfl,.refl _⟩,trivial⟩,⟨b',e'⟩,9,rfl,rfl,rfl,?_⟩
      by_cases he:e'=0
      ·subst he
       rw[Kp hb]at hA
       subst hA
       rw[show Qy ⟨b',0⟩ 9=⟨b',9⟩ from rfl,show rdB ⟨b',9⟩=some (.cells [[vB b',.int .i64 9]] false) from rfl]
       have hx1:=fun ρ=>YB ρ b' 9
       have hx2:=hx1
       have hx3:=hx1
       have hx4:=hx1
       repeat' first|refine And.intro ?_ ?_|(intro h;try first|exact dzi|replace h:=cvi)
       all_goals try exact cz
       exact WP (p:=([],9)) rfl rfl rfl rfl
      ·rw[VF (show(BR.mk b' e').e≠0 from he)]at hA
       subst hA
       rw[show Qy ⟨b',e'⟩ 9=⟨b',e'⟩ from if_neg he,show rdB ⟨b',e'⟩=some (.cells [[vB b',.int .i64 e']] false) from rfl]
       have hx1:=fun ρ=>YB ρ b' e'
       have hx2:=hx1
       have hx3:=hx1
       have hx4:=hx1
       repeat' first|refine And.intro ?_ ?_|(intro h;try first|exact dzi|replace h:=cvi)
       all_goals try exact cz
       exact WP (p:=([],e')) rfl rfl rfl rfl)
 ·have hfl0:fs=[]:=List.eq_nil_of_length_eq_zero hfl
  subst hfl0
  by_cases h1:0<n∧r.e=0
  ·obtain⟨h1,h2⟩:=h1
   repeat' first|refine And.intro ?_ ?_|(intro h;try first|exact dz|replace h:=cv)
   all_goals try exact cz
   refine⟨[0],[.ptr 0 0 0],[(0,rdB r)],rfl,⟨.refl _,trivial⟩,⟨⟨by decide,_,rfl,.refl _⟩,trivial⟩,r,rfl,rfl,rfl,by omega,?_⟩
   have hfs:=J7 (n-1) r [] h2
   have hfl2:=Fu r
   have hfo2:=hfo.snoc r
   generalize fieldR r=q at *
   obtain⟨f,r2⟩:=q
   have hst:n-0=n-1+1:=by omega
   have hfl2:r2.b.length≤r.b.length:=hfl2
   repeat' first|refine And.intro ?_ ?_|(intro h;try first|exact dz|replace h:=cv)
   all_goals try exact cz
   refine⟨_,prS r2 n 1 [f],Q0 [0,4] (by first|rfl|kernel_rfl) ⟨.refl _,.refl _,Q8 rfl,Qm (by rfl),trivial⟩ ⟨⟨by decide,_,rfl,.refl _⟩,⟨by decide,_,rfl,Q2 ?_ (fF _)⟩,trivial⟩,⟨1,r2,[f],⟨by omega,rfl,rfl,by omega,hfo2,?_⟩,.inl ⟨rfl,by omega⟩⟩,by omega⟩
   ·rfl
   ·rw[←hfr,hst,hfs];rfl
  ·have hfe:Zi n r0 []=([],r):=by
    rw[←hfr]
    by_cases h2:r.e=0
    ·have:n-0=0:=by omega
     rw[this];rfl
    ·exact J6 _ _ _ h2
   rw[hfe]at hA
   replace hA:A= .tup [vF (V8 [] r).1,.int .i64 (V8 [] r).2]:=hA
   have hfk:=hfo.fs (by omega)
   clear hfr hfe
   by_cases hb:r.b=[]
   · repeat' first|refine And.intro ?_ ?_|(intro h;try first|exact dz|replace h:=cv)
     all_goals try exact cz
     all_goals(refine⟨_,Dn (b:=false) rfl rfl rfl (by rw[hb];rfl) rfl rfl,?_⟩)
     all_goals(obtain⟨b',e'⟩:=r;have hb:b'=[]:=hb;subst hb)
     all_goals(
      by_cases he:e'=0
      ·subst he
       rw[G5]at hA
       repeat' first|refine And.intro ?_ ?_|(intro h;try first|exact dz|replace h:=cv)
       all_goals try exact cz
       refine⟨_,rfl,hfk,?_⟩
       repeat' first|refine And.intro ?_ ?_|(intro h;try first|exact dz|replace h:=cv)
       all_goals try exact cz
       refine⟨[0],[.ptr 0 0 0,.int .i64 (Z1 [])],[(0,rdB ⟨[],0⟩)],rfl,⟨.refl _,.refl _,trivial⟩,⟨⟨by decide,_,rfl,.refl _⟩,trivial⟩,⟨[],0⟩,Z1 [],rfl,rfl,rfl,?_⟩
       rw[show Qy ⟨[],0⟩ (Z1 [])=⟨[],Z1 []⟩ from rfl,show rdB ⟨[],Z1 []⟩=some (.cells [[vB [],.int .i64 (Z1 [])]] false) from rfl]
       have hx1:=fun ρ=>YB ρ [] (Z1 [])
       have hx2:=hx1
       have hx3:=hx1
       have hx4:=hx1
       by_cases hc:Z1 []=0
       ·exact absurd hc (by decide)
       ·rw[if_pos hc]at hA
        subst hA
        repeat' first|refine And.intro ?_ ?_|(intro h;try first|exact dzi|replace h:=cvi)
        all_goals try exact cz
        exact WP (p:=([],Z1 [])) rfl rfl rfl rfl
      ·rw[VF (show(BR.mk [] e').e≠0 from he)]at hA
       subst hA
       repeat' first|refine And.intro ?_ ?_|(intro h;try first|exact dz|replace h:=cv)
       all_goals try exact cz
       exact WP (p:=([],e')) rfl rfl rfl rfl)
   · repeat' first|refine And.intro ?_ ?_|(intro h;try first|exact dz|replace h:=cv)
     all_goals try exact cz
     all_goals(refine⟨_,Dn (b:=true) rfl rfl rfl (decide_eq_true (by have:=List.length_pos_iff.2 hb;omega)) rfl rfl,?_⟩)
     all_goals(obtain⟨b',e'⟩:=r;have hb:b'≠[]:=hb)
     all_goals(
      repeat' first|refine And.intro ?_ ?_|(intro h;try first|exact dz|replace h:=cv)
      all_goals try exact cz
      refine⟨[0],[.ptr 0 0 0,.int .i64 9],[(0,rdB ⟨b',e'⟩)],rfl,⟨.refl _,.refl _,trivial⟩,⟨⟨by decide,_,rfl,.refl _⟩,trivial⟩,⟨b',e'⟩,9,rfl,rfl,rfl,?_⟩
      by_cases he:e'=0
      ·subst he
       rw[Kp hb]at hA
       subst hA
       rw[show Qy ⟨b',0⟩ 9=⟨b',9⟩ from rfl,show rdB ⟨b',9⟩=some (.cells [[vB b',.int .i64 9]] false) from rfl]
       have hx1:=fun ρ=>YB ρ b' 9
       have hx2:=hx1
       have hx3:=hx1
       have hx4:=hx1
       repeat' first|refine And.intro ?_ ?_|(intro h;try first|exact dzi|replace h:=cvi)
       all_goals try exact cz
       exact WP (p:=([],9)) rfl rfl rfl rfl
      ·rw[VF (show(BR.mk b' e').e≠0 from he)]at hA
       subst hA
       rw[show Qy ⟨b',e'⟩ 9=⟨b',e'⟩ from if_neg he,show rdB ⟨b',e'⟩=some (.cells [[vB b',.int .i64 e']] false) from rfl]
       have hx1:=fun ρ=>YB ρ b' e'
       have hx2:=hx1
       have hx3:=hx1
       have hx4:=hx1
       repeat' first|refine And.intro ?_ ?_|(intro h;try first|exact dzi|replace h:=cvi)
       all_goals try exact cz
       exact WP (p:=([],e')) rfl rfl rfl rfl)
def S_prs:SpecI:=fun args K=>∃b,args=[vB b]∧b.length≤1000000∧K (.tup [vF (ZD b).1,.int .i64 (ZD b).2])
theorem T8[Syms]:Zs Try.prog 56 S_prs:=by
 rintro args K ⟨b,rfl,h,hk⟩
 exact⟨rfl,_,rfl,hk,fnI Qf Qg Q3 Q04 Qw (Q0m b h _ rfl)⟩
end
section
set_option maxRecDepth 100000
set_option maxHeartbeats 4000000
def nuB:List Int→List UInt8
 |[]=>[]
 |x::l=>Y9 x.toNat++nuB l
theorem wrU{x:Int}(h:0≤x∧x<128^9):wr .u64 x=((x.toNat:Nat):Int):=by
 refine(if_pos ⟨by show(0:Int)≤_;omega,by show _≤(18446744073709551615:Int);omega⟩).trans ?_
 omega
end
structure Vl where
 n:Int
 s:List UInt8
 deriving Inhabited
structure Sta where
 nulls:Int
 has:Bool
 mn:Vl
 mx:Vl
 deriving Inhabited
structure Pg where
 rows:Int
 cells:Int
 enc:Int
 rlen:Int
 dlen:Int
 vlen:Int
 crc:Int
 deriving Inhabited
structure Ck where
 words:Int
 size:Int
 crc:Int
 pages:List Pg
 known:Bool
 st:Sta
 deriving Inhabited
structure Rw where
 n:Int
 chunks:List Ck
 deriving Inhabited
structure Mt where
 s:List Fd
 n:Int
 groups:List Rw
 deriving Inhabited
def ZX(v:Vl):List AVal:=[.int .i64 v.n,.str v.s]
def encP(p:Pg):List AVal:=[.int .i64 p.rows,.int .i64 p.cells,.int .i64 p.enc,.int .i64 p.rlen,.int .i64 p.dlen,.int .i64 p.vlen,.int .u32 p.crc]
def encC(c:Ck):List AVal:=[.int .i64 c.words,.int .i64 c.size,.int .u32 c.crc,.vs 7 (c.pages.map encP),.bool c.known,.int .i64 c.st.nulls,.bool c.st.has,.int .i64 c.st.mn.n,.str c.st.mn.s,.int .i64 c.st.mx.n,.str c.st.mx.s]
def encR(r:Rw):List AVal:=[.int .i64 r.n,.vs 11 (r.chunks.map encC)]
def Qv(m:Mt):List AVal:=[.vs 4 (m.s.map encF),.int .i64 m.n,.vs 2 (m.groups.map encR)]
abbrev vP(l:List Pg):AVal:=vT 7 encP default l
abbrev vC(l:List Ck):AVal:=vT 11 encC default l
abbrev vR(l:List Rw):AVal:=vT 2 encR default l
theorem fP(l:List Pg):Qp (l.map encP):=XV (fun a x hx=>by simp[encP]at hx;rcases hx with rfl|rfl|rfl|rfl|rfl|rfl|rfl<;>rfl) l
theorem fC(l:List Ck):Qp (l.map encC):=XV (fun a x hx=>by simp[encC]at hx;rcases hx with rfl|rfl|rfl|rfl|rfl|rfl|rfl|rfl|rfl|rfl|rfl<;>rfl) l
theorem fR(l:List Rw):Qp (l.map encR):=XV (fun a x hx=>by simp[encR]at hx;rcases hx with rfl|rfl<;>rfl) l
theorem sq:(∀p,(encP p).getD 0 .any= .int .i64 p.rows)∧(∀p,(encP p).getD 1 .any= .int .i64 p.cells)∧(∀p,(encP p).getD 2 .any= .int .i64 p.enc)∧(∀p,(encP p).getD 3 .any= .int .i64 p.rlen)∧(∀p,(encP p).getD 4 .any= .int .i64 p.dlen)∧(∀p,(encP p).getD 5 .any= .int .i64 p.vlen)∧(∀p,(encP p).getD 6 .any= .int .u32 p.crc)∧(∀c,(encC c).getD 0 .any= .int .i64 c.words)∧(∀c,(encC c).getD 1 .any= .int .i64 c.size)∧(∀c,(encC c).getD 2 .any= .int .u32 c.crc)∧(∀c,(encC c).getD 3 .any= .vs 7 (c.pages.map encP))∧(∀c,(encC c).getD 4 .any= .bool c.known)∧(∀c,(encC c).getD 5 .any= .int .i64 c.st.nulls)∧(∀c,(encC c).getD 6 .any= .bool c.st.has)∧(∀c,(encC c).getD 7 .any= .int .i64 c.st.mn.n)∧(∀c,(encC c).getD 8 .any= .str c.st.mn.s)∧(∀c,(encC c).getD 9 .any= .int .i64 c.st.mx.n)∧(∀c,(encC c).getD 10 .any= .str c.st.mx.s)∧(∀r,(encR r).getD 0 .any= .int .i64 r.n)∧(∀r,(encR r).getD 1 .any= .vs 11 (r.chunks.map encC))∧(∀v,(ZX v).getD 0 .any= .int .i64 v.n)∧(∀v,(ZX v).getD 1 .any= .str v.s)∧(∀p,(encP p).getD (0+0) .any= .int .i64 p.rows)∧(∀p,(encP p).getD (0+1) .any= .int .i64 p.cells)∧(∀p,(encP p).getD (0+2) .any= .int .i64 p.enc)∧(∀p,(encP p).getD (0+3) .any= .int .i64 p.rlen)∧(∀p,(encP p).getD (0+4) .any= .int .i64 p.dlen)∧(∀p,(encP p).getD (0+5) .any= .int .i64 p.vlen)∧(∀p,(encP p).getD (0+6) .any= .int .u32 p.crc)∧(∀c,(encC c).getD (0+0) .any= .int .i64 c.words)∧(∀c,(encC c).getD (0+1) .any= .int .i64 c.size)∧(∀c,(encC c).getD (0+2) .any= .int .u32 c.crc)∧(∀c,(encC c).getD (0+3) .any= .vs 7 (c.pages.map encP))∧(∀c,(encC c).getD (0+4) .any= .bool c.known)∧(∀c,(encC c).getD (0+5) .any= .int .i64 c.st.nulls)∧(∀c,(encC c).getD (0+6) .any= .bool c.st.has)∧(∀c,(encC c).getD (0+7) .any= .int .i64 c.st.mn.n)∧(∀c,(encC c).getD (0+8) .any= .str c.st.mn.s)∧(∀c,(encC c).getD (0+9) .any= .int .i64 c.st.mx.n)∧(∀c,(encC c).getD (0+10) .any= .str c.st.mx.s)∧(∀r,(encR r).getD (0+0) .any= .int .i64 r.n)∧(∀r,(encR r).getD (0+1) .any= .vs 11 (r.chunks.map encC))∧(∀v,(ZX v).getD (0+0) .any= .int .i64 v.n)∧(∀v,(ZX v).getD (0+1) .any= .str v.s)∧(∀z r,asR (.vs z r)=r):=
 ⟨fun _=>rfl,fun _=>rfl,fun _=>rfl,fun _=>rfl,fun _=>rfl,fun _=>rfl,fun _=>rfl,fun _=>rfl,fun _=>rfl,fun _=>rfl,fun _=>rfl,fun _=>rfl,fun _=>rfl,fun _=>rfl,fun _=>rfl,fun _=>rfl,fun _=>rfl,fun _=>rfl,fun _=>rfl,fun _=>rfl,fun _=>rfl,fun _=>rfl,fun _=>rfl,fun _=>rfl,fun _=>rfl,fun _=>rfl,fun _=>rfl,fun _=>rfl,fun _=>rfl,fun _=>rfl,fun _=>rfl,fun _=>rfl,fun _=>rfl,fun _=>rfl,fun _=>rfl,fun _=>rfl,fun _=>rfl,fun _=>rfl,fun _=>rfl,fun _=>rfl,fun _=>rfl,fun _=>rfl,fun _=>rfl,fun _=>rfl,fun _ _=>rfl⟩
theorem dzq{q:Prop}(e:q:=by(try first|replace h:=of_decide_eq_true h|replace h:=of_decide_eq_false h);(try simp only[sg,sq]at h);(try simp only[sx,↓reduceIte,Nat.reduceAdd,reduceCtorEq,Int.reduceLT,Int.reduceLE,Int.reduceSub,Nat.reduceEqDiff,Nat.reduceLT]at h);first|done|exact nz h):q:=e
theorem cvq{q:Prop}(e:q:=by(try first|replace h:=of_decide_eq_true h|replace h:=of_decide_eq_false h);(try simp only[sg,sq]at h);(try simp only[sx,↓reduceIte,Nat.reduceAdd,reduceCtorEq,Int.reduceLT,Int.reduceLE,Int.reduceSub,Nat.reduceEqDiff,Nat.reduceLT]at h);exact h):q:=e
theorem Z8{q:Prop}(e:q:=by(try first|replace h:=of_decide_eq_true h|replace h:=of_decide_eq_false h);(try simp only[sg,sq,hx1,hx2,hx3,hx4]at h);(try simp only[sx,↓reduceIte,Nat.reduceAdd,reduceCtorEq,Int.reduceLT,Int.reduceLE,Int.reduceSub,Nat.reduceEqDiff,Nat.reduceLT]at h);first|done|exact nz h):q:=e
theorem Z9{q:Prop}(e:q:=by(try first|replace h:=of_decide_eq_true h|replace h:=of_decide_eq_false h);(try simp only[sg,sq,hx1,hx2,hx3,hx4]at h);(try simp only[sx,↓reduceIte,Nat.reduceAdd,reduceCtorEq,Int.reduceLT,Int.reduceLE,Int.reduceSub,Nat.reduceEqDiff,Nat.reduceLT]at h);exact h):q:=e
theorem czq{P:Prop}(h:P:=by first|exact cz|((with_reducible first|show(_:Int)≤_|show(_:Int)<_);(try simp only[sg,sq]);omega)):P:=h
def pgB(p:Pg):List UInt8:=nuB [p.rows,p.cells,p.enc,p.rlen,p.dlen,p.vlen]++leB 4 p.crc.toNat
def Yy:List Pg→List UInt8
 |[]=>[]
 |p::l=>pgB p++Yy l
def flB(b:Bool):List UInt8:=[if b=true then 1 else 0]
def vlB(kind:Int)(v:Vl):List UInt8:=
 if kind=1 then[UInt8.ofNat (wr .u8 v.n).toNat]else if kind=2 then leB 4 (wr .u64 v.n).toNat else if kind=3 then leB 8 (wr .u64 v.n).toNat else nuB [(v.s.length:Int)]++v.s
def stB(kind:Int)(s:Sta):List UInt8:=nuB [s.nulls]++flB s.has++(if s.has=true then vlB kind s.mn++vlB kind s.mx else[])
def ckB(kind:Int)(c:Ck):List UInt8:=nuB [c.words,c.size]++leB 4 c.crc.toNat++nuB [(c.pages.length:Int)]++Yy c.pages++flB c.known++(if c.known=true then stB kind c.st else[])
def Wm:List Int→List Ck→List UInt8
 |k::ks,c::cs=>ckB k c++Wm ks cs
 |_,_=>[]
def rwB(ks:List Int)(r:Rw):List UInt8:=nuB [r.n]++Wm ks r.chunks
def Yc(ks:List Int):List Rw→List UInt8
 |[]=>[]
 |r::l=>rwB ks r++Yc ks l
def QS(s:List Fd):List Int:=(Qt s).map (·.kind)
def mtB(m:Mt):List UInt8:=nuB [((sbF m.s).length:Int)]++sbF m.s++nuB [m.n,(m.groups.length:Int)]++Yc (QS m.s) m.groups
def plainR(r:BR):Nat×BR:=QD 1048576 14 r
def truthR(r:BR):Nat×BR:=if 1<(Z6 1 r).1 then(0,Qy (Z6 1 r).2 10)else Z6 1 r
def Yx(kind:Int)(r:BR):Vl×BR:=
 if kind=1 then(⟨((truthR r).1:Nat),[]⟩,(truthR r).2)else
 if kind=2 then(⟨wr .i32 ((Z6 4 r).1:Nat),[]⟩,(Z6 4 r).2)else
 if kind=3 then(⟨wr .i64 ((Z6 8 r).1:Nat),[]⟩,(Z6 8 r).2)else
 (⟨0,(QF (QD 100 5 r).1 (QD 100 5 r).2).1⟩,(QF (QD 100 5 r).1 (QD 100 5 r).2).2)
def pageR(r:BR):Pg×BR:=
 let a:=plainR r
 let b:=plainR a.2
 let c:=plainR b.2
 let d:=plainR c.2
 let e:=plainR d.2
 let f:=plainR e.2
 let g:=Z6 4 f.2
 (⟨a.1,b.1,c.1,d.1,e.1,f.1,g.1⟩,g.2)
def ZS:Nat→BR→List Pg→List Pg×BR
 |0,r,s=>(s,r)
 |k+1,r,s=>if r.e≠0 then(s,r)else ZS k (pageR r).2 (s++[(pageR r).1])
def ckR0(r:BR):(Nat×Nat×Nat)×BR:=
 let a:=plainR r
 let b:=plainR a.2
 let c:=Z6 4 b.2
 ((a.1,b.1,c.1),c.2)
def W7(kind:Int)(r:BR):(Bool×Sta)×BR:=
 let t:=truthR r
 if t.1≠1 then((false,default),t.2)else
 let n:=plainR t.2
 let h:=truthR n.2
 if h.1≠1 then((true,⟨n.1,false,default,default⟩),h.2)else
 let a:=Yx kind h.2
 let b:=Yx kind a.2
 ((true,⟨n.1,true,a.1,b.1⟩),b.2)
def Zv(kind:Int)(r:BR):Ck×BR:=
 let a:=ckR0 r
 let n:=QD 200 4 a.2
 let p:=ZS n.1 n.2 []
 let k:=W7 kind p.2
 (⟨a.1.1,a.1.2.1,a.1.2.2,p.1,k.1.1,k.1.2⟩,k.2)
def Zh:List Int→BR→List Ck→List Ck×BR
 |[],r,s=>(s,r)
 |k::ks,r,s=>if r.e≠0 then(s,r)else Zh ks (Zv k r).2 (s++[(Zv k r).1])
def Zo(ks:List Int)(r:BR):Rw×BR:=
 let a:=plainR r
 let c:=Zh ks a.2 []
 (⟨a.1,c.1⟩,c.2)
def Za(ks:List Int):Nat→BR→List Rw→List Rw×BR
 |0,r,s=>(s,r)
 |k+1,r,s=>if r.e≠0 then(s,r)else Za ks k (Zo ks r).2 (s++[(Zo ks r).1])
def mt0:Mt:=⟨[],0,[]⟩
def W5(r:BR):Mt×BR:=
 let c:=QD 2000 5 r
 let t:=QF c.1 c.2
 if t.2.e≠0 then(mt0,t.2)else
 let p:=ZD t.1
 let r1:=Qy t.2 p.2
 let n:=plainR r1
 let k:=QD 200 4 n.2
 let g:=Za (QS p.1) k.1 k.2 []
 (⟨p.1,n.1,g.1⟩,g.2)
def Ub(a b:List UInt8):Int:=if Op.bytesLess a b=true then -1 else if(Op.bytesLess a b||eqb a b)=true then 0 else 1
def Ua(a b:Int):Int:=if a<b then -1 else if b<a then 1 else 0
def UV(kind:Int)(a b:Vl):Int:=if kind=4 then Ub a.s b.s else Ua a.n b.n
def Xk(f:Pg→Int):List Pg→Int
 |[]=>0
 |p::l=>f p+Xk f l
def Xl(kind n:Int)(c:Ck):Bool:=
 c.pages.all (fun p=>decide (p.rows≠0))&&decide (Xk (·.rows) c.pages=n)&&decide (c.words≤256)&&(c.pages.all (fun p=>decide (p.enc=2))||decide (c.words=0∧c.size=0))&&(!c.known||decide (c.st.nulls≤Xk (·.cells) c.pages)&&decide (0≤UV kind c.st.mx c.st.mn))
def ZA(n:Int):List Int→List Ck→Bool
 |k::ks,c::cs=>Xl k n c&&ZA n ks cs
 |_,_=>true
def Zj:List Rw→Int
 |[]=>0
 |r::l=>r.n+Zj l
def ZL(m:Mt):Bool:=(m.groups.all fun g=>decide (g.n≠0)&&ZA g.n (QS m.s) g.chunks)&&decide (Zj m.groups=m.n∧Zj m.groups≤200)
def YD(b:List UInt8):Mt×Int:=
 let q:=W5 ⟨b,0⟩
 let r1:=if q.2.b≠[]then Qy q.2 9 else q.2
 let r2:=if r1.e=0∧ZL q.1=false then Qy r1 10 else r1
 if r2.e≠0 then(mt0,r2.e)else(q.1,0)
end Go.Proofs.Ytajieadpaeggcaa
