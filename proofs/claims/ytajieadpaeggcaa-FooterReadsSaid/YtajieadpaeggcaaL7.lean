/-
  What a file says of itself,as bytes. The document's. Two values compared. The document's. What may be of a chunk. The document's. Is a file's description whole? The document's. A reader over bytes:it fails,takes,reads numbers. The document's. A reader's numbers. The document's. A file's description,read:numbers,truths,values. The document's. A file's description,read:values,chunks. The document's. A file's description,read:pages,what is known,chunks. The document's,plain. What a description read with nothing wrong is like. Plain. A schema's bytes and a file's description,read as the document reads them. Plain.
-/
import Derived.Test.YtajieadpaeggcaaL6
import Derived.Test.YtajieadpaeggcaaL4
import Derived.Test.YtajieadpaeggcaaL5
import Derived.Test.YtajieadpaeggcaaL2
import Derived.Test.YtajieadpaeggcaaL3
set_option linter.unusedVariables false
set_option linter.unusedSimpArgs false
namespace Go.Proofs.Ytajieadpaeggcaa
open Go Go.Av
section
set_option maxRecDepth 100000
set_option maxHeartbeats 4000000
theorem BArg.eq{H:Heap}{v v':AVal}(h:v=v')(hi:v'.imm=true):BArg H v v':=by subst h;exact .imm v hi
abbrev TR:CallT:=Q6 23 (U8 S_sbytes) (Q6 24 (U8 S_rnum19) (Q6 21 (X0 (seeW S_leaves)) (Q6 25 (U8 S_rchunk) Q7)))
theorem Ee[Syms]:TR.det Try.prog:=Xc EE (Xc JN (Zz Ka.seeW (Xc L9 Q3)))
noncomputable def Q0o:Nat→Nat→Pl:=XD [(12,2),(12,4),(12,8)] (Qz plt)
abbrev mtT(m:Mt):List AVal:=QK (vF m.s) m.n (vR m.groups)
def rfbS(m:Mt)(o:List UInt8):St:=⟨[(1,.ptr 0 0 0),(4,slB 1 o)],[(0,some (.cells [mtT m] false)),(1,oB o)],2⟩
def rfL(m:Mt)(ls:List Lf)(o:List UInt8):St:=⟨[(1,.ptr 0 0 0),(4,slB 1 o),(5,vL ls)],[(0,some (.cells [mtT m] false)),(1,oB o)],2⟩
def rfI(m:Mt)(ls:List Lf)(o:List UInt8)(i:Nat):St:=⟨[(1,.ptr 0 0 0),(4,slB 1 o),(5,vL ls),(6,.int .i64 i)],[(0,some (.cells [mtT m] false)),(1,oB o)],2⟩
def rfJ(m:Mt)(ls:List Lf)(o:List UInt8)(i j:Nat):St:=⟨[(1,.ptr 0 0 0),(4,slB 1 o),(5,vL ls),(6,.int .i64 i),(7,.int .i64 j)],[(0,some (.cells [mtT m] false)),(1,oB o)],2⟩
theorem Kb[Syms]{N K B nx:Nat}{e es:Env}{H:Heap}{len:Nat}{rows:List (List AVal)}{row:List AVal}{m:Mt}{o:List UInt8}{cap:Option Nat}(hn:QJ 0 nx [B,K]=true)(h1:e.get 1= .ptr B 0 0)(h4:e.get 4= .slice K 0 len 1 cap)(he:GL (rho [B,K] nx) e es)(hK:H.get K=some (.cells rows false))(hB:H.get B=some (.cells [row] false))(hrow:Wf row (mtT m))(hr:rows=o.map encB)(hl:len=o.length):
 Reb 0 N ⟨e,H,nx⟩ ⟨(1,.ptr 0 0 0)::(4,slB 1 o)::es,[(0,some (.cells [mtT m] false)),(1,oB o)],2⟩:=by
 subst hr hl
 exact Q0 [B,K] hn ⟨by rw[h1];exact .refl _,by rw[h4];exact Q8 rfl,he⟩ ⟨⟨Nat.succ_pos _,_,hB,Qs (row:=mtT m) hrow (fun x hx=>by simp[QK]at hx;rcases hx with rfl|rfl|rfl<;>rfl)⟩,⟨Nat.lt_succ_self _,_,hK,Q2 rfl (fB _)⟩,trivial⟩
theorem L5[Syms](m:Mt)(hm:MtB m)(hg:∀g∈m.groups,g.chunks.length=(Qt m.s).length)(hl:(mtB m).length≤1000000):
 fnT TR TR (Qx fns) (Qo tys) Q0o 100 12 [.agg (Qv m)] [] 0 (Bn (mtB m)):=by
 obtain⟨hfs,hsb,hmn,hgl,hgs⟩:=hm
 have hlen:(mtB m).length=(nuB [((sbF m.s).length:Int)]).length+(sbF m.s).length+(nuB [m.n]).length+(nuB [(m.groups.length:Int)]).length+(Yc (QS m.s) m.groups).length:=by
  unfold mtB;rw[Xd m.n];simp only[List.length_append];omega
 have hM:mtB m=nuB [((sbF m.s).length:Int)]++sbF m.s++nuB [m.n]++nuB [(m.groups.length:Int)]++Yc (Q5 (Qt m.s)) m.groups:=by
  unfold mtB;rw[Xd m.n];simp only[List.append_assoc];rfl
 have hkl:QS m.s=Q5 (Qt m.s):=rfl
 rw[hkl]at hlen
 have hsl:m.s.length≤100000:=by have:=hfs.len;omega
 repeat' first|refine And.intro ?_ ?_|(intro h;try first|exact dzq|replace h:=cvq)
 all_goals try exact cz
 refine⟨[vF m.s],⟨.see _ _ rfl (.tab rfl),trivial⟩,m.s,rfl,⟨by omega,hsl,hsb⟩,?_⟩
 rw[hM]
 clear hM hkl hsb
 have hlb:(Qt m.s).length≤1000:=by have h1:(Qt m.s).length≤m.s.length:=Zf _ _ _;have h2:=hfs.len;omega
 have hpos:0<(sbF m.s).length:=by rw[sbF,List.length_append];have:=MS 9 m.s.length;exact Nat.lt_of_lt_of_le this (Nat.le_add_right _ _)
 have hcall1:∀K:List UInt8→Prop,K (nuB [((sbF m.s).length:Int)])→S_rnum19 [vB [],.int .i64 ((sbF m.s).length:Int)] K:=fun K hk=>⟨[],((sbF m.s).length:Int),rfl,⟨by rw[List.length_nil];omega,by omega,by omega⟩,hk⟩
 generalize hs:sbF m.s=sb at *
 generalize hq1:nuB [(sb.length:Int)]=q1 at *
 repeat' first|refine And.intro ?_ ?_|(intro h;try first|exact dzq|replace h:=cvq)
 all_goals try exact cz
 refine⟨[vB [],.int .i64 (sb.length:Int)],⟨.nil _ encB 0,.imm _ rfl,trivial⟩,?_⟩
 refine hcall1 _ ?_
 repeat' first|refine And.intro ?_ ?_|(intro h;try first|exact dzq|replace h:=cvq)
 all_goals try exact cz
 all_goals(try((with_reducible show _=true);show Yo 1 (List.take sb.length (List.drop 0 (sb.map encB)))=true;rw[List.drop_zero,List.take_of_length_le (by simp)];exact Z0 (enc:=encB) (z:=1) (fun _=>rfl) _))
 have hl1:(q1++sb).length=q1.length+sb.length:=List.length_append
 have hr1:List.take q1.length (List.drop 0 (q1.map encB))++List.take sb.length (List.drop 0 (sb.map encB))=(q1++sb).map encB:=by
  rw[List.drop_zero,List.drop_zero,List.take_of_length_le (by simp),List.take_of_length_le (by simp),List.map_append]
 generalize hq2:q1++sb=q2 at *
 refine⟨rfbS m q2,Kb (K:=3) (B:=0) (by exact rfl) rfl rfl trivial rfl rfl ⟨.tab rfl,.refl _,.tab rfl,trivial⟩ hr1 hl1.symm,?_⟩
 have hcall2:∀K:List UInt8→Prop,K (q2++nuB [m.n])→S_rnum19 [vB q2,.int .i64 m.n] K:=fun K hk=>⟨q2,m.n,rfl,⟨by omega,hmn⟩,hk⟩
 have hl2:(q2++nuB [m.n]).length=q2.length+(nuB [m.n]).length:=List.length_append
 generalize q2++nuB [m.n]=q3 at *
 have hcall3:∀K:List UInt8→Prop,K (q3++nuB [(m.groups.length:Int)])→S_rnum19 [vB q3,.int .i64 (m.groups.length:Int)] K:=fun K hk=>⟨q3,(m.groups.length:Int),rfl,⟨by omega,by omega,by omega⟩,hk⟩
 have hl3:(q3++nuB [(m.groups.length:Int)]).length=q3.length+(nuB [(m.groups.length:Int)]).length:=List.length_append
 generalize q3++nuB [(m.groups.length:Int)]=q4 at *
 repeat' first|refine And.intro ?_ ?_|(intro h;try first|exact dzq|replace h:=cvq)
 all_goals try exact cz
 refine⟨[vB q2,.int .i64 m.n],⟨.byt (rows:=q2.map encB) (ro:=true) (by kernel_rfl) rfl rfl,.imm _ rfl,trivial⟩,?_⟩
 refine hcall2 _ ?_
 repeat' first|refine And.intro ?_ ?_|(intro h;try first|exact dzq|replace h:=cvq)
 all_goals try exact cz
 refine⟨[vB q3,.int .i64 (m.groups.length:Int)],⟨.byt (rows:=q3.map encB) (ro:=false) (by kernel_rfl) rfl rfl,.imm _ rfl,trivial⟩,?_⟩
 refine hcall3 _ ?_
 repeat' first|refine And.intro ?_ ?_|(intro h;try first|exact dzq|replace h:=cvq)
 all_goals try exact cz
 refine⟨[vF m.s],⟨.refl _,trivial⟩,m.s,rfl,hfs,?_⟩
 generalize Qt m.s=ls at *
 repeat' first|refine And.intro ?_ ?_|(intro h;try first|exact dzq|replace h:=cvq)
 all_goals try exact cz
 refine⟨rfL m ls q4,Kb (row:=mtT m) (K:=2+7*RR) (B:=0) (by kernel_rfl) rfl rfl ⟨.refl _,trivial⟩ (by kernel_rfl) (by kernel_rfl) ⟨.refl _,.refl _,.refl _,trivial⟩ rfl rfl,?_⟩
 repeat' first|refine And.intro ?_ ?_|(intro h;try first|exact dzq|replace h:=cvq)
 all_goals try exact cz
 refine⟨fun w s=>∃i:Nat,(i≤m.groups.length∧w=m.groups.length-i)∧s=rfI m ls (q4++Yc (Q5 ls) (m.groups.take i)) i,⟨_,rfI m ls (q4++Yc (Q5 ls) (m.groups.take 0)) 0,Kb (K:=1) (B:=0) (by exact rfl) rfl rfl ⟨.refl _,.refl _,trivial⟩ rfl rfl ⟨.refl _,.refl _,.refl _,trivial⟩ (by simp[Yc]) (by simp[Yc]),0,⟨by omega,rfl⟩,rfl⟩,?_⟩
 rintro w s ⟨i,⟨hi,rfl⟩,rfl⟩
 by_cases h1:i<m.groups.length
 ·have hgi:RwB ls.length (m.groups.getD i default):=by
   rw[List.getD_eq_getElem?_getD,List.getElem?_eq_getElem h1];exact hgs _ (List.getElem_mem h1)
  have hgc:(m.groups.getD i default).chunks.length=ls.length:=by
   rw[List.getD_eq_getElem?_getD,List.getElem?_eq_getElem h1];exact hg _ (List.getElem_mem h1)
  have hpt:=IU (ks:=Q5 ls) h1
  have hpl:=PF (Q5 ls) m.groups (i+1)
  have hlo:(q4++Yc (Q5 ls) (m.groups.take i)).length+(rwB (Q5 ls) (m.groups.getD i default)).length≤1000000:=by
   rw[hpt,List.length_append]at hpl
   rw[List.length_append];omega
  have hO2:q4++Yc (Q5 ls) (m.groups.take (i+1))=q4++Yc (Q5 ls) (m.groups.take i)++nuB [(m.groups.getD i default).n]++Wm (Q5 ls) (m.groups.getD i default).chunks:=by rw[hpt,rwB];simp only[List.append_assoc]
  obtain⟨hgn,_,hck⟩:=hgi
  have hrl:(rwB (Q5 ls) (m.groups.getD i default)).length=(nuB [(m.groups.getD i default).n]).length+(Wm (Q5 ls) (m.groups.getD i default).chunks).length:=by rw[rwB,List.length_append]
  clear hpt hpl
  generalize q4++Yc (Q5 ls) (m.groups.take i)=q at *
  have hcall4:∀K:List UInt8→Prop,K (q++nuB [(m.groups.getD i default).n])→S_rnum19 [vB q,.int .i64 (m.groups.getD i default).n] K:=fun K hk=>⟨q,(m.groups.getD i default).n,rfl,⟨by omega,hgn⟩,hk⟩
  have hl5:(q++nuB [(m.groups.getD i default).n]).length=q.length+(nuB [(m.groups.getD i default).n]).length:=List.length_append
  generalize q++nuB [(m.groups.getD i default).n]=q5 at *
  repeat' first|refine And.intro ?_ ?_|(intro h;try first|exact dzq|replace h:=cvq)
  all_goals try exact czq
  refine⟨[vB q,.int .i64 (m.groups.getD i default).n],⟨.byt rfl rfl rfl,.imm _ rfl,trivial⟩,?_⟩
  refine hcall4 _ ?_
  repeat' first|refine And.intro ?_ ?_|(intro h;try first|exact dzq|replace h:=cvq)
  all_goals try exact czq
  refine⟨rfI m ls q5 i,Kb (K:=2) (B:=0) (by exact rfl) rfl rfl ⟨.refl _,.refl _,trivial⟩ rfl rfl ⟨.refl _,.refl _,.refl _,trivial⟩ rfl rfl,?_⟩
  repeat' first|refine And.intro ?_ ?_|(intro h;try first|exact dzq|replace h:=cvq)
  all_goals try exact czq
  have hkl:(Q5 ls).length=ls.length:=List.length_map ..
  refine⟨fun w s=>∃j:Nat,(j≤ls.length∧w=ls.length-j)∧s=rfJ m ls (q5++Wm (Q5 ls) ((m.groups.getD i default).chunks.take j)) i j,⟨_,rfJ m ls (q5++Wm (Q5 ls) ((m.groups.getD i default).chunks.take 0)) i 0,Kb (K:=1) (B:=0) (by exact rfl) rfl rfl ⟨.refl _,.refl _,.refl _,trivial⟩ rfl rfl ⟨.refl _,.refl _,.refl _,trivial⟩ (by rw[List.take_zero,E7,List.append_nil]) (by rw[List.take_zero,E7,List.append_nil]),0,⟨by omega,rfl⟩,rfl⟩,?_⟩
  rintro w s ⟨j,⟨hj,rfl⟩,rfl⟩
  by_cases h3:j<ls.length
  ·have hct:=DR (ks:=Q5 ls) (j:=j) (cs:=(m.groups.getD i default).chunks) (by omega) (by omega)
   have hcl:=Iv (Q5 ls) (m.groups.getD i default).chunks (j+1)
   have hkd:(Q5 ls).getD j 0=(ls.getD j default).kind:=by
    rw[List.getD_eq_getElem?_getD,List.getD_eq_getElem?_getD,List.getElem?_map,List.getElem?_eq_getElem h3];rfl
   rw[hkd]at hct
   have hcb:CkB ((m.groups.getD i default).chunks.getD j default):=by
    rw[List.getD_eq_getElem?_getD,List.getElem?_eq_getElem (by omega)];exact hck _ (List.getElem_mem (by omega))
   have hrowc:(List.map encC (m.groups.getD i default).chunks).getD j []=encC ((m.groups.getD i default).chunks.getD j default):=Xx encC default (by omega)
   have hlc:(q5++Wm (Q5 ls) ((m.groups.getD i default).chunks.take j)).length+(ckB (ls.getD j default).kind ((m.groups.getD i default).chunks.getD j default)).length≤1000000:=by
    rw[hct,List.length_append]at hcl
    rw[List.length_append];omega
   have hO3:q5++Wm (Q5 ls) ((m.groups.getD i default).chunks.take (j+1))=q5++Wm (Q5 ls) ((m.groups.getD i default).chunks.take j)++ckB (ls.getD j default).kind ((m.groups.getD i default).chunks.getD j default):=by rw[hct];simp only[List.append_assoc]
   clear hct hcl
   generalize q5++Wm (Q5 ls) ((m.groups.getD i default).chunks.take j)=q6 at *
   have hcall5:∀K:List UInt8→Prop,K (q6++ckB (ls.getD j default).kind ((m.groups.getD i default).chunks.getD j default))→S_rchunk [vB q6,.int .i64 (ls.getD j default).kind,.agg (encC ((m.groups.getD i default).chunks.getD j default))] K:=fun K hk=>⟨q6,_,_,rfl,⟨hcb,hlc⟩,hk⟩
   generalize q6++ckB (ls.getD j default).kind ((m.groups.getD i default).chunks.getD j default)=q7 at *
   repeat' first|refine And.intro ?_ ?_|(intro h;try first|exact dzq|replace h:=cvq)
   all_goals try exact czq
   ·show((j:Nat):Int)<(((List.map encC (m.groups.getD i default).chunks).length:Nat):Int)
    rw[List.length_map];omega
   ·show Fb true _ ((List.map encC (m.groups.getD i default).chunks).getD ((j:Nat):Int).toNat []) 0=true
    rw[Int.toNat_natCast,hrowc];rfl
   refine⟨[vB q6,.int .i64 (ls.getD j default).kind,.agg (encC ((m.groups.getD i default).chunks.getD j default))],⟨.byt rfl rfl rfl,.imm _ rfl,.eq ?_ rfl,trivial⟩,?_⟩
   ·have hrow3:(asR (((fun i=>encR (m.groups.getD i default)) ((i:Nat):Int).toNat).getD (0+1) .any)).getD ((j:Nat):Int).toNat []=encC ((m.groups.getD i default).chunks.getD j default):=by rw[←hrowc];rfl
    simp only[hrow3];rfl
   refine hcall5 _ ?_
   repeat' first|refine And.intro ?_ ?_|(intro h;try first|exact dzq|replace h:=cvq)
   all_goals try exact czq
   exact⟨_,rfJ m ls q7 i (j+1),Kb (row:=mtT m) (K:=2+15*RR) (B:=0) (by kernel_rfl) rfl rfl ⟨.refl _,.refl _,Qm (by omega),trivial⟩ (by kernel_rfl) (by kernel_rfl) ⟨.refl _,.refl _,.refl _,trivial⟩ rfl rfl,⟨j+1,⟨by omega,rfl⟩,by rw[hO3]⟩,by omega⟩
  ·obtain rfl:j=ls.length:=by omega
   rw[show(m.groups.getD i default).chunks.take ls.length=(m.groups.getD i default).chunks from List.take_of_length_le (by omega),←hO2]
   repeat' first|refine And.intro ?_ ?_|(intro h;try first|exact dzq|replace h:=cvq)
   all_goals try exact czq
   exact⟨_,rfI m ls (q4++Yc (Q5 ls) (m.groups.take (i+1))) (i+1),Kb (K:=1) (B:=0) (by exact rfl) rfl rfl ⟨.refl _,Qm (by omega),trivial⟩ rfl rfl ⟨.refl _,.refl _,.refl _,trivial⟩ rfl rfl,⟨i+1,⟨by omega,rfl⟩,rfl⟩,by omega⟩
 ·obtain rfl:i=m.groups.length:=by omega
  rw[List.take_length]
  repeat' first|refine And.intro ?_ ?_|(intro h;try first|exact dzq|replace h:=cvq)
  all_goals try exact czq
  exact⟨_,ZR (k:=2) (n:=1) (l:=q4++Yc (Q5 ls) m.groups) (by exact rfl) rfl rfl rfl rfl,_,rfl,Wj rfl⟩
def S_rfbytes:SpecY:=fun args K=>∃m,args=[.agg (Qv m)]∧(MtB m∧(∀g∈m.groups,g.chunks.length=(Qt m.s).length)∧(mtB m).length≤1000000)∧K (mtB m)
theorem MG[Syms]:JF Try.prog 12 S_rfbytes:=by
 rintro args K ⟨m,rfl,⟨h1,h2,h3⟩,hk⟩
 exact⟨_,hk,Qj Qf Qg Ee Ee.ok Qw (L5 m h1 h2 h3)⟩
end
section
set_option maxRecDepth 100000
set_option maxHeartbeats 4000000
theorem LO(x:UInt8)(a b:List UInt8):Ub (x::a) (x::b)=Ub a b:=by
 have h1:Op.bytesLess (x::a) (x::b)=Op.bytesLess a b:=by
  rw[Op.bytesLess]
  simp
 have h2:eqb (x::a) (x::b)=eqb a b:=by rw[eqb,Nat.beq_refl,Bool.true_and]
 unfold Ub
 rw[h1,h2]
theorem RM{x y:UInt8}(a b:List UInt8)(h:x≠y):Ub (x::a) (y::b)=Ua (x.toNat:Nat) (y.toNat:Nat):=by
 have hn:x.toNat≠y.toNat:=fun k=>h (UInt8.toNat_inj.1 k)
 have h2:eqb (x::a) (y::b)=false:=by
  rw[eqb]
  cases hb:Nat.beq x.toNat y.toNat
  ·rfl
  ·exact absurd (Nat.eq_of_beq_eq_true hb) hn
 have h1:Op.bytesLess (x::a) (y::b)=decide (x.toNat<y.toNat):=by
  rw[Op.bytesLess]
  have:(x == y)=false:=by simp[h]
  rw[this,Bool.false_and,Bool.or_false]
  exact decide_eq_decide.2 UInt8.lt_iff_toNat_lt
 unfold Ub Ua
 rw[h1,h2]
 by_cases hl:x.toNat<y.toNat
 ·rw[if_pos (decide_eq_true hl),if_pos (by omega)]
 ·rw[if_neg (by simp[hl]),if_neg (by simp[hl]),if_neg (by omega),if_pos (by omega)]
theorem OP(a b:List UInt8)(h:a=[]∨b=[]):Ub a b=Ua (a.length:Nat) (b.length:Nat):=by
 cases a with
 |nil=>
  cases b with
  |nil=>rfl
  |cons y b=>
   unfold Ub Ua
   rw[show Op.bytesLess [] (y::b)=true from rfl,if_pos rfl,if_pos (by simp<;>omega)]
 |cons x a=>
  cases b with
  |nil=>
   unfold Ub Ua
   rw[show Op.bytesLess (x::a) []=false from by simp[Op.bytesLess],show eqb (x::a) []=false from rfl,if_neg (by simp),if_neg (by simp),if_neg (by simp<;>omega),if_pos (by simp<;>omega)]
  |cons y b=>rcases h with h|h<;>cases h
theorem OO(a b c:Int):Ua (a+c) (b+c)=Ua a b:=by
 unfold Ua
 by_cases h1:a<b
 ·rw[if_pos h1,if_pos (by omega)]
 ·rw[if_neg h1,if_neg (by omega)]
  by_cases h2:b<a
  ·rw[if_pos h2,if_pos (by omega)]
  ·rw[if_neg h2,if_neg (by omega)]
theorem LN{a b:List UInt8}{i:Nat}(h:i<a.length)(k:i<b.length):Ub (a.drop i) (b.drop i)=if a.getD i 0=b.getD i 0 then Ub (a.drop (i+1)) (b.drop (i+1))else Ua ((a.getD i 0).toNat:Nat) ((b.getD i 0).toNat:Nat):=by
 have e1:a.drop i=a.getD i 0::a.drop (i+1):=by rw[List.drop_eq_getElem_cons h];simp[h]
 have e2:b.drop i=b.getD i 0::b.drop (i+1):=by rw[List.drop_eq_getElem_cons k];simp[k]
 rw[e1,e2]
 by_cases hc:a.getD i 0=b.getD i 0
 ·rw[if_pos hc,hc,LO]
 ·rw[if_neg hc,RM _ _ hc]
theorem DQ{a b:List UInt8}{i:Nat}(hi:i≤a.length)(hk:i≤b.length)(h:¬(i<a.length∧i<b.length)):Ub (a.drop i) (b.drop i)=Ua (a.length:Nat) (b.length:Nat):=by
 rw[OP _ _ (by
  by_cases h1:i<a.length
  ·right;exact List.drop_eq_nil_of_le (by omega)
  ·left;exact List.drop_eq_nil_of_le (by omega)),List.length_drop,List.length_drop]
 have:=OO ((a.length-i:Nat):Int) ((b.length-i:Nat):Int) (i:Nat)
 rw[←this]
 congr 1<;>omega
theorem SX[Syms](a b:Int):fnT Q7 Q7 (Qx fns) (Qo tys) (Qz plt) 100 110 [.int .i64 a,.int .i64 b] [] 0 (fun v H _=>v= .int .i64 (Ua a b)∧H=[]):=by
 unfold Ua
 by_cases h1:a<b
 ·rw[if_pos h1]
  repeat' first|refine And.intro ?_ ?_|(intro h;try first|exact dz|replace h:=cv)
  all_goals try exact cz
  all_goals exact⟨_,Q1 [4] rfl,_,rfl,rfl,rfl⟩
 ·rw[if_neg h1]
  by_cases h2:b<a
  ·rw[if_pos h2]
   repeat' first|refine And.intro ?_ ?_|(intro h;try first|exact dz|replace h:=cv)
   all_goals try exact cz
   all_goals exact⟨_,Q1 [4] rfl,_,rfl,rfl,rfl⟩
  ·rw[if_neg h2]
   repeat' first|refine And.intro ?_ ?_|(intro h;try first|exact dz|replace h:=cv)
   all_goals try exact cz
   all_goals exact⟨_,Q1 [4] rfl,_,rfl,rfl,rfl⟩
def S_rord:SpecI:=fun args K=>∃a b,args=[.int .i64 a,.int .i64 b]∧K (.int .i64 (Ua a b))
theorem HQ[Syms]:Zs Try.prog 110 S_rord:=by
 rintro args K ⟨a,b,rfl,hk⟩
 exact⟨rfl,_,rfl,hk,fnI Qf Qg Q3 Q9 Qw (SX a b)⟩
abbrev S4:CallT:=Q6 110 (X0 S_rord) Q7
theorem S3[Syms]:S4.ok Try.prog:=Qh HQ Q9
theorem S5[Syms]:S4.det Try.prog:=Zz HQ Q3
noncomputable def plRc:Nat→Nat→Pl:=XD [(91,0)] (Qz plt)
def rcC(k:Int)(a b:Vl):St:=⟨[(4,.vp (ZX a) 0),(5,.vp (ZX b) 0),(0,.int .i64 k)],[],2⟩
def rcI(k:Int)(a b:Vl)(i:Nat):St:=⟨[(4,.vp (ZX a) 0),(5,.vp (ZX b) 0),(0,.int .i64 k),(7,.int .i64 i)],[],0⟩
theorem T4[Syms](k:Int)(a b:Vl)(ha:a.s.length≤1000000)(hb:b.s.length≤1000000):fnT S4 S4 (Qx fns) (Qo tys) plRc 100 91 [.int .i64 k,.agg (ZX a),.agg (ZX b)] [] 0 (fun v H _=>v= .int .i64 (UV k a b)∧H=[]):=by
 repeat' first|refine And.intro ?_ ?_|(intro h;try first|exact dzq|replace h:=cvq)
 all_goals try exact cz
 refine⟨rcC k a b,Ba (ra':=ZX a) (rb':=ZX b) (n0:=0) (n1:=1) (by decide) rfl rfl (by decide) rfl rfl ⟨.same _,.same _,trivial⟩ ⟨.same _,.same _,trivial⟩ (fV a) (fV b) ⟨.same _,trivial⟩ ⟨.same _,trivial⟩,?_⟩
 unfold UV
 by_cases hk:k=4
 ·rw[if_pos hk]
  repeat' first|refine And.intro ?_ ?_|(intro h;try first|exact dzq|replace h:=cvq)
  all_goals try exact cz
  refine⟨fun m s=>∃i:Nat,(i≤a.s.length∧i≤b.s.length∧m=a.s.length-i∧Ub a.s b.s=Ub (a.s.drop i) (b.s.drop i))∧s=rcI k a b i,⟨_,rcI k a b 0,Q0 [] (by exact rfl) ⟨.refl _,.refl _,.refl _,.refl _,trivial⟩ trivial,0,⟨by omega,by omega,rfl,rfl⟩,rfl⟩,?_⟩
  rintro m s ⟨i,⟨hi,hj,rfl,hc⟩,rfl⟩
  by_cases h1:i<a.s.length
  ·by_cases h2:i<b.s.length
   ·have hd:=LN h1 h2
    have ba:((i:Nat):Int).toNat<a.s.length:=by omega
    have bb:((i:Nat):Int).toNat<b.s.length:=by omega
    by_cases he:a.s.getD i 0=b.s.getD i 0
    ·rw[if_pos he]at hd
     have hen:((a.s.getD i 0).toNat:Int)=(b.s.getD i 0).toNat:=by rw[he]
     repeat' first|refine And.intro ?_ ?_|(intro h;try first|exact dzq|replace h:=cvq)
     all_goals try exact czq
     all_goals(try((with_reducible show(_:Nat)<_);first|exact ba|exact bb))
     all_goals exact⟨_,rcI k a b (i+1),Q0 [] (by exact rfl) ⟨.refl _,.refl _,.refl _,Qm (by omega),trivial⟩ trivial,⟨i+1,⟨by omega,by omega,rfl,by rw[hc,hd]⟩,rfl⟩,by omega⟩
    ·rw[if_neg he]at hd
     have hen:¬((a.s.getD i 0).toNat:Int)=(b.s.getD i 0).toNat:=fun h=>he (UInt8.toNat_inj.1 (by omega))
     have w1:wr .i64 (((a.s.getD i 0).toNat:Nat):Int)=((a.s.getD i 0).toNat:Nat):=Q19 (by have:=(a.s.getD i 0).toNat_lt;omega)
     have w2:wr .i64 (((b.s.getD i 0).toNat:Nat):Int)=((b.s.getD i 0).toNat:Nat):=Q19 (by have:=(b.s.getD i 0).toNat_lt;omega)
     repeat' first|refine And.intro ?_ ?_|(intro h;try first|exact dzq|replace h:=cvq)
     all_goals try exact czq
     all_goals(try((with_reducible show(_:Nat)<_);first|exact ba|exact bb))
     all_goals refine⟨_,_,rfl,?_⟩
     repeat' first|refine And.intro ?_ ?_|(intro h;try first|exact dzq|replace h:=cvq)
     all_goals try exact czq
     all_goals exact⟨_,Q1 [6] rfl,_,rfl,by rw[hc,hd,←w1,←w2];rfl,rfl⟩
   ·rw[hc,DQ hi hj (fun h=>h2 h.2)]
    repeat' first|refine And.intro ?_ ?_|(intro h;try first|exact dzq|replace h:=cvq)
    all_goals try exact czq
    all_goals exact⟨_,_,rfl,_,Q1 [6] rfl,_,rfl,rfl,rfl⟩
  ·rw[hc,DQ hi hj (fun h=>h1 h.1)]
   repeat' first|refine And.intro ?_ ?_|(intro h;try first|exact dzq|replace h:=cvq)
   all_goals try exact czq
   all_goals exact⟨_,_,rfl,_,Q1 [6] rfl,_,rfl,rfl,rfl⟩
 ·rw[if_neg hk]
  repeat' first|refine And.intro ?_ ?_|(intro h;try first|exact dzq|replace h:=cvq)
  all_goals try exact czq
  all_goals exact⟨_,_,rfl,_,Q1 [6] rfl,_,rfl,rfl,rfl⟩
def S_rcmp:SpecI:=fun args K=>∃k a b,args=[.int .i64 k,.agg (ZX a),.agg (ZX b)]∧(a.s.length≤1000000∧b.s.length≤1000000)∧K (.int .i64 (UV k a b))
theorem HY[Syms]:Zs Try.prog 91 S_rcmp:=by
 rintro args K ⟨k,a,b,rfl,⟨h1,h2⟩,hk⟩
 exact⟨rfl,_,rfl,hk,fnI Qf Qg S5 S3 Qw (T4 k a b h1 h2)⟩
end
section
set_option maxRecDepth 100000
set_option maxHeartbeats 4000000
noncomputable def plRf:Nat→Nat→Pl:=XD [(67,0)] (Qz plt)
abbrev cRf:CallT:=Q6 91 (X0 S_rcmp) Q7
theorem TS[Syms]:cRf.ok Try.prog:=Qh HY Q9
theorem S2[Syms]:cRf.det Try.prog:=Zz HY Q3
def rf0(k n:Int)(c:Ck):St:=⟨[(3,.vp (encC c) 0),(1,.int .i64 n),(2,.int .i64 k)],[],1⟩
def rfS(k n:Int)(c:Ck)(i:Nat)(rs cs:Int)(w:Bool):St:=⟨[(3,.vp (encC c) 0),(1,.int .i64 n),(2,.int .i64 k),(7,.int .i64 rs),(8,.int .i64 cs),(9,.bool w),(10,.int .i64 i)],[],0⟩
theorem Tt[Syms](k n:Int)(c:Ck)(hp:∀p∈c.pages,Kz p)(hl:c.pages.length≤200)(hv1:c.st.mn.s.length≤1000000)(hv2:c.st.mx.s.length≤1000000):
 fnT cRf cRf (Qx fns) (Qo tys) plRf 100 67 [.agg (encC c),.int .i64 n,.int .i64 k] [] 0 (fun v H _=>v= .bool (Xl k n c)∧H=[]):=by
 repeat' first|refine And.intro ?_ ?_|(intro h;try first|exact dzq|replace h:=cvq)
 all_goals try exact cz
 refine⟨rf0 k n c,QH (n:=0) (rows:=[encC c]) rfl (ZM (eC c) QL) ⟨.pt 0 0 (encC c) (encC c) rfl ⟨.same _,.same _,.same _,.same _,.same _,.same _,.same _,.same _,.same _,.same _,.same _,trivial⟩,.same _,.same _,trivial⟩ trivial,?_⟩
 repeat' first|refine And.intro ?_ ?_|(intro h;try first|exact dzq|replace h:=cvq)
 all_goals try exact cz
 refine⟨fun m s=>∃(i:Nat) (rs cs:Int) (w:Bool),(i≤c.pages.length∧m=c.pages.length-i∧rs=Xk (·.rows) (c.pages.take i)∧cs=Xk (·.cells) (c.pages.take i)∧w=(c.pages.take i).all (fun p=>decide (p.enc=2))∧(c.pages.take i).all (fun p=>decide (p.rows≠0))=true)∧s=rfS k n c i rs cs (!w),⟨_,rfS k n c 0 0 0 false,Q0 [] (by exact rfl) ⟨.refl _,.refl _,.refl _,.refl _,.refl _,.refl _,.refl _,trivial⟩ trivial,0,0,0,true,⟨by omega,rfl,rfl,rfl,rfl,rfl⟩,rfl⟩,?_⟩
 rintro m s ⟨i,rs,cs,w,⟨hi,rfl,hrs,hcs,hw,ha⟩,rfl⟩
 have hin:∀j,j<c.pages.length→Kz (c.pages.getD j default):=fun j hj=>by
  rw[List.getD_eq_getElem?_getD,List.getElem?_eq_getElem hj];exact hp _ (List.getElem_mem hj)
 have hb1:=KL (·.rows) (c.pages.take i) fun p hq=>(hp p (List.mem_of_mem_take hq)).1
 have hb2:=KL (·.cells) (c.pages.take i) fun p hq=>(hp p (List.mem_of_mem_take hq)).2
 have htl:(c.pages.take i).length≤200:=by rw[List.length_take];omega
 rw[←hrs]at hb1
 rw[←hcs]at hb2
 have hx1:(encC c).getD (0+3) .any= .vs 7 (c.pages.map encP):=rfl
 have hx2:(c.pages.map encP).length=c.pages.length:=List.length_map ..
 by_cases h1:i<c.pages.length
 ·have hpi:=hin i h1
  have e1:=UH (·.rows) h1
  have e2:=UH (·.cells) h1
  have e3:=Ju (fun p=>decide (p.enc=2)) h1
  have e4:=Ju (fun p=>decide (p.rows≠0)) h1
  rw[←hrs]at e1
  rw[←hcs]at e2
  rw[←hw]at e3
  rw[ha]at e4
  obtain⟨hpr,hpc⟩:=hpi
  have hra:(c.pages.map encP).getD ((i:Nat):Int).toNat []=encP (c.pages.getD i default):=by rw[Int.toNat_natCast];exact Xx encP default h1
  have hrb:(asR ((encC c).getD (0+3) .any)).getD ((i:Nat):Int).toNat []=encP (c.pages.getD i default):=hra
  have hx3:(c.pages.map encP).getD i []=encP (c.pages.getD i default):=Xx encP default h1
  have hx4:(encP (c.pages.getD i default)).getD 0 .any= .int .i64 (c.pages.getD i default).rows∧(encP (c.pages.getD i default)).getD (0+2) .any= .int .i64 (c.pages.getD i default).enc:=⟨rfl,rfl⟩
  by_cases h2:(c.pages.getD i default).rows=0
  · repeat' first|refine And.intro ?_ ?_|(intro h;try first|exact Z8|replace h:=Z9)
    all_goals try exact czq
    all_goals(try((with_reducible first|show isC _ _ _=true|show(_:Int)≤_);rw[hrb];first|rfl|(show(_:Int)≤rs+(c.pages.getD i default).rows;omega)|(show rs+(c.pages.getD i default).rows≤_;omega)|(show(_:Int)≤cs+(c.pages.getD i default).cells;omega)|(show cs+(c.pages.getD i default).cells≤_;omega)))
    have hf:Xl k n c=false:=by
     have:c.pages.all (fun p=>decide (p.rows≠0))=false:=by
      rw[List.all_eq_false]
      exact⟨_,List.getElem_mem h1,by rw[List.getD_eq_getElem?_getD,List.getElem?_eq_getElem h1]at h2;simpa using h2⟩
     unfold Xl
     rw[this];rfl
    exact⟨_,Q1 [6] rfl,_,rfl,by rw[hf];rfl,rfl⟩
  ·have hstep:∀(w':Bool) (rs' cs':Int),rs'=rs+(c.pages.getD i default).rows→cs'=cs+(c.pages.getD i default).cells→w'=(w&&decide ((c.pages.getD i default).enc=2))→ ∃(j:Nat) (rs1 cs1:Int) (w1:Bool),(j≤c.pages.length∧c.pages.length-(i+1)=c.pages.length-j∧rs1=Xk (·.rows) (c.pages.take j)∧cs1=Xk (·.cells) (c.pages.take j)∧w1=(c.pages.take j).all (fun p=>decide (p.enc=2))∧(c.pages.take j).all (fun p=>decide (p.rows≠0))=true)∧rfS k n c (i+1) rs' cs' (!w')=rfS k n c j rs1 cs1 (!w1):=by
    rintro w' rs' cs' rfl rfl rfl
    exact⟨i+1,_,_,_,⟨by omega,rfl,e1.symm,e2.symm,e3.symm,by rw[e4,decide_eq_true h2];rfl⟩,rfl⟩
   cases w
   · repeat' first|refine And.intro ?_ ?_|(intro h;try first|exact Z8|replace h:=Z9)
     all_goals try exact czq
     all_goals(try((with_reducible first|show isC _ _ _=true|show(_:Int)≤_);rw[hrb];first|rfl|(show(_:Int)≤rs+(c.pages.getD i default).rows;omega)|(show rs+(c.pages.getD i default).rows≤_;omega)|(show(_:Int)≤cs+(c.pages.getD i default).cells;omega)|(show cs+(c.pages.getD i default).cells≤_;omega)))
     exact⟨_,rfS k n c (i+1) (rs+(c.pages.getD i default).rows) (cs+(c.pages.getD i default).cells) (!false),Q0 [] (by exact rfl) ⟨.refl _,.refl _,.refl _,Qm (by rw[hrb];rfl),Qm (by rw[hrb];rfl),ZG rfl,Qm (by omega),trivial⟩ trivial,hstep _ _ _ rfl rfl rfl,by omega⟩
   · repeat' first|refine And.intro ?_ ?_|(intro h;try first|exact Z8|replace h:=Z9)
     all_goals try exact czq
     all_goals(try((with_reducible first|show isC _ _ _=true|show(_:Int)≤_);rw[hrb];first|rfl|(show(_:Int)≤rs+(c.pages.getD i default).rows;omega)|(show rs+(c.pages.getD i default).rows≤_;omega)|(show(_:Int)≤cs+(c.pages.getD i default).cells;omega)|(show cs+(c.pages.getD i default).cells≤_;omega)))
     exact⟨_,rfS k n c (i+1) (rs+(c.pages.getD i default).rows) (cs+(c.pages.getD i default).cells) (!(true&&decide ((c.pages.getD i default).enc=2))),Q0 [] (by exact rfl) ⟨.refl _,.refl _,.refl _,Qm (by rw[hrb];rfl),Qm (by rw[hrb];rfl),ZG (by rw[hrb];show decide (¬(c.pages.getD i default).enc=2)=!(true&&decide ((c.pages.getD i default).enc=2));simp),Qm (by omega),trivial⟩ trivial,hstep _ _ _ rfl rfl rfl,by omega⟩
 ·obtain rfl:i=c.pages.length:=by omega
  rw[List.take_length]at hrs hcs hw ha
  have hso:Xl k n c=(decide (rs=n)&&decide (c.words≤256)&&(w||decide (c.words=0∧c.size=0))&&(!c.known||decide (c.st.nulls≤cs)&&decide (0≤UV k c.st.mx c.st.mn))):=by
   unfold Xl
   rw[ha,←hrs,←hcs,←hw];rfl
  rw[hso]
  clear hso hrs hcs hw ha hin htl
  have hx3:=hx2
  have hx4:=hx2
  have hcc:decide (UV k c.st.mx c.st.mn<0)=!decide (0≤UV k c.st.mx c.st.mn):=by
   by_cases h:UV k c.st.mx c.st.mn<0
   ·rw[decide_eq_true h,decide_eq_false (by omega)];rfl
   ·rw[decide_eq_false h,decide_eq_true (by omega)];rfl
  by_cases h2:rs=n
  ·by_cases h3:c.words≤256
   ·cases w
    ·by_cases h4:c.words=0
     ·by_cases h5:c.size=0
      ·skip
       cases hk:c.known
       ·have hx3:=hk
        have hx4:=hk
        repeat' first|refine And.intro ?_ ?_|(intro h;try first|exact Z8|replace h:=Z9)
        all_goals try exact cz
        all_goals exact⟨_,Q1 [6] rfl,_,rfl,congrArg AVal.bool (by simp[*]<;>exact hcc),rfl⟩
       ·have hx3:=hk
        have hx4:=hk
        by_cases h6:c.st.nulls≤cs
        · repeat' first|refine And.intro ?_ ?_|(intro h;try first|exact Z8|replace h:=Z9)
          all_goals try exact cz
          all_goals refine⟨k,c.st.mx,c.st.mn,rfl,⟨hv2,hv1⟩,?_⟩
          repeat' first|refine And.intro ?_ ?_|(intro h;try first|exact Z8|replace h:=Z9)
          all_goals try exact cz
          all_goals exact⟨_,Q1 [6] rfl,_,rfl,congrArg AVal.bool (by simp[*]<;>exact hcc),rfl⟩
        · repeat' first|refine And.intro ?_ ?_|(intro h;try first|exact Z8|replace h:=Z9)
          all_goals try exact cz
          all_goals exact⟨_,Q1 [6] rfl,_,rfl,congrArg AVal.bool (by simp[*]<;>exact hcc),rfl⟩
      ·skip
       repeat' first|refine And.intro ?_ ?_|(intro h;try first|exact Z8|replace h:=Z9)
       all_goals try exact cz
       all_goals exact⟨_,Q1 [6] rfl,_,rfl,congrArg AVal.bool (by simp[*]<;>exact hcc),rfl⟩
     ·skip
      repeat' first|refine And.intro ?_ ?_|(intro h;try first|exact Z8|replace h:=Z9)
      all_goals try exact cz
      all_goals exact⟨_,Q1 [6] rfl,_,rfl,congrArg AVal.bool (by simp[*]<;>exact hcc),rfl⟩
    ·skip
     cases hk:c.known
     ·have hx3:=hk
      have hx4:=hk
      repeat' first|refine And.intro ?_ ?_|(intro h;try first|exact Z8|replace h:=Z9)
      all_goals try exact cz
      all_goals exact⟨_,Q1 [6] rfl,_,rfl,congrArg AVal.bool (by simp[*]<;>exact hcc),rfl⟩
     ·have hx3:=hk
      have hx4:=hk
      by_cases h6:c.st.nulls≤cs
      · repeat' first|refine And.intro ?_ ?_|(intro h;try first|exact Z8|replace h:=Z9)
        all_goals try exact cz
        all_goals refine⟨k,c.st.mx,c.st.mn,rfl,⟨hv2,hv1⟩,?_⟩
        repeat' first|refine And.intro ?_ ?_|(intro h;try first|exact Z8|replace h:=Z9)
        all_goals try exact cz
        all_goals exact⟨_,Q1 [6] rfl,_,rfl,congrArg AVal.bool (by simp[*]<;>exact hcc),rfl⟩
      · repeat' first|refine And.intro ?_ ?_|(intro h;try first|exact Z8|replace h:=Z9)
        all_goals try exact cz
        all_goals exact⟨_,Q1 [6] rfl,_,rfl,congrArg AVal.bool (by simp[*]<;>exact hcc),rfl⟩
   ·skip
    repeat' first|refine And.intro ?_ ?_|(intro h;try first|exact Z8|replace h:=Z9)
    all_goals try exact cz
    all_goals exact⟨_,Q1 [6] rfl,_,rfl,congrArg AVal.bool (by simp[*]<;>exact hcc),rfl⟩
  ·skip
   repeat' first|refine And.intro ?_ ?_|(intro h;try first|exact Z8|replace h:=Z9)
   all_goals try exact cz
   all_goals exact⟨_,Q1 [6] rfl,_,rfl,congrArg AVal.bool (by simp[*]<;>exact hcc),rfl⟩
def S_fine:SpecI:=fun args K=>∃k n c,args=[.agg (encC c),.int .i64 n,.int .i64 k]∧((∀p∈c.pages,Kz p)∧c.pages.length≤200∧c.st.mn.s.length≤1000000∧c.st.mx.s.length≤1000000)∧K (.bool (Xl k n c))
theorem Ik[Syms]:Zs Try.prog 67 S_fine:=by
 rintro args K ⟨k,n,c,rfl,⟨h1,h2,h3,h4⟩,hk⟩
 exact⟨rfl,_,rfl,hk,fnI Qf Qg S2 TS Qw (Tt k n c h1 h2 h3 h4)⟩
end
section
set_option maxRecDepth 100000
set_option maxHeartbeats 4000000
structure RWhOk(m:Mt):Prop where
 ok:MtOk m
 len:∀g∈m.groups,g.chunks.length=(Qt m.s).length
 strs:∀g∈m.groups,∀c∈g.chunks,c.st.mn.s.length≤1000000∧c.st.mx.s.length≤1000000
noncomputable def plRw:Nat→Nat→Pl:=XD [(36,0),(36,5)] (Qz plt)
abbrev dRw:CallT:=Q6 67 (X0 S_fine) Q7
theorem TB[Syms]:dRw.det Try.prog:=Zz Ik Q3
def wq0(m:Mt)(ls:List Lf):St:=⟨[(2,.vp (Qv m) 0),(1,vL ls)],[],1⟩
def wqS(m:Mt)(ls:List Lf)(i:Nat)(sm:Int):St:=⟨[(2,.vp (Qv m) 0),(1,vL ls),(5,.int .i64 sm),(6,.int .i64 i)],[],0⟩
def wqB(m:Mt)(ls:List Lf)(i:Nat)(sm:Int)(g:Rw):St:=⟨[(2,.vp (Qv m) 0),(1,vL ls),(5,.int .i64 sm),(6,.int .i64 i),(7,.vp (encR g) 0)],[],2⟩
def wqI(m:Mt)(ls:List Lf)(i:Nat)(sm:Int)(g:Rw)(j:Nat):St:=⟨[(2,.vp (Qv m) 0),(1,vL ls),(5,.int .i64 sm),(6,.int .i64 i),(7,.vp (encR g) 0),(8,.int .i64 j)],[],0⟩
theorem Np[Syms](m:Mt)(h:RWhOk m):
 fnT dRw dRw (Qx fns) (Qo tys) plRw 100 36 [.agg (Qv m),vL (Qt m.s)] [] 0 (fun v H _=>v= .bool (ZL m)∧H=[]):=by
 obtain⟨⟨hfs,hgl,hgr⟩,hlen,hstr⟩:=h
 have hll:(Qt m.s).length≤1000:=by have h1:(Qt m.s).length≤m.s.length:=Zf _ _ _;have h2:=hfs.len;omega
 have hwh:ZL m=((m.groups.all fun g=>decide (g.n≠0)&&ZA g.n (Q5 (Qt m.s)) g.chunks)&&decide (Zj m.groups=m.n∧Zj m.groups≤200)):=rfl
 generalize Qt m.s=ls at *
 repeat' first|refine And.intro ?_ ?_|(intro h;try first|exact dzq|replace h:=cvq)
 all_goals try exact cz
 refine⟨wq0 m ls,QH (n:=0) (rows:=[Qv m]) rfl (ZM (eM m) QL) ⟨.pt 0 0 (Qv m) (Qv m) rfl ⟨.same _,.same _,.same _,trivial⟩,.same _,trivial⟩ trivial,?_⟩
 repeat' first|refine And.intro ?_ ?_|(intro h;try first|exact dzq|replace h:=cvq)
 all_goals try exact cz
 refine⟨fun q s=>∃(i:Nat) (sm:Int),(i≤m.groups.length∧q=m.groups.length-i∧sm=Zj (m.groups.take i)∧(m.groups.take i).all (fun g=>decide (g.n≠0)&&ZA g.n (Q5 ls) g.chunks)=true)∧s=wqS m ls i sm,⟨_,wqS m ls 0 0,Q0 [] (by exact rfl) ⟨.refl _,.refl _,.refl _,.refl _,trivial⟩ trivial,0,0,⟨by omega,rfl,rfl,rfl⟩,rfl⟩,?_⟩
 rintro q s ⟨i,sm,⟨hi,rfl,hsm,hal⟩,rfl⟩
 have hb:=Bd (m.groups.take i) fun p hq=>(hgr p (List.mem_of_mem_take hq)).n
 have htl:(m.groups.take i).length≤200:=by rw[List.length_take];omega
 rw[←hsm]at hb
 by_cases h1:i<m.groups.length
 ·have hgi:RwOk ls.length (m.groups.getD i default)∧(m.groups.getD i default).chunks.length=ls.length∧ ∀c∈(m.groups.getD i default).chunks,c.st.mn.s.length≤1000000∧c.st.mx.s.length≤1000000:=by
   rw[List.getD_eq_getElem?_getD,List.getElem?_eq_getElem h1];exact⟨hgr _ (List.getElem_mem h1),hlen _ (List.getElem_mem h1),hstr _ (List.getElem_mem h1)⟩
  have e1:=Dd h1
  have e2:=B0 (fun g=>decide (g.n≠0)&&ZA g.n (Q5 ls) g.chunks) h1
  have hbad:(decide ((m.groups.getD i default).n≠0)&&ZA (m.groups.getD i default).n (Q5 ls) (m.groups.getD i default).chunks)=false→ZL m=false:=by
   intro hb
   have:(m.groups.all fun g=>decide (g.n≠0)&&ZA g.n (Q5 ls) g.chunks)=false:=by
    rw[List.all_eq_false]
    refine⟨_,List.getElem_mem h1,?_⟩
    rw[List.getD_eq_getElem?_getD,List.getElem?_eq_getElem h1]at hb
    rw[show m.groups[i]=(some m.groups[i]).getD default from rfl,hb];decide
   rw[hwh,this];rfl
  rw[←hsm]at e1
  rw[hal]at e2
  obtain⟨⟨hn,hcl,hpg⟩,hce,hst⟩:=hgi
  have hra:(asR ((Qv m).getD (0+2) .any)).getD ((i:Nat):Int).toNat []=encR (m.groups.getD i default):=by rw[Int.toNat_natCast];exact Xx encR default h1
  have hx1:=sqm
  have hx2:=hra
  have hx3:=hra
  have hx4:=hra
  repeat' first|refine And.intro ?_ ?_|(intro h;try first|exact Z8|replace h:=Z9)
  all_goals try exact czq
  all_goals(try first|(rw[hra];rfl)|(show((i:Nat):Int)<(((m.groups.map encR).length:Nat):Int);rw[List.length_map];omega))
  have hrr:∀(x y:AVal),GU (encR (m.groups.getD i default)) (encR (m.groups.getD i default)):=fun _ _=>⟨.same _,.same _,trivial⟩
  refine⟨wqB m ls i sm (m.groups.getD i default),?_,?_⟩
  ·refine QH (n:=0) (rows:=[encR (m.groups.getD i default)]) ?_ (ZM (eR _) QL) ?_ ?_
   ·first|rfl|(simp only[hra];rfl)|(rw[←hra];rfl)
   ·exact⟨.same _,.same _,.same _,.same _,.pt 0 0 (encR (m.groups.getD i default)) (encR (m.groups.getD i default)) rfl (hrr .any .any),trivial⟩
   ·exact trivial
  clear hra hx2 hx3 hx4
  generalize m.groups.getD i default=g at *
  have hx2:=hx1
  have hx3:=hx1
  have hx4:=hx1
  by_cases h2:g.n=0
  · repeat' first|refine And.intro ?_ ?_|(intro h;try first|exact Z8|replace h:=Z9)
    all_goals try exact czq
    exact⟨_,Q1 [4] rfl,_,rfl,by rw[hbad (by rw[h2];rfl)];rfl,rfl⟩
  ·rw[decide_eq_true h2,Bool.true_and]at hbad e2
   repeat' first|refine And.intro ?_ ?_|(intro h;try first|exact Z8|replace h:=Z9)
   all_goals try exact czq
   refine⟨fun q s=>∃(j:Nat),(j≤ls.length∧q=ls.length-j∧ZA g.n (Q5 ls) g.chunks=ZA g.n ((Q5 ls).drop j) (g.chunks.drop j))∧s=wqI m ls i (sm+g.n) g j,⟨_,wqI m ls i (sm+g.n) g 0,Q0 [] (by exact rfl) ⟨.refl _,.refl _,.refl _,.refl _,.refl _,.refl _,trivial⟩ trivial,0,⟨by omega,rfl,rfl⟩,rfl⟩,?_⟩
   rintro q s ⟨j,⟨hj,rfl,hso⟩,rfl⟩
   by_cases h3:j<ls.length
   ·have h3c:j<g.chunks.length:=by omega
    have hd:=Gp (n:=g.n) h3c hcl
    have hpj:((∀p∈(g.chunks.getD j default).pages,Kz p)∧(g.chunks.getD j default).pages.length≤200)∧(g.chunks.getD j default).st.mn.s.length≤1000000∧(g.chunks.getD j default).st.mx.s.length≤1000000:=by
     rw[List.getD_eq_getElem?_getD,List.getElem?_eq_getElem h3c];exact⟨hpg _ (List.getElem_mem h3c),hst _ (List.getElem_mem h3c)⟩
    have hrc:(asR ((encR g).getD (0+1) .any)).getD ((j:Nat):Int).toNat []=encC (g.chunks.getD j default):=by rw[Int.toNat_natCast];exact Xx encC default h3c
    repeat' first|refine And.intro ?_ ?_|(intro h;try first|exact Z8|replace h:=Z9)
    all_goals try exact czq
    all_goals(try first|(rw[hrc];rfl)|(show((j:Nat):Int)<(((g.chunks.map encC).length:Nat):Int);rw[List.length_map];omega))
    refine⟨(ls.getD j default).kind,g.n,g.chunks.getD j default,?_,⟨hpj.1.1,hpj.1.2,hpj.2.1,hpj.2.2⟩,?_⟩
    ·first|(rw[hrc];rfl)|(simp only[hrc];rfl)|rfl
    cases hs:Xl (ls.getD j default).kind g.n (g.chunks.getD j default)
    ·have hx2:=hs
     have hx3:=hs
     have hx4:=hs
     repeat' first|refine And.intro ?_ ?_|(intro h;try first|exact Z8|replace h:=Z9)
     all_goals try exact czq
     exact⟨_,Q1 [4] rfl,_,rfl,by rw[hbad (by rw[hso,hd,hs];rfl)];rfl,rfl⟩
    ·rw[hs,Bool.true_and]at hd
     have hx2:=hs
     have hx3:=hs
     have hx4:=hs
     repeat' first|refine And.intro ?_ ?_|(intro h;try first|exact Z8|replace h:=Z9)
     all_goals try exact czq
     exact⟨_,wqI m ls i (sm+g.n) g (j+1),Q0 [] (by exact rfl) ⟨.refl _,.refl _,.refl _,.refl _,.refl _,Qm (by omega),trivial⟩ trivial,⟨j+1,⟨by omega,rfl,by rw[hso,hd]⟩,rfl⟩,by omega⟩
   ·obtain rfl:j=ls.length:=by omega
    have hs1:ZA g.n (Q5 ls) g.chunks=true:=by
     rw[hso,show(Q5 ls).drop ls.length=[] from List.drop_eq_nil_of_le (by simp)];rfl
    rw[hs1]at e2
    repeat' first|refine And.intro ?_ ?_|(intro h;try first|exact Z8|replace h:=Z9)
    all_goals try exact czq
    exact⟨_,wqS m ls (i+1) (sm+g.n),Q0 [] (by exact rfl) ⟨.refl _,.refl _,.refl _,Qm (by omega),trivial⟩ trivial,⟨i+1,sm+g.n,⟨by omega,rfl,e1.symm,e2⟩,rfl⟩,by omega⟩
 ·obtain rfl:i=m.groups.length:=by omega
  rw[List.take_length]at hsm hal
  rw[hwh,hal,←hsm,Bool.true_and]
  have hx1:=sqm
  have hx2:(Qv m).getD (0+1) .any= .int .i64 m.n:=rfl
  have hx3:=hx1
  have hx4:=hx2
  clear hsm hwh
  by_cases h2:sm=m.n
  ·by_cases h3:sm≤200
   · repeat' first|refine And.intro ?_ ?_|(intro h;try first|exact Z8|replace h:=Z9)
     all_goals try exact czq
     all_goals exact⟨_,Q1 [4] rfl,_,rfl,congrArg AVal.bool (by simp[*]),rfl⟩
   · repeat' first|refine And.intro ?_ ?_|(intro h;try first|exact Z8|replace h:=Z9)
     all_goals try exact czq
     all_goals exact⟨_,Q1 [4] rfl,_,rfl,congrArg AVal.bool (by simp[*]),rfl⟩
  · repeat' first|refine And.intro ?_ ?_|(intro h;try first|exact Z8|replace h:=Z9)
    all_goals try exact czq
    all_goals exact⟨_,Q1 [4] rfl,_,rfl,congrArg AVal.bool (by simp[*]),rfl⟩
def S_rwhole:SpecI:=fun args K=>∃m,args=[.agg (Qv m),vL (Qt m.s)]∧RWhOk m∧K (.bool (ZL m))
theorem IV[Syms]:Zs Try.prog 36 S_rwhole:=by
 rintro args K ⟨m,rfl,h,hk⟩
 exact⟨rfl,_,rfl,hk,fnI Qf Qg TB (Qh Ik Q9) Qw (Np m h)⟩
end
section
set_option maxRecDepth 100000
set_option maxHeartbeats 4000000
abbrev rrR(B:List UInt8)(a:Nat)(e:Int):List AVal:=[.vs 1 (B.map encB),.int .i64 (a:Nat),.int .i64 e]
abbrev rrB(B:List UInt8)(a:Nat)(e:Int):Option Blk:=some (.cells [rrR B a e] false)
theorem rrF(B:List UInt8)(a:Nat)(e:Int):∀x∈rrR B a e,x.flat=true:=fun x hx=>by simp at hx;rcases hx with rfl|rfl|rfl<;>rfl
def RO{α:Type}(R:BR→α×BR)(B:List UInt8)(a:Nat)(e:Int)(v:α)(a':Nat)(e':Int):Prop:=
 a'≤B.length∧(R ⟨B.drop a,e⟩).2.e=e'∧(e'=0→R ⟨B.drop a,e⟩=(v,⟨B.drop a',0⟩))
theorem RO.bad{α:Type}{R:BR→α×BR}(h:Rd R){B:List UInt8}{a a':Nat}{e:Int}{v:α}(he:e≠0)(ha:a'≤B.length):RO R B a e v a' e:=
 ⟨ha,h.stick _ he,fun h0=>absurd h0 he⟩
theorem RO.bind{α β:Type}{R:BR→α×BR}{S:α→BR→β×BR}(hS:∀v,Rd (S v)){B:List UInt8}{a a1 a2:Nat}{e e1 e2:Int}{v:α}{w:β}(h1:RO R B a e v a1 e1)(h2:RO (S v) B a1 e1 w a2 e2):RO (QO R S) B a e w a2 e2:=by
 obtain⟨p1,p2,p3⟩:=h1
 obtain⟨q1,q2,q3⟩:=h2
 by_cases h:e1=0
 ·have:=p3 h
  subst h
  have hb:QO R S ⟨B.drop a,e⟩=S v ⟨B.drop a1,0⟩:=by show S (R _).1 (R _).2=_;rw[this]
  exact⟨q1,by rw[hb];exact q2,fun h0=>by rw[hb];exact q3 h0⟩
 ·have he2:e2=e1:=by rw[←q2];exact(hS v).stick _ h
  subst he2
  refine⟨q1,?_,fun h0=>absurd h0 h⟩
  show(S (R ⟨B.drop a,e⟩).1 (R ⟨B.drop a,e⟩).2).2.e=e2
  rw[(hS _).stick _ (by rw[p2];exact h),p2]
theorem RO.ret{α:Type}{B:List UInt8}{a:Nat}{e:Int}(v:α)(ha:a≤B.length):RO (XL v) B a e v a e:=⟨ha,rfl,fun h=>by subst h;rfl⟩
theorem Nv[Syms]{Post:AVal→Heap→Nat→Prop}(B:List UInt8)(a:Nat)(e k:Int)(hP:Post (.tup []) [(0,rrB B a (if e=0 then k else e))] 1):
 fnT Q7 Q7 (Qx fns) (Qo tys) (Qz plt) 100 61 [.ptr 0 0 0,.int .i64 k] [(0,rrB B a e)] 1 Post:=by
 by_cases h:e=0
 ·subst h
  rw[if_pos rfl]at hP
  repeat' first|refine And.intro ?_ ?_|(intro h;try first|exact dz|replace h:=cv)
  all_goals try exact cz
  exact⟨⟨[],[(0,rrB B a k)],1⟩,Q0 [0] (by exact rfl) trivial ⟨⟨by decide,_,rfl,.refl _⟩,trivial⟩,_,rfl,hP⟩
 ·rw[if_neg h]at hP
  repeat' first|refine And.intro ?_ ?_|(intro h;try first|exact dz|replace h:=cv)
  all_goals try exact cz
  exact⟨⟨[],[(0,rrB B a e)],1⟩,Q0 [0] (by exact rfl) trivial ⟨⟨by decide,_,rfl,.refl _⟩,trivial⟩,_,rfl,hP⟩
def VL:SpecT:=fun args H nx Post=>∃B a e k,args=[.ptr 0 0 0,.int .i64 k]∧H=[(0,rrB B a e)]∧nx=1∧Post (.tup []) [(0,rrB B a (if e=0 then k else e))] 1
theorem Vx[Syms]:VL.ok Try.prog 61:=by
 rintro args H nx Post ⟨B,a,e,k,rfl,rfl,rfl,h⟩
 exact Qj Qf Qg Q3 Q9 Qw (Nv B a e k h)
theorem SU[Syms]{N nx K len:Nat}{e:Env}{H:Heap}{B T:List UInt8}{a:Nat}{x:Int}{cap:Option Nat}{rows:List (List AVal)}(h4:e.get 4= .slice K 0 len 1 cap)(H0:H.get 0=rrB B a x)(HK:H.get K=some (.cells rows false))(hr:rows=T.map encB)(hl:len=T.length)(hn:QJ 1 nx [0,K]=true):Reb 1 N ⟨e,H,nx⟩ ⟨[(4,vB T)],[(0,rrB B a x)],1⟩:=by
 subst hr hl
 refine Reb.trans (s':=⟨[(4,.slice 1 0 T.length 1 none)],[(0,rrB B a x),(1,some (.cells (T.map encB) false))],2⟩) (Q0 [0,K] hn ⟨by rw[h4];exact Q8 rfl,trivial⟩ ⟨⟨Nat.succ_pos _,_,H0,.refl _⟩,⟨Nat.lt_succ_self _,_,HK,Q2 rfl (fB _)⟩,trivial⟩) ?_
 refine Reb.trans (s':=⟨[(4,vB T)],[(0,rrB B a x)],2⟩) (Xy (enc:=encB) 0 (l:=T) [] [(0,rrB B a x)] rfl rfl (fB T) (List.take_of_length_le (by simp)) (by simp) (by simp) (fun n c h=>?_)) ?_
 ·rw[Heap.get_cons]at h
  by_cases hz:n=0
  ·subst hz;exact h
  ·rw[QP hz]at h;rw[show(bif false then rrB B a x else Heap.get [] n)=none from Heap.get_nil n]at h;cases h
 ·exact Q0 [0] (by exact rfl) ⟨.refl _,trivial⟩ ⟨⟨Nat.zero_lt_one,_,rfl,.refl _⟩,trivial⟩
def ZN(n:Nat)(B:List UInt8)(a:Nat)(e:Int):List UInt8×Nat×Int:=if e≠0 then([],a,e)else if B.length-a<n then([],a,8)else((B.drop a).take n,a+n,0)
abbrev ROP{α:Type}(R:BR→α×BR)(P:List UInt8→Nat→Int→α×Nat×Int)(B:List UInt8)(a:Nat)(e:Int):Prop:=RO R B a e (P B a e).1 (P B a e).2.1 (P B a e).2.2
theorem Mo(n:Nat){B:List UInt8}{a:Nat}(e:Int)(ha:a≤B.length):ROP (QF n) (ZN n) B a e:=by
 unfold ROP ZN
 by_cases h:e=0
 ·subst h
  rw[if_neg (fun k=>k rfl)]
  by_cases h1:B.length-a<n
  ·rw[if_pos h1]
   exact⟨ha,by
    unfold QF
    rw[if_pos (show(⟨B.drop a,0⟩:BR).b.length<n by show(B.drop a).length<n;rw[List.length_drop];omega)];rfl,fun h=>absurd (show(8:Int)=0 from h) (by decide)⟩
  ·rw[if_neg h1]
   exact⟨show a+n≤B.length by omega,by
    unfold QF
    rw[if_neg (show ¬(⟨B.drop a,0⟩:BR).b.length<n by show ¬(B.drop a).length<n;rw[List.length_drop];omega),if_neg (fun k=>k rfl)],fun _=>by
    unfold QF
    rw[if_neg (show ¬(⟨B.drop a,0⟩:BR).b.length<n by show ¬(B.drop a).length<n;rw[List.length_drop];omega),if_neg (fun k=>k rfl),List.drop_drop]⟩
 ·rw[if_pos h]
  exact .bad (YR n) h ha
theorem UG(n:Nat)(B:List UInt8)(a:Nat)(e:Int):(ZN n B a e).1.length=n∨(ZN n B a e).1=[]:=by
 unfold ZN
 split
 ·exact .inr rfl
 ·split
  ·exact .inr rfl
  ·left;show((B.drop a).take n).length=n;rw[List.length_take,List.length_drop];omega
abbrev cRT:CallT:=Q6 61 (QG VL) Q7
theorem TV[Syms]:cRT.ok Try.prog:=Q4 Vx Q9
noncomputable def plRT:Nat→Nat→Pl:=XD [(30,6)] (Qz plt)
theorem Nt[Syms]{Post:AVal→Heap→Nat→Prop}(B:List UInt8)(a:Nat)(e:Int)(n:Nat)(hB:B.length≤1000000)(ha:a≤B.length)(hn:n≤1000000)(hP:Post (vB (ZN n B a e).1) [(0,rrB B (ZN n B a e).2.1 (ZN n B a e).2.2)] 1):
 fnT Q7 cRT (Qx fns) (Qo tys) plRT 100 30 [.ptr 0 0 0,.int .i64 (n:Nat)] [(0,rrB B a e)] 1 Post:=by
 have hbm:(B.map encB).length=B.length:=List.length_map ..
 by_cases h:e=0
 ·subst h
  by_cases h0:n=0
  ·subst h0
   rw[show ZN 0 B a 0=([],a,0) from by unfold ZN;rw[if_neg (fun k=>k rfl),if_neg (Nat.not_lt_zero _)];rfl]at hP
   repeat' first|refine And.intro ?_ ?_|(intro h;try first|exact dz|replace h:=cv)
   all_goals try exact cz
   all_goals exact⟨⟨[(4,vB [])],[(0,rrB B a 0)],1⟩,Q0 [0] (by exact rfl) ⟨.zeroT _ _ _ rfl,trivial⟩ ⟨⟨by decide,_,rfl,.refl _⟩,trivial⟩,_,rfl,hP⟩
  by_cases h1:B.length-a<n
  ·have hd:¬(n:Int)≤(B.length:Int)-a:=by omega
   rw[show ZN n B a 0=([],a,8) from by unfold ZN;rw[if_neg (fun k=>k rfl),if_pos h1]]at hP
   have hx1:=hbm
   have hx2:=hbm
   have hx3:=hbm
   have hx4:=hbm
   repeat' first|refine And.intro ?_ ?_|(intro h;try first|exact dzi|replace h:=cvi)
   all_goals try exact cz
   refine⟨[0],[.ptr 0 0 0,.int .i64 8],[(0,rrB B a 0)],by kernel_rfl,⟨.refl _,.refl _,trivial⟩,⟨⟨by decide,_,rfl,.refl _⟩,trivial⟩,B,a,0,8,rfl,rfl,rfl,?_⟩
   rw[if_pos rfl]
   repeat' first|refine And.intro ?_ ?_|(intro h;try first|exact dzi|replace h:=cvi)
   all_goals try exact cz
   all_goals exact⟨⟨[(4,vB [])],[(0,rrB B a 8)],1⟩,Q0 [0] (by kernel_rfl) ⟨.zeroT _ _ _ rfl,trivial⟩ ⟨⟨by decide,_,rfl,.refl _⟩,trivial⟩,_,rfl,hP⟩
  ·have hd:(n:Int)≤(B.length:Int)-a:=by omega
   rw[show ZN n B a 0=((B.drop a).take n,a+n,0) from by unfold ZN;rw[if_neg (fun k=>k rfl),if_neg h1]]at hP
   dsimp only at hP
   have hx1:=hbm
   have hx2:=hbm
   have hx3:=hbm
   have hx4:=hbm
   repeat' first|refine And.intro ?_ ?_|(intro h;try first|exact dzi|replace h:=cvi)
   all_goals try exact cz
   refine⟨⟨[(0,.ptr 0 0 0),(1,.int .i64 (n:Nat))],[(0,rrB B (a+n) 0)],1⟩,Q0 [0] (by kernel_rfl) ⟨.refl _,.refl _,trivial⟩ ⟨⟨by decide,_,rfl,Qs (row:=rrR B (a+n) 0) ?_ (rrF B (a+n) 0)⟩,trivial⟩,?_⟩
   ·exact⟨.refl _,Qm (show wr .i64 (((a:Nat):Int)+((n:Nat):Int))=((a+n:Nat):Int) by rw[wrI (by omega)];omega),.refl _,trivial⟩
   have htk:List.take ((asI (([rrR B (a+n) 0].getD 0 []).getD (0+1) .any)).toNat-(asI (([rrR B (a+n) 0].getD 0 []).getD (0+1) .any)-((n:Nat):Int)).toNat) (List.drop (asI (([rrR B (a+n) 0].getD 0 []).getD (0+1) .any)-((n:Nat):Int)).toNat (B.map encB))=((B.drop a).take n).map encB:=by
    show List.take (((a+n:Nat):Int).toNat-(((a+n:Nat):Int)-((n:Nat):Int)).toNat) (List.drop (((a+n:Nat):Int)-((n:Nat):Int)).toNat (B.map encB))=_
    rw[show(((a+n:Nat):Int)-((n:Nat):Int)).toNat=a by omega,Int.toNat_natCast,Nat.add_sub_cancel_left,List.map_take,List.map_drop]
   have htl:((B.drop a).take n).length=n:=by rw[List.length_take,List.length_drop];omega
   generalize hT:(B.drop a).take n=T at *
   repeat' first|refine And.intro ?_ ?_|(intro h;try first|exact dzi|replace h:=cvi)
   all_goals try exact cz
   ·rw[htk];exact Z0 (enc:=encB) (z:=1) (fun _=>rfl) _
   ·rw[htk];show(0+(T.map encB).length)*1≤_;rw[List.length_map];omega
   ·rw[htk];show 0+(T.map encB).length≤_;rw[List.length_map];omega
   ·have h3:(T.map encB).length=0:=htk▸h
    rw[List.length_map]at h3;omega
   ·refine⟨⟨[(4,vB T)],[(0,rrB B (a+n) 0)],1⟩,?_,_,rfl,hP⟩
    exact SU (K:=1+16*RR) (cap:=none) rfl rfl (by kernel_rfl) htk (by rw[htk,List.length_map,Nat.zero_add]) (by kernel_rfl)
 ·rw[show ZN n B a e=([],a,e) from by unfold ZN;exact if_pos h]at hP
  repeat' first|refine And.intro ?_ ?_|(intro h;try first|exact dz|replace h:=cv)
  all_goals try exact cz
  all_goals exact⟨⟨[(4,vB [])],[(0,rrB B a e)],1⟩,Q0 [0] (by exact rfl) ⟨.zeroT _ _ _ rfl,trivial⟩ ⟨⟨by decide,_,rfl,.refl _⟩,trivial⟩,_,rfl,hP⟩
def FU:SpecT:=fun args H nx Post=>∃B a e n,args=[.ptr 0 0 0,.int .i64 (n:Nat)]∧H=[(0,rrB B a e)]∧nx=1∧(B.length≤1000000∧a≤B.length∧n≤1000000)∧Post (vB (ZN n B a e).1) [(0,rrB B (ZN n B a e).2.1 (ZN n B a e).2.2)] 1
theorem JM[Syms]:FU.ok Try.prog 30:=by
 rintro args H nx Post ⟨B,a,e,n,rfl,rfl,rfl,⟨h1,h2,h3⟩,h⟩
 exact Qj Qf Qg Q3 TV Qw (Nt B a e n h1 h2 h3 h)
abbrev cRG:CallT:=Q6 30 (QG FU) Q7
theorem TY[Syms]:cRG.ok Try.prog:=Q4 JM Q9
theorem LE(n:Nat):Z6 n=QO (QF n) fun v=>XL (leV v):=rfl
def T2(B:List UInt8)(a:Nat)(e:Int)(v:List UInt8)(i:Nat):St:=⟨[(5,vB v),(6,.int .u64 (leV (v.take i):Nat)),(7,.int .i64 i)],[(0,rrB B a e)],1⟩
def XB(n:Nat)(B:List UInt8)(a:Nat)(e:Int):Nat×Nat×Int:=(leV (ZN n B a e).1,(ZN n B a e).2)
theorem Ma(n:Nat){B:List UInt8}{a:Nat}(e:Int)(ha:a≤B.length):ROP (Z6 n) (XB n) B a e:=by
 have hro:=Mo n e ha
 exact LE n▸RO.bind (fun _=>Z5 _) hro (RO.ret _ hro.1)
theorem Wx(n:Nat)(B:List UInt8)(a:Nat)(e:Int):(XB n B a e).1<256^n:=by
 show leV (ZN n B a e).1<_
 rcases UG n B a e with h|h
 ·have:=JV (ZN n B a e).1;rwa [h]at this
 ·rw[h];exact Nat.pow_pos (by decide)
theorem PQ[Syms]{Post:AVal→Heap→Nat→Prop}(B:List UInt8)(a:Nat)(e:Int)(n:Nat)(hB:B.length≤1000000)(ha:a≤B.length)(hn:n≤8)(hP:Post (.int .u64 ((XB n B a e).1:Nat)) [(0,rrB B (XB n B a e).2.1 (XB n B a e).2.2)] 1):
 fnT Q7 cRG (Qx fns) (Qo tys) (Qz plt) 100 63 [.ptr 0 0 0,.int .i64 (n:Nat)] [(0,rrB B a e)] 1 Post:=by
 repeat' first|refine And.intro ?_ ?_|(intro h;try first|exact dz|replace h:=cv)
 all_goals try exact cz
 refine⟨[0],[.ptr 0 0 0,.int .i64 (n:Nat)],[(0,rrB B a e)],by exact rfl,⟨.refl _,.refl _,trivial⟩,⟨⟨by decide,_,rfl,.refl _⟩,trivial⟩,B,a,e,n,rfl,rfl,rfl,⟨hB,ha,by omega⟩,?_⟩
 have hvl:=UG n B a e
 unfold XB at hP
 generalize ZN n B a e=g at *
 obtain⟨v,a',e'⟩:=g
 dsimp only at hP hvl ⊢
 have hv8:v.length≤8:=by
  rcases hvl with h|h
  ·omega
  ·subst h;simp
 clear hvl
 repeat' first|refine And.intro ?_ ?_|(intro h;try first|exact dz|replace h:=cv)
 all_goals try exact cz
 refine⟨fun m s=>∃i:Nat,(i≤v.length∧m=v.length-i)∧s=T2 B a' e' v i,⟨_,T2 B a' e' v 0,Q0 [0] (by exact rfl) ⟨.refl _,.refl _,.refl _,trivial⟩ ⟨⟨by decide,_,rfl,.refl _⟩,trivial⟩,0,⟨by omega,rfl⟩,rfl⟩,?_⟩
 rintro m s ⟨i,⟨hi,rfl⟩,rfl⟩
 by_cases h1:i<v.length
 ·have hw:wr .u64 (8*wr .u64 (i:Int))=8*(i:Int):=by
   rw[KD (n:=i) (by omega),show 8*(i:Int)=((8*i:Nat):Int) by omega,KD (by omega)]
  have hst:=Sr (leV (v.take i)) (v.getD i 0).toNat i (by have:=JV (v.take i);rwa [List.length_take,Nat.min_eq_left (by omega)]at this) (by omega) (v.getD i 0).toNat_lt
  rw[←CL h1]at hst
  repeat' first|refine And.intro ?_ ?_|(intro h;try first|exact dz|replace h:=cv)
  all_goals try exact cz
  all_goals(try exact IR _)
  exact⟨_,T2 B a' e' v (i+1),Q0 [0] (by exact rfl) ⟨.refl _,Qm (by rw[hw];exact hst),Qm (by omega),trivial⟩ ⟨⟨by decide,_,rfl,.refl _⟩,trivial⟩,⟨i+1,⟨by omega,rfl⟩,rfl⟩,by omega⟩
 ·obtain rfl:i=v.length:=by omega
  repeat' first|refine And.intro ?_ ?_|(intro h;try first|exact dz|replace h:=cv)
  all_goals try exact cz
  exact⟨⟨[(4,.int .u64 (leV v:Nat))],[(0,rrB B a' e')],1⟩,Q0 [0] (by exact rfl) ⟨Qm (by rw[List.take_length]),trivial⟩ ⟨⟨by decide,_,rfl,.refl _⟩,trivial⟩,_,rfl,hP⟩
def BU:SpecT:=fun args H nx Post=>∃B a e n,args=[.ptr 0 0 0,.int .i64 (n:Nat)]∧H=[(0,rrB B a e)]∧nx=1∧(B.length≤1000000∧a≤B.length∧n≤8)∧Post (.int .u64 ((XB n B a e).1:Nat)) [(0,rrB B (XB n B a e).2.1 (XB n B a e).2.2)] 1
theorem MF[Syms]:BU.ok Try.prog 63:=by
 rintro args H nx Post ⟨B,a,e,n,rfl,rfl,rfl,⟨h1,h2,h3⟩,h⟩
 exact Qj Qf Qg Q3 TY Qw (PQ B a e n h1 h2 h3 h)
theorem Sk:∀y:Fin 256,(y.val &&& 127)=y.val%128:=by decide
theorem Q0f(x:Nat)(h:x<256):wr .u64 (IntKind.u8.wrap (((BitVec.ofInt 8 (x:Int) &&& BitVec.ofInt 8 127).toNat:Nat):Int))=((x%128:Nat):Int):=by
 have h1:(BitVec.ofInt 8 ((x:Nat):Int) &&& BitVec.ofInt 8 127).toNat=x%128:=by
  rw[BitVec.toNat_and]
  have e1:(BitVec.ofInt 8 ((x:Nat):Int)).toNat=x:=by simp;omega
  have e2:(BitVec.ofInt 8 127).toNat=127:=by decide
  rw[e1,e2]
  exact Sk ⟨x,h⟩
 rw[h1]
 have hlt:x%128<128:=Nat.mod_lt _ (by decide)
 generalize x%128=y at *
 have:IntKind.u8.wrap ((y:Nat):Int)=(y:Int):=by
  simp[IntKind.wrap,IntKind.bits,IntKind.signed]
  omega
 rw[this,KD (by omega)]
def ST(b:List UInt8)(i v:Nat):St:=⟨[(0,vB b),(5,.int .u64 v),(6,.int .i64 i)],[],0⟩
theorem PI[Syms](b:List UInt8)(hl:b.length≤1000000):
 fnT Q7 Q7 (Qx fns) (Qo tys) (Qz plt) 100 87 [vB b] [] 0 (fun v H _=>v=Fl (QW b 0 0)∧H=[]):=by
 refine⟨fun m s=>∃i v:Nat,(i≤b.length∧i≤9∧m=b.length-i∧v<2^(7*i)∧QW (b.drop i) i v=QW b 0 0)∧s=ST b i v,⟨_,ST b 0 0,Q1 [0,5,6] rfl,0,0,⟨by omega,by omega,rfl,by decide,rfl⟩,rfl⟩,?_⟩
 rintro m s ⟨i,v,⟨hi,hi10,rfl,hv,hg⟩,rfl⟩
 by_cases h1:i<b.length
 ·have hd:b.drop i=b.getD i 0::b.drop (i+1):=by
   rw[List.drop_eq_getElem_cons h1,List.getD_eq_getElem?_getD,List.getElem?_eq_getElem h1];rfl
  rw[hd,QW]at hg
  have hx8:(b.getD i 0).toNat<256:=(b.getD i 0).toNat_lt
  have hw:wr .u64 (7*wr .u64 (i:Int))=7*(i:Int):=by
   rw[KD (n:=i) (by omega),show 7*(i:Int)=((7*i:Nat):Int) by omega,KD (by omega)]
  generalize hx:(b.getD i 0).toNat=x at *
  have hx1:=OH
  have hx2:=hx
  have hx3:=hx
  have hx4:((i:Nat):Int).toNat=i:=Int.toNat_natCast i
  have hsv:¬(i=9∧1<x)→IntKind.u64.wrap (((BitVec.ofInt 64 (v:Int) ||| BitVec.ofInt 64 (wr .u64 (wr .u64 (IntKind.u8.wrap (((BitVec.ofInt 8 (((b.getD i 0).toNat:Nat):Int) &&& BitVec.ofInt 8 127).toNat:Nat):Int))*2^min ((wr .u64 (7*wr .u64 (i:Int))).toNat) 64))).toNat:Nat):Int)=((v+x%128*2^(7*i):Nat):Int):=fun hc=>by
   rw[hx,Q0f x hx8,hw,shlV x i hi10 (by omega),orV v x i hv hi10 (by omega)]
  by_cases h2:i=9∧1<x
  ·rw[if_pos h2]at hg
   obtain⟨h29,h2⟩:=h2
   repeat' first|refine And.intro ?_ ?_|(intro h;try first|exact dzi|replace h:=cvi)
   all_goals try exact cz
   exact⟨_,Q1 [2,3,4] rfl,_,rfl,congrArg Fl hg,rfl⟩
  ·rw[if_neg h2]at hg
   by_cases h3:x<128
   ·rw[if_pos h3]at hg
    by_cases h4:x=0∧0<i
    ·rw[if_pos h4]at hg
     obtain⟨h4,h5⟩:=h4
     repeat' first|refine And.intro ?_ ?_|(intro h;try first|exact dzi|replace h:=cvi)
     all_goals try exact cz
     all_goals(try exact IR _)
     all_goals exact⟨_,Q1 [2,3,4] rfl,_,rfl,congrArg Fl hg,rfl⟩
    ·rw[if_neg h4]at hg
     repeat' first|refine And.intro ?_ ?_|(intro h;try first|exact dzi|replace h:=cvi)
     all_goals try exact cz
     all_goals(try exact IR _)
     all_goals refine⟨⟨[(2,.int .u64 ((v+x%128*2^(7*i):Nat):Int)),(3,.int .i64 ((i+1:Nat):Int)),(4,.int .i64 0)],[],0⟩,Q0 [] rfl ⟨Qm ?_,Qm (by omega),.refl _,trivial⟩ trivial,_,rfl,congrArg Fl hg,rfl⟩
     all_goals exact hsv h2
   ·rw[if_neg h3]at hg
    repeat' first|refine And.intro ?_ ?_|(intro h;try first|exact dzi|replace h:=cvi)
    all_goals try exact cz
    all_goals(try exact IR _)
    refine⟨_,ST b (i+1) (v+x%128*2^(7*i)),Q0 [] rfl ⟨.refl _,Qm ?_,Qm (by omega),trivial⟩ trivial,⟨i+1,_,⟨by omega,by omega,rfl,P6 hv,hg⟩,rfl⟩,by omega⟩
    exact hsv h2
 ·obtain rfl:i=b.length:=by omega
  rw[List.drop_length,QW]at hg
  repeat' first|refine And.intro ?_ ?_|(intro h;try first|exact dz|replace h:=cv)
  all_goals try exact cz
  exact⟨_,Q1 [2,3,4] rfl,_,rfl,congrArg Fl hg,rfl⟩
theorem Cg[Syms]:Zs Try.prog 87 S_get:=by
 rintro args K ⟨b,rfl,h,hk⟩
 exact⟨rfl,_,rfl,hk,fnI Qf Qg Q3 Q9 Qw (PI b h)⟩
end
section
set_option maxRecDepth 100000
set_option maxHeartbeats 4000000
def WJ(r:BR):Nat×BR:=if r.e≠0 then(0,r)else if(QW r.b 0 0).2.2≠0 then(0,Qy r (QW r.b 0 0).2.2)else((QW r.b 0 0).1,⟨r.b.drop (QW r.b 0 0).2.1,0⟩)
theorem Bu{b:List UInt8}(h:(QW b 0 0).2.2=0):(QW b 0 0).2.1≤b.length:=by
 have h0:(QW (b++[]) 0 0).2.2=0:=by rw[List.append_nil];exact h
 rcases Ko b [] 0 0 h0 with⟨_,h1⟩|h1
 ·omega
 ·rw[h1]at h;exact absurd h (by decide)
def KH(most:Nat)(w:Int)(v:Nat):BR→Nat×BR:=fun r=>if most<v then(0,Qy r w)else(v,r)
theorem Nd(most:Nat)(w:Int)(v:Nat):Rd (KH most w v):=by
 unfold KH
 by_cases h:most<v
 ·simp only[if_pos h];exact Il 0 w
 ·simp only[if_neg h];exact Z5 v
theorem Ln{most:Nat}{w:Int}(hw:w≠0)(r:BR):(QD most w r).2.e=(QO WJ (KH most w) r).2.e∧((QO WJ (KH most w) r).2.e=0→QD most w r=QO WJ (KH most w) r):=by
 obtain⟨b,e⟩:=r
 by_cases he:e=0
 ·subst he
  have hn:QD most w ⟨b,0⟩=if(QF (QW b 0 0).2.1 (X4 most w ⟨b,0⟩)).2.e≠0 then(0,(QF (QW b 0 0).2.1 (X4 most w ⟨b,0⟩)).2)else((QW b 0 0).1,(QF (QW b 0 0).2.1 (X4 most w ⟨b,0⟩)).2):=if_neg (fun k=>k rfl)
  have hr:WJ ⟨b,0⟩=if(QW b 0 0).2.2≠0 then(0,Qy ⟨b,0⟩ (QW b 0 0).2.2)else((QW b 0 0).1,⟨b.drop (QW b 0 0).2.1,0⟩):=if_neg (fun k=>k rfl)
  have hb:QO WJ (KH most w) ⟨b,0⟩=KH most w (WJ ⟨b,0⟩).1 (WJ ⟨b,0⟩).2:=rfl
  by_cases hg:(QW b 0 0).2.2=0
  ·rw[if_neg (fun k=>k hg)]at hr
   rw[hb,hr]
   by_cases hm:most<(QW b 0 0).1
   ·have h1:X4 most w ⟨b,0⟩=⟨b,w⟩:=by
     unfold X4
     rw[if_pos ⟨hg,hm⟩]
     show Qy (Qy ⟨b,0⟩ (QW b 0 0).2.2) w=_
     rw[hg];rfl
    have h2:=(YR (QW b 0 0).2.1).stick ⟨b,w⟩ hw
    rw[hn,h1,if_pos (by rw[h2];exact hw)]
    unfold KH
    rw[if_pos hm]
    exact⟨h2,fun h=>absurd (show w=0 from h) hw⟩
   ·have h1:X4 most w ⟨b,0⟩=⟨b,0⟩:=by
     unfold X4
     rw[if_neg (fun hh=>hm hh.2)]
     show Qy ⟨b,0⟩ (QW b 0 0).2.2=_
     rw[hg];rfl
    have hle:=Bu hg
    have ht:QF (QW b 0 0).2.1 ⟨b,0⟩=(b.take (QW b 0 0).2.1,⟨b.drop (QW b 0 0).2.1,0⟩):=by
     unfold QF
     rw[if_neg (show ¬(⟨b,0⟩:BR).b.length<(QW b 0 0).2.1 from Nat.not_lt.2 hle),if_neg (fun k=>k rfl)]
    rw[hn,h1,ht,if_neg (fun k=>k rfl)]
    unfold KH
    rw[if_neg hm]
    exact⟨rfl,fun _=>rfl⟩
  ·rw[if_pos hg]at hr
   have hf:Qy ⟨b,0⟩ (QW b 0 0).2.2=⟨b,(QW b 0 0).2.2⟩:=rfl
   have h1:X4 most w ⟨b,0⟩=⟨b,(QW b 0 0).2.2⟩:=by
    unfold X4
    rw[if_neg (fun hh=>hg hh.1)];rfl
   have h2:=(YR (QW b 0 0).2.1).stick ⟨b,(QW b 0 0).2.2⟩ hg
   rw[hb,hr,hn,h1,if_pos (by rw[h2];exact hg),hf]
   unfold KH
   rw[if_neg (Nat.not_lt_zero most)]
   exact⟨h2,fun h=>absurd (show(QW b 0 0).2.2=0 from h) hg⟩
 ·have hn:QD most w ⟨b,e⟩=(0,⟨b,e⟩):=if_pos he
  have hr:WJ ⟨b,e⟩=(0,⟨b,e⟩):=if_pos he
  have hb:QO WJ (KH most w) ⟨b,e⟩=(0,⟨b,e⟩):=by
   show KH most w (WJ ⟨b,e⟩).1 (WJ ⟨b,e⟩).2=_
   rw[hr]
   exact if_neg (Nat.not_lt_zero most)
  rw[hn,hb]
  exact⟨rfl,fun _=>rfl⟩
theorem RO.num{most:Nat}{w:Int}(hw:w≠0){B:List UInt8}{a a':Nat}{e e':Int}{v:Nat}(h:RO (QO WJ (KH most w)) B a e v a' e'):RO (QD most w) B a e v a' e':=by
 obtain⟨h1,h2,h3⟩:=h
 obtain⟨k1,k2⟩:=Ln hw ⟨B.drop a,e⟩ (most:=most)
 exact⟨h1,k1.trans h2,fun h0=>(k2 (h2.trans h0)).trans (h3 h0)⟩
abbrev cRR:CallT:=Q6 87 (X0 (seeW S_get)) (Q6 61 (QG VL) Q7)
theorem TW[Syms]:cRR.ok Try.prog:=Qh Cg.seeW (Q4 Vx Q9)
abbrev cRR0:CallT:=Q6 87 (X0 (seeW S_get)) Q7
theorem P0[Syms]:cRR0.det Try.prog:=Zz Cg.seeW Q3
noncomputable def plRR:Nat→Nat→Pl:=XD [(62,7)] (Qz plt)
def W2(B:List UInt8)(a:Nat)(e:Int):Nat×Nat×Int:=if e≠0 then(0,a,e)else if(QW (B.drop a) 0 0).2.2≠0 then(0,a,(QW (B.drop a) 0 0).2.2)else((QW (B.drop a) 0 0).1,a+(QW (B.drop a) 0 0).2.1,0)
theorem NE{B:List UInt8}{a:Nat}(e:Int)(ha:a≤B.length):ROP WJ W2 B a e:=by
 unfold ROP W2
 by_cases h:e=0
 ·subst h
  have hg0:WJ ⟨B.drop a,0⟩=if(QW (B.drop a) 0 0).2.2≠0 then(0,Qy ⟨B.drop a,0⟩ (QW (B.drop a) 0 0).2.2)else((QW (B.drop a) 0 0).1,⟨(B.drop a).drop (QW (B.drop a) 0 0).2.1,0⟩):=if_neg (fun k=>k rfl)
  rw[if_neg (fun k=>k rfl)]
  by_cases hx:(QW (B.drop a) 0 0).2.2=0
  ·have hle:=Bu hx
   rw[List.length_drop]at hle
   rw[if_neg (fun k=>k hx)]at hg0 ⊢
   rw[List.drop_drop]at hg0
   exact⟨show a+_≤B.length by omega,by rw[hg0],fun _=>hg0⟩
  ·rw[if_pos hx]at hg0 ⊢
   exact⟨ha,by rw[hg0];rfl,fun h=>absurd h hx⟩
 ·rw[if_pos h]
  have hr:WJ ⟨B.drop a,e⟩=(0,⟨B.drop a,e⟩):=if_pos h
  exact⟨ha,by rw[hr],fun h0=>absurd h0 h⟩
theorem PT[Syms]{Post:AVal→Heap→Nat→Prop}(B:List UInt8)(a:Nat)(e:Int)(hB:B.length≤1000000)(ha:a≤B.length)(hP:Post (.int .u64 ((W2 B a e).1:Nat)) [(0,rrB B (W2 B a e).2.1 (W2 B a e).2.2)] 1):
 fnT cRR0 cRR (Qx fns) (Qo tys) plRR 100 62 [.ptr 0 0 0] [(0,rrB B a e)] 1 Post:=by
 have hbm:(B.map encB).length=B.length:=List.length_map ..
 by_cases h:e=0
 ·subst h
  unfold W2 at hP
  rw[if_neg (fun k=>k rfl)]at hP
  have hx1:=hbm
  have hx2:=hbm
  have hx3:=hbm
  have hx4:=hbm
  have htk:List.take ((B.map encB).length-(asI (([rrR B a 0].getD 0 []).getD (0+1) .any)).toNat) (List.drop (asI (([rrR B a 0].getD 0 []).getD (0+1) .any)).toNat (B.map encB))=(B.drop a).map encB:=by
   show List.take ((B.map encB).length-((a:Nat):Int).toNat) (List.drop ((a:Nat):Int).toNat (B.map encB))=_
   rw[Int.toNat_natCast,List.take_of_length_le (by simp),List.map_drop]
  have hle:(QW (B.drop a) 0 0).2.2=0→(QW (B.drop a) 0 0).2.1≤B.length-a:=fun h=>by have:=Bu h;rwa [List.length_drop]at this
  repeat' first|refine And.intro ?_ ?_|(intro h;try first|exact dzi|replace h:=cvi)
  all_goals try exact cz
  refine⟨[vB (B.drop a)],⟨.tab htk,trivial⟩,B.drop a,rfl,by rw[List.length_drop];omega,?_⟩
  generalize hg:QW (B.drop a) 0 0=g at *
  obtain⟨v,n,x⟩:=g
  dsimp only at hP hle
  by_cases hx:x=0
  ·subst hx
   rw[if_neg (fun k=>k rfl)]at hP
   have hle:=hle rfl
   repeat' first|refine And.intro ?_ ?_|(intro h;try first|exact dzi|replace h:=cvi)
   all_goals try exact cz
   refine⟨⟨[(0,.ptr 0 0 0),(3,.int .u64 (v:Nat))],[(0,rrB B (a+n) 0)],1⟩,Q0 [0] (by kernel_rfl) ⟨.refl _,.refl _,trivial⟩ ⟨⟨by decide,_,rfl,Qs (row:=rrR B (a+n) 0) ?_ (rrF B (a+n) 0)⟩,trivial⟩,?_⟩
   ·exact⟨.refl _,Qm (show wr .i64 (((a:Nat):Int)+((n:Nat):Int))=((a+n:Nat):Int) by rw[wrI (by omega)];omega),.refl _,trivial⟩
   repeat' first|refine And.intro ?_ ?_|(intro h;try first|exact dzi|replace h:=cvi)
   all_goals try exact cz
   exact⟨⟨[(2,.int .u64 (v:Nat))],[(0,rrB B (a+n) 0)],1⟩,Q0 [0] (by exact rfl) ⟨.refl _,trivial⟩ ⟨⟨by decide,_,rfl,.refl _⟩,trivial⟩,_,rfl,hP⟩
  ·rw[if_pos hx]at hP
   repeat' first|refine And.intro ?_ ?_|(intro h;try first|exact dzi|replace h:=cvi)
   all_goals try exact cz
   refine⟨[0],[.ptr 0 0 0,.int .i64 x],[(0,rrB B a 0)],by kernel_rfl,⟨.refl _,.refl _,trivial⟩,⟨⟨by decide,_,rfl,.refl _⟩,trivial⟩,B,a,0,x,rfl,rfl,rfl,?_⟩
   rw[if_pos rfl]
   repeat' first|refine And.intro ?_ ?_|(intro h;try first|exact dzi|replace h:=cvi)
   all_goals try exact cz
   exact⟨⟨[(2,.int .u64 (0:Nat))],[(0,rrB B a x)],1⟩,Q0 [0] (by kernel_rfl) ⟨.refl _,trivial⟩ ⟨⟨by decide,_,rfl,.refl _⟩,trivial⟩,_,rfl,hP⟩
 ·unfold W2 at hP
  rw[if_pos h]at hP
  repeat' first|refine And.intro ?_ ?_|(intro h;try first|exact dz|replace h:=cv)
  all_goals try exact cz
  all_goals exact⟨⟨[(2,.int .u64 (0:Nat))],[(0,rrB B a e)],1⟩,Q0 [0] (by exact rfl) ⟨.refl _,trivial⟩ ⟨⟨by decide,_,rfl,.refl _⟩,trivial⟩,_,rfl,hP⟩
def II:SpecT:=fun args H nx Post=>∃B a e,args=[.ptr 0 0 0]∧H=[(0,rrB B a e)]∧nx=1∧(B.length≤1000000∧a≤B.length)∧Post (.int .u64 ((W2 B a e).1:Nat)) [(0,rrB B (W2 B a e).2.1 (W2 B a e).2.2)] 1
theorem Nw[Syms]:II.ok Try.prog 62:=by
 rintro args H nx Post ⟨B,a,e,rfl,rfl,rfl,⟨h1,h2⟩,h⟩
 exact Qj Qf Qg P0 TW Qw (PT B a e h1 h2 h)
abbrev cRN:CallT:=Q6 62 (QG II) (Q6 61 (QG VL) Q7)
theorem TX[Syms]:cRN.ok Try.prog:=Q4 Nw (Q4 Vx Q9)
def X5(most:Nat)(w:Int)(B:List UInt8)(a:Nat)(e:Int):Nat×Nat×Int:=if most<(W2 B a e).1 then(0,(W2 B a e).2.1,if(W2 B a e).2.2=0 then w else(W2 B a e).2.2)else W2 B a e
theorem M3{most:Nat}{w:Int}(hw:w≠0){B:List UInt8}{a:Nat}(e:Int)(ha:a≤B.length):ROP (QD most w) (X5 most w) B a e:=by
 have hro:=NE e ha
 unfold ROP at hro ⊢
 unfold X5
 generalize W2 B a e=g at *
 obtain⟨v,a1,e1⟩:=g
 dsimp only at hro ⊢
 refine RO.num hw (RO.bind (Nd most w) hro ?_)
 unfold KH
 by_cases hv:most<v
 ·rw[if_pos hv]
  refine⟨hro.1,?_,fun h0=>?_⟩
  ·unfold Qy
   dsimp only
   rw[if_pos hv]
   dsimp only
   split<;>rfl
  ·dsimp only at h0
   split at h0
   ·exact absurd h0 hw
   ·rename_i h;exact absurd h0 h
 ·rw[if_neg hv]
  rw[show(fun r:BR=>if most<v then(0,Qy r w)else(v,r))=XL v from by funext r;exact if_neg hv]
  exact RO.ret v hro.1
theorem Wv(most:Nat)(w:Int)(B:List UInt8)(a:Nat)(e:Int):(X5 most w B a e).1≤most:=by
 unfold X5
 split
 ·exact Nat.zero_le _
 ·omega
theorem PO[Syms]{Post:AVal→Heap→Nat→Prop}(B:List UInt8)(a:Nat)(e:Int)(most:Nat)(w:Int)(hB:B.length≤1000000)(ha:a≤B.length)(hm:most≤2000000)(hw:w≠0)(hP:Post (.int .i64 ((X5 most w B a e).1:Nat)) [(0,rrB B (X5 most w B a e).2.1 (X5 most w B a e).2.2)] 1):
 fnT Q7 cRN (Qx fns) (Qo tys) (Qz plt) 100 31 [.ptr 0 0 0,.int .i64 (most:Nat),.int .i64 w] [(0,rrB B a e)] 1 Post:=by
 have hwm:wr .u64 ((most:Nat):Int)=((most:Nat):Int):=KD (by omega)
 repeat' first|refine And.intro ?_ ?_|(intro h;try first|exact dz|replace h:=cv)
 all_goals try exact cz
 refine⟨[0],[.ptr 0 0 0],[(0,rrB B a e)],by exact rfl,⟨.refl _,trivial⟩,⟨⟨by decide,_,rfl,.refl _⟩,trivial⟩,B,a,e,rfl,rfl,rfl,⟨hB,ha⟩,?_⟩
 unfold X5 at hP
 generalize W2 B a e=g at *
 obtain⟨v,a1,e1⟩:=g
 dsimp only at hP ⊢
 by_cases hv:most<v
 ·rw[if_pos hv]at hP
  dsimp only at hP
  have hx1:=hwm
  have hx2:=hwm
  have hx3:=hwm
  have hx4:=hwm
  repeat' first|refine And.intro ?_ ?_|(intro h;try first|exact dzi|replace h:=cvi)
  all_goals try exact cz
  refine⟨[0],[.ptr 0 0 0,.int .i64 w],[(0,rrB B a1 e1)],by exact rfl,⟨.refl _,.refl _,trivial⟩,⟨⟨by decide,_,rfl,.refl _⟩,trivial⟩,B,a1,e1,w,rfl,rfl,rfl,?_⟩
  repeat' first|refine And.intro ?_ ?_|(intro h;try first|exact dzi|replace h:=cvi)
  all_goals try exact cz
  exact⟨⟨[(6,.int .i64 (0:Nat))],[(0,rrB B a1 (if e1=0 then w else e1))],1⟩,Q0 [0] (by exact rfl) ⟨.refl _,trivial⟩ ⟨⟨by decide,_,rfl,.refl _⟩,trivial⟩,_,rfl,hP⟩
 ·rw[if_neg hv]at hP
  dsimp only at hP
  have hwv:wr .i64 ((v:Nat):Int)=(v:Nat):=wrI (by omega)
  have hx1:=hwm
  have hx2:=hwm
  have hx3:=hwm
  have hx4:=hwm
  repeat' first|refine And.intro ?_ ?_|(intro h;try first|exact dzi|replace h:=cvi)
  all_goals try exact cz
  exact⟨⟨[(6,.int .i64 (v:Nat))],[(0,rrB B a1 e1)],1⟩,Q0 [0] (by exact rfl) ⟨Qm hwv,trivial⟩ ⟨⟨by decide,_,rfl,.refl _⟩,trivial⟩,_,rfl,hP⟩
def BS:SpecT:=fun args H nx Post=>∃B a e most w,args=[.ptr 0 0 0,.int .i64 (most:Nat),.int .i64 w]∧H=[(0,rrB B a e)]∧nx=1∧(B.length≤1000000∧a≤B.length∧most≤2000000∧w≠0)∧Post (.int .i64 ((X5 most w B a e).1:Nat)) [(0,rrB B (X5 most w B a e).2.1 (X5 most w B a e).2.2)] 1
theorem ME[Syms]:BS.ok Try.prog 31:=by
 rintro args H nx Post ⟨B,a,e,most,w,rfl,rfl,rfl,⟨h1,h2,h3,h4⟩,h⟩
 exact Qj Qf Qg Q3 TX Qw (PO B a e most w h1 h2 h3 h4 h)
end
section
set_option maxRecDepth 100000
set_option maxHeartbeats 4000000
theorem PX[Syms]{N:Nat}(b:List UInt8)(hb:0<b.length):Reb 0 N ⟨[(2,.ptr 0 0 0)],[(0,some (.cells [[.slice 1 0 b.length 1 none,.int .i64 0,.int .i64 0]] false)),(1,some (.cells (b.map encB) false))],2⟩ ⟨[(2,.ptr 0 0 0)],[(0,rrB b 0 0)],1⟩:=by
 have hs:FzV 1 (b.map encB) (.slice 1 0 b.length 1 none) (.vs 1 (b.map encB)):=by
  have:=FzV.sl (n:=1) (rows:=b.map encB) 0 b.length 1 none hb (by simp)
  rwa [List.drop_zero,List.take_of_length_le (by simp)]at this
 refine(QH (n:=1) (e3:=[(2,.ptr 0 0 0)]) (H3:=[(0,rrB b 0 0)]) rfl (fB b) ⟨.same _,trivial⟩ ⟨⟨by decide,_,rfl,.cells [[.slice 1 0 b.length 1 none,.int .i64 0,.int .i64 0]] [rrR b 0 0] false rfl (fun j r r' h h'=>?_)⟩,trivial⟩).trans (Q0 [0] rfl ⟨.refl _,trivial⟩ ⟨⟨by decide,_,rfl,.refl _⟩,trivial⟩)
 cases j with
 |zero=>
  cases h;cases h'
  exact⟨hs,.same _,.same _,trivial⟩
 |succ j=>simp at h
theorem PP[Syms]{Post:AVal→Heap→Nat→Prop}(b:List UInt8)(hl:b.length≤1000000)(hP:Post (.ptr 0 0 0) [(0,rrB b 0 0)] 1):
 fnT Q7 Q7 (Qx fns) (Qo tys) (Qz plt) 100 29 [vB b] [] 0 Post:=by
 have e:=Zx encB 0 b
 have el:(Zq b.length fun i=>encB (b.getD i 0)).length=b.length:=Ql _ _
 repeat' first|refine And.intro ?_ ?_|(intro h;try first|exact dz|replace h:=cv)
 all_goals try exact cz
 ·rw[e];exact Z0 (enc:=encB) (z:=1) (fun _=>rfl) b
 ·have h0:b=[]:=List.eq_nil_of_length_eq_zero (by omega)
  subst h0
  exact⟨⟨[(2,.ptr 0 0 0)],[(0,rrB [] 0 0)],1⟩,Q0 [1] (by exact rfl) ⟨.refl _,trivial⟩ ⟨⟨by decide,_,rfl,Qs (row:=rrR [] 0 0) ⟨.zero _ _ rfl,.refl _,.refl _,trivial⟩ (rrF [] 0 0)⟩,trivial⟩,_,rfl,hP⟩
 ·refine⟨⟨[(2,.ptr 0 0 0)],[(0,rrB b 0 0)],1⟩,?_,_,rfl,hP⟩
  have hw:Zq b.length (fun i=>encB (b.getD i 0))=b.map encB:=e
  refine Reb.trans (s':=⟨[(2,.ptr 0 0 0)],[(0,some (.cells [[.slice 1 0 b.length 1 none,.int .i64 0,.int .i64 0]] false)),(1,some (.cells (b.map encB) false))],2⟩) (Q0 [2,1] (by exact rfl) ⟨.refl _,trivial⟩ ⟨⟨by decide,_,rfl,QE ⟨Q8 (by rw[el,Nat.zero_add]),.refl _,.refl _,trivial⟩⟩,⟨by decide,_,rfl,Q2 hw (fB _)⟩,trivial⟩) ?_
  exact PX b (by omega)
def BT:SpecT:=fun args H nx Post=>∃b:List UInt8,args=[vB b]∧H=[]∧nx=0∧b.length≤1000000∧Post (.ptr 0 0 0) [(0,rrB b 0 0)] 1
theorem Ci[Syms]:BT.ok Try.prog 29:=by
 rintro args H nx Post ⟨b,rfl,rfl,rfl,h1,h⟩
 exact Qj Qf Qg Q3 Q9 Qw (PP b h1 h)
def WW(B:List UInt8)(a:Nat)(e:Int):Int:=if e=0∧a<B.length then 9 else e
theorem PR[Syms]{Post:AVal→Heap→Nat→Prop}(B:List UInt8)(a:Nat)(e:Int)(hB:B.length≤1000000)(ha:a≤B.length)(hP:Post (.int .i64 (WW B a e)) [(0,rrB B a e)] 1):
 fnT Q7 Q7 (Qx fns) (Qo tys) (Qz plt) 100 35 [.ptr 0 0 0] [(0,rrB B a e)] 1 Post:=by
 have hx1:(B.map encB).length=B.length:=List.length_map ..
 have hx2:=hx1
 have hx3:=hx1
 have hx4:=hx1
 unfold WW at hP
 by_cases h:e=0
 ·subst h
  by_cases h1:a<B.length
  ·rw[if_pos ⟨rfl,h1⟩]at hP
   have hd:(a:Int)<(B.length:Int):=by omega
   repeat' first|refine And.intro ?_ ?_|(intro h;try first|exact dzi|replace h:=cvi)
   all_goals try exact cz
   all_goals exact⟨⟨[(2,.int .i64 9)],[(0,rrB B a 0)],1⟩,Q0 [0] (by kernel_rfl) ⟨.refl _,trivial⟩ ⟨⟨by decide,_,rfl,.refl _⟩,trivial⟩,_,rfl,hP⟩
  ·rw[if_neg (fun k=>h1 k.2)]at hP
   have hd:¬(a:Int)<(B.length:Int):=by omega
   repeat' first|refine And.intro ?_ ?_|(intro h;try first|exact dzi|replace h:=cvi)
   all_goals try exact cz
   all_goals exact⟨⟨[(2,.int .i64 0)],[(0,rrB B a 0)],1⟩,Q0 [0] (by kernel_rfl) ⟨.refl _,trivial⟩ ⟨⟨by decide,_,rfl,.refl _⟩,trivial⟩,_,rfl,hP⟩
 ·rw[if_neg (fun k=>h k.1)]at hP
  repeat' first|refine And.intro ?_ ?_|(intro h;try first|exact dzi|replace h:=cvi)
  all_goals try exact cz
  all_goals exact⟨⟨[(2,.int .i64 e)],[(0,rrB B a e)],1⟩,Q0 [0] (by kernel_rfl) ⟨.refl _,trivial⟩ ⟨⟨by decide,_,rfl,.refl _⟩,trivial⟩,_,rfl,hP⟩
def BV:SpecT:=fun args H nx Post=>∃B a e,args=[.ptr 0 0 0]∧H=[(0,rrB B a e)]∧nx=1∧(B.length≤1000000∧a≤B.length)∧Post (.int .i64 (WW B a e)) [(0,rrB B a e)] 1
theorem Cj[Syms]:BV.ok Try.prog 35:=by
 rintro args H nx Post ⟨B,a,e,rfl,rfl,rfl,⟨h1,h2⟩,h⟩
 exact Qj Qf Qg Q3 Q9 Qw (PR B a e h1 h2 h)
abbrev cRn:CallT:=Q6 31 (QG BS) Q7
theorem TQ[Syms]:cRn.ok Try.prog:=Q4 ME Q9
def plainP(B:List UInt8)(a:Nat)(e:Int):Nat×Nat×Int:=X5 1048576 14 B a e
theorem Lg{B:List UInt8}{a:Nat}(e:Int)(ha:a≤B.length):ROP plainR plainP B a e:=M3 (by decide) e ha
theorem IY[Syms]{Post:AVal→Heap→Nat→Prop}(B:List UInt8)(a:Nat)(e:Int)(hB:B.length≤1000000)(ha:a≤B.length)(hP:Post (.int .i64 ((plainP B a e).1:Nat)) [(0,rrB B (plainP B a e).2.1 (plainP B a e).2.2)] 1):
 fnT Q7 cRn (Qx fns) (Qo tys) (Qz plt) 100 33 [.ptr 0 0 0] [(0,rrB B a e)] 1 Post:=by
 refine⟨[0],[.ptr 0 0 0,.int .i64 ((1048576:Nat):Int),.int .i64 14],[(0,rrB B a e)],by exact rfl,⟨.refl _,.refl _,.refl _,trivial⟩,⟨⟨by decide,_,rfl,.refl _⟩,trivial⟩,B,a,e,1048576,14,rfl,rfl,rfl,⟨hB,ha,by decide,by decide⟩,?_⟩
 replace hP:Post (.int .i64 ((X5 1048576 14 B a e).1:Nat)) [(0,rrB B (X5 1048576 14 B a e).2.1 (X5 1048576 14 B a e).2.2)] 1:=hP
 generalize X5 1048576 14 B a e=g at *
 obtain⟨v,a1,e1⟩:=g
 dsimp only at hP ⊢
 repeat' first|refine And.intro ?_ ?_|(intro h;try first|exact dz|replace h:=cv)
 all_goals try exact cz
 exact⟨⟨[(2,.int .i64 (v:Nat))],[(0,rrB B a1 e1)],1⟩,Q0 [0] (by exact rfl) ⟨.refl _,trivial⟩ ⟨⟨by decide,_,rfl,.refl _⟩,trivial⟩,_,rfl,hP⟩
def N6:SpecT:=fun args H nx Post=>∃B a e,args=[.ptr 0 0 0]∧H=[(0,rrB B a e)]∧nx=1∧(B.length≤1000000∧a≤B.length)∧Post (.int .i64 ((plainP B a e).1:Nat)) [(0,rrB B (plainP B a e).2.1 (plainP B a e).2.2)] 1
theorem EF[Syms]:N6.ok Try.prog 33:=by
 rintro args H nx Post ⟨B,a,e,rfl,rfl,rfl,⟨h1,h2⟩,h⟩
 exact Qj Qf Qg Q3 TQ Qw (IY B a e h1 h2 h)
theorem ZK{a b:Bool}(h:a=b):WkV (.bool a) (.bool b):=h▸ .refl _
theorem RO.truth{B:List UInt8}{a a1 v:Nat}{e e1:Int}(h:RO (Z6 1) B a e v a1 e1):RO truthR B a e v a1 (if 1<v then(if e1=0 then 10 else e1)else e1):=by
 have ht:truthR=QO (Z6 1) fun v r=>if 1<v then(0,Qy r 10)else(v,r):=by
  funext r;unfold truthR QO;rfl
 rw[ht]
 refine RO.bind (fun v=>?_) h ?_
 ·exact Nd 1 10 v
 ·by_cases hv:1<v
  ·rw[if_pos hv]
   refine⟨h.1,?_,fun h0=>?_⟩
   ·unfold Qy
    dsimp only
    rw[if_pos hv]
    dsimp only
    split<;>rfl
   ·split at h0
    ·exact absurd h0 (by decide)
    ·rename_i hh;exact absurd h0 hh
  ·rw[if_neg hv]
   rw[show(fun r:BR=>if 1<v then(0,Qy r 10)else(v,r))=XL v from by funext r;exact if_neg hv]
   exact RO.ret v h.1
theorem RO.map{α β:Type}{R:BR→α×BR}(f:α→β){B:List UInt8}{a a':Nat}{e e':Int}{v:α}(h:RO R B a e v a' e'):RO (fun r=>(f (R r).1,(R r).2)) B a e (f v) a' e':=
 ⟨h.1,h.2.1,fun h0=>by show(f (R ⟨B.drop a,e⟩).1,(R ⟨B.drop a,e⟩).2)=_;rw[h.2.2 h0]⟩
abbrev cRfl:CallT:=Q6 63 (QG BU) (Q6 61 (QG VL) Q7)
theorem S1[Syms]:cRfl.ok Try.prog:=Q4 MF (Q4 Vx Q9)
def truthP(B:List UInt8)(a:Nat)(e:Int):Nat×Nat×Int:=((XB 1 B a e).1,(XB 1 B a e).2.1,if 1<(XB 1 B a e).1 then(if(XB 1 B a e).2.2=0 then 10 else(XB 1 B a e).2.2)else(XB 1 B a e).2.2)
theorem Db{B:List UInt8}{a:Nat}(e:Int)(ha:a≤B.length):ROP truthR truthP B a e:=RO.truth (Ma 1 e ha)
theorem Nu[Syms]{Post:AVal→Heap→Nat→Prop}(B:List UInt8)(a:Nat)(e:Int)(hB:B.length≤1000000)(ha:a≤B.length)(hP:Post (.bool (decide ((truthP B a e).1=1))) [(0,rrB B (truthP B a e).2.1 (truthP B a e).2.2)] 1):
 fnT Q7 cRfl (Qx fns) (Qo tys) (Qz plt) 100 65 [.ptr 0 0 0] [(0,rrB B a e)] 1 Post:=by
 refine⟨[0],[.ptr 0 0 0,.int .i64 ((1:Nat):Int)],[(0,rrB B a e)],by exact rfl,⟨.refl _,.refl _,trivial⟩,⟨⟨by decide,_,rfl,.refl _⟩,trivial⟩,B,a,e,1,rfl,rfl,rfl,⟨hB,ha,by decide⟩,?_⟩
 have hv:=Wx 1 B a e
 unfold truthP at hP
 generalize XB 1 B a e=g at *
 obtain⟨v,a1,e1⟩:=g
 dsimp only at hP hv ⊢
 by_cases h1:1<v
 ·rw[if_pos h1,show decide (v=1)=false from decide_eq_false (by omega)]at hP
  repeat' first|refine And.intro ?_ ?_|(intro h;try first|exact dz|replace h:=cv)
  all_goals try exact cz
  refine⟨[0],[.ptr 0 0 0,.int .i64 10],[(0,rrB B a1 e1)],by exact rfl,⟨.refl _,.refl _,trivial⟩,⟨⟨by decide,_,rfl,.refl _⟩,trivial⟩,B,a1,e1,10,rfl,rfl,rfl,?_⟩
  repeat' first|refine And.intro ?_ ?_|(intro h;try first|exact dz|replace h:=cv)
  all_goals try exact cz
  exact⟨⟨[(2,.bool false)],[(0,rrB B a1 (if e1=0 then 10 else e1))],1⟩,Q0 [0] (by exact rfl) ⟨ZK (decide_eq_false (by omega)),trivial⟩ ⟨⟨by decide,_,rfl,.refl _⟩,trivial⟩,_,rfl,hP⟩
 ·rw[if_neg h1]at hP
  repeat' first|refine And.intro ?_ ?_|(intro h;try first|exact dz|replace h:=cv)
  all_goals try exact cz
  exact⟨⟨[(2,.bool (decide (v=1)))],[(0,rrB B a1 e1)],1⟩,Q0 [0] (by exact rfl) ⟨ZK (decide_eq_decide.2 (by omega)),trivial⟩ ⟨⟨by decide,_,rfl,.refl _⟩,trivial⟩,_,rfl,hP⟩
def Pe:SpecT:=fun args H nx Post=>∃B a e,args=[.ptr 0 0 0]∧H=[(0,rrB B a e)]∧nx=1∧(B.length≤1000000∧a≤B.length)∧Post (.bool (decide ((truthP B a e).1=1))) [(0,rrB B (truthP B a e).2.1 (truthP B a e).2.2)] 1
theorem IZ[Syms]:Pe.ok Try.prog 65:=by
 rintro args H nx Post ⟨B,a,e,rfl,rfl,rfl,⟨h1,h2⟩,h⟩
 exact Qj Qf Qg Q3 S1 Qw (Nu B a e h1 h2 h)
end
section
set_option maxRecDepth 100000
set_option maxHeartbeats 4000000
theorem XX[Syms]{N k n nx:Nat}{en:Env}{H:Heap}{row' row:List AVal}{B:List UInt8}{a:Nat}{e:Int}{rs:List ResultVar}{Post:AVal→Heap→Nat→Prop}(hk:en.get k= .ptr n 0 0)(H0:H.get 0=rrB B a e)(Hn:H.get n=some (.cells [row'] false))(hrow:Wf row' row)(hf:∀x∈row,x.flat=true)
 (hn:QJ 1 nx [0,n]=true) (hrs:Ze (Qo tys) ⟨[(k,.ptr 1 0 0)],[(0,rrB B a e),(1,some (.cells [row] false))],2⟩ rs=some (.agg row)) (hP:Post (.agg row) [(0,rrB B a e)] 2):
 ∃s3,Reb 1 N ⟨en,H,nx⟩ s3∧ ∃v,Ze (Qo tys) s3 rs=some v∧Vv Post v s3.heap s3.nx:=
 ⟨⟨[(k,.ptr 1 0 0)],[(0,rrB B a e),(1,some (.cells [row] false))],2⟩,Q0 [0,n] hn ⟨by rw[hk];exact .refl _,trivial⟩ ⟨⟨Nat.succ_pos _,_,H0,.refl _⟩,⟨Nat.lt_succ_self _,_,Hn,Qs hrow hf⟩,trivial⟩,_,hrs,_,HF,hP⟩
abbrev cRv:CallT:=Q6 63 (QG BU) (Q6 61 (QG VL) (Q6 31 (QG BS) (Q6 30 (QG FU) Q7)))
theorem TO[Syms]:cRv.ok Try.prog:=Q4 MF (Q4 Vx (Q4 ME (Q4 JM Q9)))
def Wr(k:Int)(B:List UInt8)(a:Nat)(e:Int):Vl×Nat×Int:=
 if k=1 then(⟨((truthP B a e).1:Nat),[]⟩,(truthP B a e).2)else
 if k=2 then(⟨wr .i32 ((XB 4 B a e).1:Nat),[]⟩,(XB 4 B a e).2)else
 if k=3 then(⟨wr .i64 ((XB 8 B a e).1:Nat),[]⟩,(XB 8 B a e).2)else
 (⟨0,(ZN (X5 100 5 B a e).1 B (X5 100 5 B a e).2.1 (X5 100 5 B a e).2.2).1⟩,(ZN (X5 100 5 B a e).1 B (X5 100 5 B a e).2.1 (X5 100 5 B a e).2.2).2)
theorem Nb(B:List UInt8)(a:Nat)(e:Int):Wr 1 B a e=(⟨((truthP B a e).1:Nat),[]⟩,(truthP B a e).2):=rfl
theorem Na(B:List UInt8)(a:Nat)(e:Int):Wr 2 B a e=(⟨wr .i32 ((XB 4 B a e).1:Nat),[]⟩,(XB 4 B a e).2):=rfl
theorem N9(B:List UInt8)(a:Nat)(e:Int):Wr 3 B a e=(⟨wr .i64 ((XB 8 B a e).1:Nat),[]⟩,(XB 8 B a e).2):=rfl
theorem N8{k:Int}(h:¬k=1∧ ¬k=2∧ ¬k=3)(B:List UInt8)(a:Nat)(e:Int):Wr k B a e=(⟨0,(ZN (X5 100 5 B a e).1 B (X5 100 5 B a e).2.1 (X5 100 5 B a e).2.2).1⟩,(ZN (X5 100 5 B a e).1 B (X5 100 5 B a e).2.1 (X5 100 5 B a e).2.2).2):=by
 unfold Wr
 rw[if_neg h.1,if_neg h.2.1,if_neg h.2.2]
theorem Po(k:Int){B:List UInt8}{a:Nat}(e:Int)(ha:a≤B.length):ROP (Yx k) (Wr k) B a e:=by
 by_cases h1:k=1
 ·subst h1
  show RO _ B a e (Wr 1 B a e).1 _ _
  rw[Nb]
  exact RO.map (fun n:Nat=>(⟨(n:Nat),[]⟩:Vl)) (Db e ha)
 by_cases h2:k=2
 ·subst h2
  show RO _ B a e (Wr 2 B a e).1 _ _
  rw[Na]
  exact RO.map (fun n:Nat=>(⟨wr .i32 (n:Nat),[]⟩:Vl)) (Ma 4 e ha)
 by_cases h3:k=3
 ·subst h3
  show RO _ B a e (Wr 3 B a e).1 _ _
  rw[N9]
  exact RO.map (fun n:Nat=>(⟨wr .i64 (n:Nat),[]⟩:Vl)) (Ma 8 e ha)
 have h4:Yx k=QO (QD 100 5) fun n=>QO (QF n) fun t=>XL (⟨0,t⟩:Vl):=by
  funext r;exact Ev ⟨h1,h2,h3⟩ r
 show RO _ B a e (Wr k B a e).1 _ _
 rw[h4,N8 ⟨h1,h2,h3⟩]
 have hr:=M3 (most:=100) (w:=5) (by decide) e ha
 have hr2:=Mo (X5 100 5 B a e).1 (X5 100 5 B a e).2.2 hr.1
 exact RO.bind (fun n=>Qk (S:=fun t=>XL (⟨0,t⟩:Vl)) (YR n) fun t=>Z5 _) hr (RO.bind (fun t=>Z5 _) hr2 (RO.ret _ hr2.1))
theorem PM[Syms]{Post:AVal→Heap→Nat→Prop}(k:Int)(B:List UInt8)(a:Nat)(e:Int)(hB:B.length≤1000000)(ha:a≤B.length)(hP:Post (.agg (ZX (Wr k B a e).1)) [(0,rrB B (Wr k B a e).2.1 (Wr k B a e).2.2)] 2):
 fnT Q7 cRv (Qx fns) (Qo tys) (Qz plt) 100 66 [.ptr 0 0 0,.int .i64 k] [(0,rrB B a e)] 1 (Vv Post):=by
 by_cases h1:k=1
 ·subst h1
  repeat' first|refine And.intro ?_ ?_|(intro h;try first|exact dz|replace h:=cv)
  all_goals try exact cz
  refine⟨[0],[.ptr 0 0 0,.int .i64 ((1:Nat):Int)],[(0,rrB B a e)],by exact rfl,⟨.refl _,.refl _,trivial⟩,⟨⟨by decide,_,rfl,.refl _⟩,trivial⟩,B,a,e,1,rfl,rfl,rfl,⟨hB,ha,by decide⟩,?_⟩
  have hv:=Wx 1 B a e
  rw[Nb]at hP
  unfold truthP at hP
  generalize XB 1 B a e=g at *
  obtain⟨v,a1,e1⟩:=g
  dsimp only at hP hv ⊢
  have hw:wr .i64 ((v:Nat):Int)=(v:Nat):=wrI (by omega)
  have hx1:=hw
  have hx2:=hw
  have hx3:=hw
  have hx4:=hw
  by_cases h1:1<v
  ·rw[if_pos h1]at hP
   have hd:(1:Int)<(v:Int):=by omega
   repeat' first|refine And.intro ?_ ?_|(intro h;try first|exact dzi|replace h:=cvi)
   all_goals try exact cz
   refine⟨[0],[.ptr 0 0 0,.int .i64 10],[(0,rrB B a1 e1)],by exact rfl,⟨.refl _,.refl _,trivial⟩,⟨⟨by decide,_,rfl,.refl _⟩,trivial⟩,B,a1,e1,10,rfl,rfl,rfl,?_⟩
   repeat' first|refine And.intro ?_ ?_|(intro h;try first|exact dzi|replace h:=cvi)
   all_goals try exact cz
   exact XX (k:=4) (n:=1) (row:=ZX ⟨(v:Nat),[]⟩) rfl rfl rfl ⟨Qm hw,.refl _,trivial⟩ (fV _) (by first|rfl|kernel_rfl) rfl hP
  ·rw[if_neg h1]at hP
   have hd:¬(1:Int)<(v:Int):=by omega
   repeat' first|refine And.intro ?_ ?_|(intro h;try first|exact dzi|replace h:=cvi)
   all_goals try exact cz
   exact XX (k:=4) (n:=1) (row:=ZX ⟨(v:Nat),[]⟩) rfl rfl rfl ⟨Qm hw,.refl _,trivial⟩ (fV _) (by first|rfl|kernel_rfl) rfl hP
 by_cases h2:k=2
 ·subst h2
  repeat' first|refine And.intro ?_ ?_|(intro h;try first|exact dz|replace h:=cv)
  all_goals try exact cz
  refine⟨[0],[.ptr 0 0 0,.int .i64 ((4:Nat):Int)],[(0,rrB B a e)],by exact rfl,⟨.refl _,.refl _,trivial⟩,⟨⟨by decide,_,rfl,.refl _⟩,trivial⟩,B,a,e,4,rfl,rfl,rfl,⟨hB,ha,by decide⟩,?_⟩
  have hv:=Wx 4 B a e
  rw[Na]at hP
  generalize XB 4 B a e=g at *
  obtain⟨v,a1,e1⟩:=g
  dsimp only at hP hv ⊢
  have hw:wr .u32 ((v:Nat):Int)=(v:Nat):=by
   have hv:v<4294967296:=hv
   unfold wr
   exact if_pos ⟨Int.natCast_nonneg v,show((v:Nat):Int)≤4294967295 by omega⟩
  repeat' first|refine And.intro ?_ ?_|(intro h;try first|exact dz|replace h:=cv)
  all_goals try exact cz
  exact XX (k:=4) (n:=1) (row:=ZX ⟨wr .i32 (v:Nat),[]⟩) rfl rfl rfl ⟨Qm (by rw[hw];exact SE _),.refl _,trivial⟩ (fV _) (by first|rfl|kernel_rfl) rfl hP
 by_cases h3:k=3
 ·subst h3
  repeat' first|refine And.intro ?_ ?_|(intro h;try first|exact dz|replace h:=cv)
  all_goals try exact cz
  refine⟨[0],[.ptr 0 0 0,.int .i64 ((8:Nat):Int)],[(0,rrB B a e)],by exact rfl,⟨.refl _,.refl _,trivial⟩,⟨⟨by decide,_,rfl,.refl _⟩,trivial⟩,B,a,e,8,rfl,rfl,rfl,⟨hB,ha,by decide⟩,?_⟩
  rw[N9]at hP
  generalize XB 8 B a e=g at *
  obtain⟨v,a1,e1⟩:=g
  dsimp only at hP ⊢
  repeat' first|refine And.intro ?_ ?_|(intro h;try first|exact dz|replace h:=cv)
  all_goals try exact cz
  exact XX (k:=4) (n:=1) (row:=ZX ⟨wr .i64 (v:Nat),[]⟩) rfl rfl rfl ⟨.refl _,.refl _,trivial⟩ (fV _) (by first|rfl|kernel_rfl) rfl hP
 rw[N8 ⟨h1,h2,h3⟩]at hP
 repeat' first|refine And.intro ?_ ?_|(intro h;try first|exact dz|replace h:=cv)
 all_goals try exact cz
 refine⟨[0],[.ptr 0 0 0,.int .i64 ((100:Nat):Int),.int .i64 5],[(0,rrB B a e)],by exact rfl,⟨.refl _,.refl _,.refl _,trivial⟩,⟨⟨by decide,_,rfl,.refl _⟩,trivial⟩,B,a,e,100,5,rfl,rfl,rfl,⟨hB,ha,by decide,by decide⟩,?_⟩
 have hr:=(M3 (most:=100) (w:=5) (by decide) e ha).1
 have hv:=Wv 100 5 B a e
 generalize X5 100 5 B a e=g at *
 obtain⟨v,a1,e1⟩:=g
 dsimp only at hP hv hr ⊢
 repeat' first|refine And.intro ?_ ?_|(intro h;try first|exact dz|replace h:=cv)
 all_goals try exact cz
 refine⟨[0],[.ptr 0 0 0,.int .i64 (v:Nat)],[(0,rrB B a1 e1)],by exact rfl,⟨.refl _,.refl _,trivial⟩,⟨⟨by decide,_,rfl,.refl _⟩,trivial⟩,B,a1,e1,v,rfl,rfl,rfl,⟨hB,hr,by omega⟩,?_⟩
 generalize ZN v B a1 e1=g at *
 obtain⟨t,a2,e2⟩:=g
 dsimp only at hP ⊢
 repeat' first|refine And.intro ?_ ?_|(intro h;try first|exact dz|replace h:=cv)
 all_goals try exact cz
 ·exact(Vs t).1
 exact XX (k:=4) (n:=1) (row:=ZX ⟨0,t⟩) rfl rfl rfl ⟨.refl _,Et (Vs t).2,trivial⟩ (fV _) (by first|rfl|kernel_rfl) rfl hP
def Sn:SpecT:=fun args H nx Post=>∃k B a e,args=[.ptr 0 0 0,.int .i64 k]∧H=[(0,rrB B a e)]∧nx=1∧(B.length≤1000000∧a≤B.length)∧Post (.agg (ZX (Wr k B a e).1)) [(0,rrB B (Wr k B a e).2.1 (Wr k B a e).2.2)] 2
theorem Ns[Syms]:Sn.ok Try.prog 66:=by
 rintro args H nx Post ⟨k,B,a,e,rfl,rfl,rfl,⟨h1,h2⟩,h⟩
 exact XF.forget (Qj Qf Qg Q3 TO Qw (PM k B a e h1 h2 h))
end
abbrev Rdr(α:Type):Type:=List UInt8→Nat→Int→α×Nat×Int
def Zl{α β:Type}(P:Rdr α)(Q:α→Rdr β):Rdr β:=fun B a e=>Q (P B a e).1 B (P B a e).2.1 (P B a e).2.2
def U7{α:Type}(v:α):Rdr α:=fun _ a e=>(v,a,e)
def ROA{α:Type}(R:BR→α×BR)(P:Rdr α):Prop:=∀(B:List UInt8) (a:Nat) (e:Int),a≤B.length→ROP R P B a e
theorem ROA.bind{α β:Type}{R:BR→α×BR}{S:α→BR→β×BR}{P:Rdr α}{Q:α→Rdr β}(hS:∀v,Rd (S v))(h1:ROA R P)(h2:∀v,ROA (S v) (Q v)):ROA (QO R S) (Zl P Q):=
 fun B a e ha=>RO.bind hS (h1 B a e ha) (h2 _ B _ _ (h1 B a e ha).1)
theorem ROA.ret{α:Type}(v:α):ROA (XL v) (U7 v):=fun B a e ha=>RO.ret v ha
theorem Z3:ROA plainR plainP:=fun B a e ha=>Lg e ha
theorem V6(n:Nat):ROA (Z6 n) (XB n):=fun B a e ha=>Ma n e ha
theorem Wy:ROA truthR truthP:=fun B a e ha=>Db e ha
theorem GY(k:Int):ROA (Yx k) (Wr k):=fun B a e ha=>Po k e ha
theorem Yk{most:Nat}{w:Int}(hw:w≠0):ROA (QD most w) (X5 most w):=fun B a e ha=>M3 hw e ha
def pageP:Rdr Pg:=Zl plainP fun a=>Zl plainP fun b=>Zl plainP fun c=>Zl plainP fun d=>Zl plainP fun e=>Zl plainP fun f=>Zl (XB 4) fun g=>U7 ⟨a,b,c,d,e,f,g⟩
theorem NN:ROA pageR pageP:=by
 have rg:=fun(a b c d e f:Nat)=>Qk (S:=fun g:Nat=>XL (⟨a,b,c,d,e,f,g⟩:Pg)) (WN 4) fun g=>Z5 _
 have rf:=fun(a b c d e:Nat)=>Qk ZI fun f=>rg a b c d e f
 have re:=fun(a b c d:Nat)=>Qk ZI fun e=>rf a b c d e
 have rd:=fun(a b c:Nat)=>Qk ZI fun d=>re a b c d
 have rc:=fun(a b:Nat)=>Qk ZI fun c=>rd a b c
 have rb:=fun(a:Nat)=>Qk ZI fun b=>rc a b
 exact ROA.bind rb Z3 fun a=>ROA.bind (rc a) Z3 fun b=>ROA.bind (rd a b) Z3 fun c=>ROA.bind (re a b c) Z3 fun d=>ROA.bind (rf a b c d) Z3 fun e=>ROA.bind (rg a b c d e) Z3 fun f=>ROA.bind (fun g=>Z5 _) (V6 4) fun g=>ROA.ret _
def WK:Nat→List Pg→Rdr (List Pg)
 |0,s=>U7 s
 |k+1,s=>fun B a e=>if e≠0 then(s,a,e)else WK k (s++[(pageP B a e).1]) B (pageP B a e).2.1 (pageP B a e).2.2
def Kl{α:Type}(d:α)(P:Rdr α):Rdr α:=fun B a e=>if e≠0 then(d,a,e)else P B a e
theorem ROA.guard{α:Type}(d:α){R:BR→α×BR}{P:Rdr α}(h1:ROA R P)(hr:Rd R):ROA (Fh d R) (Kl d P):=fun B a e ha=>by
 by_cases h:e=0
 ·subst h
  have e1:Kl d P B a 0=P B a 0:=if_neg (fun k=>k rfl)
  have e2:Fh d R ⟨B.drop a,0⟩=R ⟨B.drop a,0⟩:=if_neg (fun k=>k rfl)
  have h2:=h1 B a 0 ha
  unfold ROP RO at h2 ⊢
  rw[e1,e2];exact h2
 ·have e1:Kl d P B a e=(d,a,e):=if_pos h
  unfold ROP
  rw[e1]
  exact RO.bad (Uq d hr) h ha
theorem Ds:∀(k:Nat) (s:List Pg),ROA (fun r=>ZS k r s) (WK k s)
 |0,s=>ROA.ret s
 |k+1,s=>ROA.guard s (ROA.bind (R:=pageR) (S:=fun p r=>ZS k r (s++[p])) (fun p=>Ul k _) NN fun p=>Ds k _) (Qk (R:=pageR) (S:=fun p r=>ZS k r (s++[p])) I2 fun p=>Ul k _)
def Kj(k:Int)(n:Nat):Nat→Rdr (Bool×Sta):=fun h=>if h≠1 then U7 (true,⟨n,false,default,default⟩)else Zl (Wr k) fun a=>Zl (Wr k) fun b=>U7 (true,⟨n,true,a,b⟩)
def J0(k:Int):Rdr (Bool×Sta):=Zl truthP fun t=>if t≠1 then U7 (false,default)else Zl plainP fun n=>Zl truthP fun h=>Kj k n h
def JX(k:Int)(n:Nat):Nat→BR→(Bool×Sta)×BR:=fun h=>if h≠1 then XL (true,(⟨n,false,default,default⟩:Sta))else QO (Yx k) fun a=>QO (Yx k) fun b=>XL (true,(⟨n,true,a,b⟩:Sta))
def Fa(k:Int):Nat→BR→(Bool×Sta)×BR:=fun t=>if t≠1 then XL (false,default)else QO plainR fun n=>QO truthR fun h=>JX k n h
theorem EZ(k:Int):W7 k=QO truthR fun t=>Fa k t:=by
 funext r
 unfold Fa JX W7 QO
 dsimp only
 split
 ·rfl
 ·dsimp only
  split<;>rfl
theorem F9(k:Int)(n h:Nat):Rd (JX k n h):=by
 unfold JX
 split
 ·exact Z5 _
 ·exact Qk (Ml k) fun a=>Qk (Ml k) fun b=>Z5 _
theorem Oe(k:Int)(t:Nat):Rd (Fa k t):=by
 unfold Fa
 split
 ·exact Z5 _
 ·exact Qk ZI fun n=>Qk Uf fun h=>F9 k n h
theorem Lu(k:Int)(n h:Nat):ROA (JX k n h) (Kj k n h):=by
 unfold JX Kj
 split
 ·exact ROA.ret _
 ·exact ROA.bind (fun a=>Qk (Ml k) fun b=>Z5 _) (GY k) fun a=>ROA.bind (fun b=>Z5 _) (GY k) fun b=>ROA.ret _
theorem Od(k:Int):ROA (W7 k) (J0 k):=by
 rw[EZ]
 refine ROA.bind (Oe k) Wy fun t=>?_
 unfold Fa
 split
 ·exact ROA.ret _
 ·exact ROA.bind (fun n=>Qk Uf fun h=>F9 k n h) Z3 fun n=>ROA.bind (fun h=>F9 k n h) Wy fun h=>Lu k n h
def ck0P:Rdr (Nat×Nat×Nat):=Zl plainP fun a=>Zl plainP fun b=>Zl (XB 4) fun c=>U7 (a,b,c)
theorem RT:ROA ckR0 ck0P:=
 ROA.bind (R:=plainR) (S:=fun a=>QO plainR fun b=>QO (Z6 4) fun c=>XL (a,b,c)) (fun a=>Qk ZI fun b=>Qk (WN 4) fun c=>Z5 _) Z3 fun a=>ROA.bind (fun b=>Qk (WN 4) fun c=>Z5 _) Z3 fun b=>ROA.bind (fun c=>Z5 _) (V6 4) fun c=>ROA.ret _
def VZ(k:Int):Rdr Ck:=Zl ck0P fun a=>Zl (X5 200 4) fun n=>Zl (WK n []) fun p=>Zl (J0 k) fun q=>U7 ⟨a.1,a.2.1,a.2.2,p,q.1,q.2⟩
theorem Ga(k:Int):ROA (Zv k) (VZ k):=by
 have e:Zv k=QO ckR0 (fun a=>QO (QD 200 4) fun n=>QO (fun r=>ZS n r []) fun p=>QO (W7 k) fun q=>XL (⟨a.1,a.2.1,a.2.2,p,q.1,q.2⟩:Ck)):=by
  funext r;simp only[Zv,QO,XL]
 rw[e]
 have r4:=fun(a:Nat×Nat×Nat) (p:List Pg) (q:Bool×Sta)=>Z5 (⟨a.1,a.2.1,a.2.2,p,q.1,q.2⟩:Ck)
 have r3:=fun(a:Nat×Nat×Nat) (p:List Pg)=>Qk (Ie k) fun q=>r4 a p q
 have r2:=fun(a:Nat×Nat×Nat) (n:Nat)=>Qk (Ul n []) fun p=>r3 a p
 have r1:=fun(a:Nat×Nat×Nat)=>Qk (Vh 200 4 (by decide)) fun n=>r2 a n
 exact ROA.bind r1 RT fun a=>ROA.bind (r2 a) (Yk (by decide)) fun n=>ROA.bind (r3 a) (Ds n []) fun p=>ROA.bind (r4 a p) (Od k) fun q=>ROA.ret _
def Y4:List Int→List Ck→Rdr (List Ck)
 |[],s=>U7 s
 |k::ks,s=>Kl s (Zl (VZ k) fun c=>Y4 ks (s++[c]))
theorem FB:∀(ks:List Int) (s:List Ck),ROA (fun r=>Zh ks r s) (Y4 ks s)
 |[],s=>ROA.ret s
 |k::ks,s=>ROA.guard s (ROA.bind (R:=Zv k) (S:=fun p r=>Zh ks r (s++[p])) (fun p=>VJ ks _) (Ga k) fun p=>FB ks _) (Qk (R:=Zv k) (S:=fun p r=>Zh ks r (s++[p])) (E8 k) fun p=>VJ ks _)
def G0(ks:List Int):Rdr Rw:=Zl plainP fun a=>Zl (Y4 ks []) fun c=>U7 ⟨a,c⟩
theorem Ly(ks:List Int):ROA (Zo ks) (G0 ks):=
 ROA.bind (R:=plainR) (S:=fun a=>QO (fun r=>Zh ks r []) fun c=>XL (⟨a,c⟩:Rw)) (fun a=>Qk (VJ ks []) fun c=>Z5 _) Z3 fun a=>ROA.bind (fun c=>Z5 _) (FB ks []) fun c=>ROA.ret _
def XA(ks:List Int):Nat→List Rw→Rdr (List Rw)
 |0,s=>U7 s
 |k+1,s=>Kl s (Zl (G0 ks) fun c=>XA ks k (s++[c]))
theorem Fi(ks:List Int):∀(k:Nat) (s:List Rw),ROA (fun r=>Za ks k r s) (XA ks k s)
 |0,s=>ROA.ret s
 |k+1,s=>ROA.guard s (ROA.bind (R:=Zo ks) (S:=fun p r=>Za ks k r (s++[p])) (fun p=>WC ks k _) (Ly ks) fun p=>Fi ks k _) (Qk (R:=Zo ks) (S:=fun p r=>Za ks k r (s++[p])) (CV ks) fun p=>WC ks k _)
theorem Jh:∀(ks:List Int) (r:BR) (s:List Ck),(Zh ks r s).2.e=0→(Zh ks r s).1.length=s.length+ks.length
 |[],r,s,_=>rfl
 |k::ks,r,s,h=>by
  rw[Zh]at h ⊢
  by_cases hr:r.e=0
  ·rw[if_neg (fun x=>x hr)]at h ⊢
   rw[Jh ks _ _ h,List.length_append,List.length_cons,List.length_cons,List.length_nil];omega
  ·rw[if_pos hr]at h
   exact absurd h hr
theorem CW(ks:List Int)(r:BR)(h:(Zo ks r).2.e=0):(Zo ks r).1.chunks.length=ks.length:=by
 have:=Jh ks (plainR r).2 [] h
 simpa[Zo]using this
theorem J3(ks:List Int):∀(n:Nat) (r:BR) (s:List Rw),(Za ks n r s).2.e=0→(∀g∈s,g.chunks.length=ks.length)→ ∀g∈(Za ks n r s).1,g.chunks.length=ks.length
 |0,r,s,_,hs=>hs
 |n+1,r,s,h,hs=>by
  rw[Za]at h ⊢
  by_cases hr:r.e=0
  ·rw[if_neg (fun x=>x hr)]at h ⊢
   refine J3 ks n _ _ h fun g hg=>?_
   rcases List.mem_append.1 hg with hg|hg
   ·exact hs g hg
   ·rw[List.mem_singleton.1 hg]
    refine CW ks r ?_
    by_cases he:(Zo ks r).2.e=0
    ·exact he
    ·have:=(WC ks n (s++[(Zo ks r).1])).stick (Zo ks r).2 he
     exact absurd ((show(Za ks n (Zo ks r).2 (s++[(Zo ks r).1])).2.e=(Zo ks r).2.e by rw[this]).symm.trans h) he
  ·rw[if_pos hr]at h
   exact absurd h hr
theorem C3(k:Int)(r:BR):(Yx k r).1.s.length≤100:=by
 unfold Yx
 split
 ·exact Nat.zero_le _
 ·split
  ·exact Nat.zero_le _
  ·split
   ·exact Nat.zero_le _
   ·have h:=Zr (m:=100) (w:=5) (by decide) r
    show(QF (QD 100 5 r).1 (QD 100 5 r).2).1.length≤100
    rcases Dc (QD 100 5 r).1 (QD 100 5 r).2 with h2|h2
    ·omega
    ·rw[h2];exact Nat.zero_le _
def U3(c:Ck):Prop:=c.st.mn.s.length≤100∧c.st.mx.s.length≤100
theorem Hf(k:Int)(r:BR):U3 (Zv k r).1:=by
 have hk:∀r,(W7 k r).1.2.mn.s.length≤100∧(W7 k r).1.2.mx.s.length≤100:=by
  intro r
  unfold W7
  dsimp only
  split
  ·exact⟨Nat.zero_le _,Nat.zero_le _⟩
  ·split
   ·exact⟨Nat.zero_le _,Nat.zero_le _⟩
   ·exact⟨C3 _ _,C3 _ _⟩
 have h:=hk (ZS (QD 200 4 (ckR0 r).2).1 (QD 200 4 (ckR0 r).2).2 []).2
 unfold U3 Zv
 dsimp only
 exact h
theorem GC:∀(ks:List Int) (r:BR) (s:List Ck),(∀c∈s,U3 c)→ ∀c∈(Zh ks r s).1,U3 c
 |[],r,s,hs=>hs
 |k::ks,r,s,hs=>by
  rw[Zh]
  split
  ·exact hs
  ·refine GC ks _ _ fun c hc=>?_
   rcases List.mem_append.1 hc with hc|hc
   ·exact hs c hc
   ·rw[List.mem_singleton.1 hc];exact Hf k r
theorem Gv(ks:List Int):∀(n:Nat) (r:BR) (s:List Rw),(∀g∈s,∀c∈g.chunks,U3 c)→ ∀g∈(Za ks n r s).1,∀c∈g.chunks,U3 c
 |0,r,s,hs=>hs
 |n+1,r,s,hs=>by
  rw[Za]
  split
  ·exact hs
  ·refine Gv ks n _ _ fun g hg=>?_
   rcases List.mem_append.1 hg with hg|hg
   ·exact hs g hg
   ·rw[List.mem_singleton.1 hg]
    exact GC ks _ [] (fun c hc=>nomatch hc)
def fldP:Rdr Fd:=Zl (XB 1) fun a=>Zl (XB 1) fun b=>Zl (X5 40 14) fun c=>Zl (X5 12 5) fun d=>Zl (ZN d) fun t=>U7 ⟨t,a,b,c⟩
theorem KI(n:Nat):ROA (QF n) (ZN n):=fun B a e ha=>Mo n e ha
theorem CY:Rd fieldR:=
 Qk (R:=Z6 1) (S:=fun a=>QO (Z6 1) fun b=>QO (QD 40 14) fun c=>QO (QD 12 5) fun d=>QO (QF d) fun t=>XL (⟨t,a,b,c⟩:Fd)) (WN 1) fun a=>Qk (WN 1) fun b=>Qk (Vh _ _ (by decide)) fun c=>Qk (Vh _ _ (by decide)) fun d=>Qk (YR d) fun t=>Z5 _
theorem LF:ROA fieldR fldP:=by
 have re:=fun(a b c d:Nat)=>Qk (S:=fun t=>XL (⟨t,a,b,c⟩:Fd)) (YR d) fun t=>Z5 _
 have rd:=fun(a b c:Nat)=>Qk (Vh 12 5 (by decide)) fun d=>re a b c d
 have rc:=fun(a b:Nat)=>Qk (Vh 40 14 (by decide)) fun c=>rd a b c
 have rb:=fun(a:Nat)=>Qk (WN 1) fun b=>rc a b
 exact ROA.bind rb (V6 1) fun a=>ROA.bind (rc a) (V6 1) fun b=>ROA.bind (rd a b) (Yk (by decide)) fun c=>ROA.bind (re a b c) (Yk (by decide)) fun d=>ROA.bind (fun t=>Z5 _) (KI d) fun t=>ROA.ret _
theorem UP:∀(k:Nat) (s:List Fd),Rd fun r=>Zi k r s
 |0,s=>Z5 s
 |k+1,s=>Uq s (Qk (R:=fieldR) (S:=fun p r=>Zi k r (s++[p])) CY fun p=>UP k _)
def Us:Nat→List Fd→Rdr (List Fd)
 |0,s=>U7 s
 |k+1,s=>Kl s (Zl fldP fun c=>Us k (s++[c]))
theorem Fs:∀(k:Nat) (s:List Fd),ROA (fun r=>Zi k r s) (Us k s)
 |0,s=>ROA.ret s
 |k+1,s=>ROA.guard s (ROA.bind (R:=fieldR) (S:=fun p r=>Zi k r (s++[p])) (fun p=>UP k _) LF fun p=>Fs k _) (Qk (R:=fieldR) (S:=fun p r=>Zi k r (s++[p])) CY fun p=>UP k _)
def allFP:Rdr (List Fd):=Zl (X5 40 4) fun n=>Us n []
theorem Pc:ROA (QO (QD 40 4) fun n r=>Zi n r []) allFP:=ROA.bind (fun n=>UP n []) (Yk (by decide)) fun n=>Fs n []
def KR(b:List UInt8):List Fd×Int:=
 let q:=allFP b 0 0
 let e:=if WW b q.2.1 q.2.2=0 then Z1 q.1 else WW b q.2.1 q.2.2
 if e≠0 then([],e)else(q.1,0)
theorem Jb{b:List UInt8}{a:Nat}(h:a≤b.length):(b.drop a=[]↔ ¬a<b.length):=by
 constructor
 ·intro h1 h2
  have:=congrArg List.length h1
  rw[List.length_drop]at this
  simp at this;omega
 ·intro h1
  exact List.drop_eq_nil_of_le (by omega)
theorem EO(b:List UInt8):KR b=ZD b:=by
 have h:=Pc b 0 0 (Nat.zero_le _)
 have e0:ZD b=V8 ((QO (QD 40 4) fun n r=>Zi n r []) ⟨b.drop 0,0⟩).1 ((QO (QD 40 4) fun n r=>Zi n r []) ⟨b.drop 0,0⟩).2:=rfl
 rw[e0]
 unfold KR
 obtain⟨h1,h2,h3⟩:=h
 generalize allFP b 0 0=q at *
 obtain⟨s,a,e⟩:=q
 dsimp only at h1 h2 h3 ⊢
 generalize(QO (QD 40 4) fun n r=>Zi n r []) ⟨b.drop 0,0⟩=p at *
 obtain⟨s',b',e'⟩:=p
 have h2:e'=e:=h2
 subst h2
 dsimp only
 by_cases he:e'=0
 ·have h4:=h3 he
  subst he
  injection h4 with h5 h6
  injection h6 with h6 h7
  subst h5 h6
  by_cases hl:a<b.length
  ·have hb:b.drop a≠[]:=fun k=>(Jb h1).1 k hl
   rw[Kp hb,show WW b a 0=9 from if_pos ⟨rfl,hl⟩];rfl
  ·rw[(Jb h1).2 hl,G5,show WW b a 0=0 from if_neg (fun k=>hl k.2),if_pos rfl]
 ·have:WW b a e'=e':=if_neg (fun k=>he k.1)
  rw[this,if_neg he,if_pos he,VF (r:=⟨b',e'⟩) he]
def Mp(s:List Fd):Rdr Mt:=Zl plainP fun n=>Zl (X5 200 4) fun k=>Zl (XA (QS s) k []) fun g=>U7 ⟨s,n,g⟩
def Gn(s:List Fd):BR→Mt×BR:=QO plainR fun n=>QO (QD 200 4) fun k=>QO (fun r=>Za (QS s) k r []) fun g=>XL ⟨s,n,g⟩
theorem Py(s:List Fd):Rd (Gn s):=Qk ZI fun n=>Qk (Vh _ _ (by decide)) fun k=>Qk (WC _ k []) fun g=>Z5 _
theorem Cb(s:List Fd):ROA (Gn s) (Mp s):=by
 have rc:=fun(n k:Nat)=>Qk (S:=fun g=>XL (⟨s,n,g⟩:Mt)) (WC (QS s) k []) fun g=>Z5 _
 have rb:=fun(n:Nat)=>Qk (Vh 200 4 (by decide)) fun k=>rc n k
 exact ROA.bind rb Z3 fun n=>ROA.bind (rc n) (Yk (by decide)) fun k=>ROA.bind (fun g=>Z5 _) (Fi (QS s) k []) fun g=>ROA.ret _
def hdP:Rdr (List UInt8):=Zl (X5 2000 5) fun n=>ZN n
theorem Oj:ROA (QO (QD 2000 5) fun n=>QF n) hdP:=ROA.bind (fun n=>YR n) (Yk (by decide)) fun n=>KI n
def Fy(b:List UInt8)(q:Mt×Nat×Int):Mt×Int:=
 let e:=if WW b q.2.1 q.2.2=0∧ZL q.1=false then 10 else WW b q.2.1 q.2.2
 if e≠0 then(mt0,e)else(q.1,0)
theorem G8{b:List UInt8}{m:Mt}{a:Nat}{e:Int}(h:e≠0):Fy b (m,a,e)=(mt0,e):=by
 have he:WW b a e=e:=if_neg (fun k=>h k.1)
 unfold Fy
 simp only[he,h,false_and,if_false,ne_eq,not_false_eq_true,if_true]
theorem Kt{b:List UInt8}{m:Mt}{a:Nat}(h:a<b.length):Fy b (m,a,0)=(mt0,9):=by
 have he:WW b a 0=9:=if_pos ⟨rfl,h⟩
 unfold Fy
 simp[he]
theorem G7{b:List UInt8}{m:Mt}{a:Nat}(h:¬a<b.length):Fy b (m,a,0)=if ZL m=false then(mt0,10)else(m,0):=by
 have he:WW b a 0=0:=if_neg (fun k=>h k.2)
 unfold Fy
 cases hw:ZL m<;>simp[he,hw]
def M1(b:List UInt8):Mt×Int:=
 let t:=hdP b 0 0
 if t.2.2≠0 then(mt0,t.2.2)else
 let p:=ZD t.1
 if p.2≠0 then(mt0,p.2)else Fy b (Mp p.1 b t.2.1 0)
theorem O1(r:BR):W5 r=QO (QO (QD 2000 5) fun n=>QF n) (fun t r=>if r.e≠0 then(mt0,r)else Gn (ZD t).1 (Qy r (ZD t).2)) r:=rfl
theorem EP(b:List UInt8):M1 b=YD b:=by
 have h:=Oj b 0 0 (Nat.zero_le _)
 have e0:YD b=Gy (W5 ⟨b.drop 0,0⟩):=rfl
 rw[e0,O1]
 unfold M1 QO
 obtain⟨h1,h2,h3⟩:=h
 unfold QO at h2 h3
 generalize hdP b 0 0=q at *
 obtain⟨t,a,e⟩:=q
 dsimp only at h1 h2 h3 ⊢
 generalize QF (QD 2000 5 ⟨b.drop 0,0⟩).1 (QD 2000 5 ⟨b.drop 0,0⟩).2=p at *
 obtain⟨t',b',e'⟩:=p
 have h2:e'=e:=h2
 subst h2
 dsimp only
 by_cases he:e'=0
 ·have h4:=h3 he
  subst he
  injection h4 with h5 h6
  injection h6 with h6 h7
  subst h5 h6
  have hz:¬((0:Int)≠0):=fun k=>k rfl
  simp only[if_neg hz]
  generalize ZD t'=p
  obtain⟨s,x⟩:=p
  dsimp only
  by_cases hx:x=0
  ·subst hx
   simp only[if_neg hz,show Qy ⟨b.drop a,0⟩ 0=⟨b.drop a,0⟩ from rfl]
   obtain⟨k1,k2,k3⟩:=Cb s b a 0 h1
   generalize Mp s b a 0=q at *
   obtain⟨m,a1,e1⟩:=q
   dsimp only at k1 k2 k3
   generalize Gn s ⟨b.drop a,0⟩=p at *
   obtain⟨m',b1,e1'⟩:=p
   have k2:e1'=e1:=k2
   subst k2
   by_cases he:e1'=0
   ·have k4:=k3 he
    subst he
    injection k4 with k5 k6
    injection k6 with k6 k7
    subst k5 k6
    by_cases hl:a1<b.length
    ·rw[Fr (fun k=>(Jb k1).1 k hl),Kt hl]
    ·rw[(Jb k1).2 hl,DI,G7 hl]
   ·rw[G8 he,VG he]
  ·rw[if_pos hx,show Qy ⟨b.drop a,0⟩ x=⟨b.drop a,x⟩ from rfl]
   have hs:=(Py s).stick ⟨b.drop a,x⟩ hx
   generalize Gn s ⟨b.drop a,x⟩=p at *
   obtain⟨m',b1,e1⟩:=p
   have hs:e1=x:=hs
   subst hs
   exact(VG hx).symm
 ·rw[if_pos he,if_pos he]
  exact(VG he).symm
theorem Pz{s:List Fd}(hs:Wh s∧s.length≤40){b:List UInt8}{a:Nat}(ha:a≤b.length)(h:(Mp s b a 0).2.2=0):RWhOk (Mp s b a 0).1:=by
 obtain⟨k1,k2,k3⟩:=Cb s b a 0 ha
 have k4:=k3 h
 have hm:(Gn s ⟨b.drop a,0⟩).1=(Mp s b a 0).1:=congrArg Prod.fst k4
 have he:(Gn s ⟨b.drop a,0⟩).2.e=0:=by rw[k2];exact h
 rw[←hm]
 have hg:Gn s ⟨b.drop a,0⟩=(⟨s,(plainR ⟨b.drop a,0⟩).1,(Za (QS s) (QD 200 4 (plainR ⟨b.drop a,0⟩).2).1 (QD 200 4 (plainR ⟨b.drop a,0⟩).2).2 []).1⟩,(Za (QS s) (QD 200 4 (plainR ⟨b.drop a,0⟩).2).1 (QD 200 4 (plainR ⟨b.drop a,0⟩).2).2 []).2):=rfl
 have h4:=Zr (m:=200) (w:=4) (by decide) (plainR ⟨b.drop a,0⟩).2
 rw[hg]at he ⊢
 dsimp only at he ⊢
 generalize QD 200 4 (plainR ⟨b.drop a,0⟩).2=y at *
 obtain⟨h5,h6⟩:=Km (QS s) y.1 y.2 [] (fun p hp=>nomatch hp)
 refine⟨⟨hs.1.fs hs.2,?_,fun g hg=>?_⟩,fun g hg=>?_,fun g hg c hc=>?_⟩
 ·simp at h6;show(Za _ _ _ _).1.length≤200;omega
 ·have:=h5 g hg
  rwa [show(QS s).length=(Qt s).length from List.length_map ..]at this
 ·have:=J3 (QS s) y.1 y.2 [] he (fun g hg=>nomatch hg) g hg
  rwa [show(QS s).length=(Qt s).length from List.length_map ..]at this
 ·have:=Gv (QS s) y.1 y.2 [] (fun g hg=>nomatch hg) g hg c hc
  unfold U3 at this
  omega
end Go.Proofs.Ytajieadpaeggcaa
