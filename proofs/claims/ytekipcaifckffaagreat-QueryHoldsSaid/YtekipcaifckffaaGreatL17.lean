/-
  Whether any record is as asked is told as the document says. The statement's function.
-/
import Derived.Test.YtekipcaifckffaaGreatL14
import Derived.Test.YtekipcaifckffaaGreatL16
set_option linter.unusedVariables false
set_option linter.unusedSimpArgs false
namespace Go.Proofs.YtekipcaifckffaaGreat
open Go Go.Av
section
set_option maxRecDepth 100000
set_option maxHeartbeats 4000000
theorem Cf{k n:Int}{s:List UInt8}(h:ZX k n s=true)(h1:1≤k)(h4:k≤4):s.length≤100:=by
 have h:=of_decide_eq_true h
 unfold ZM at h
 by_cases hs:s=[]
 ·subst hs;exact Nat.zero_le _
 ·by_cases k4:k=4
  ·subst k4
   by_cases hl:s.length≤100
   ·exact hl
   ·exfalso
    split at h
    ·cases h
    ·rw[if_neg (by decide),if_neg (by decide)]at h;exact absurd h (by decide)
  ·rw[if_pos (.inr ⟨k4,hs⟩)]at h;cases h
theorem EM(ns:List Int):Na (Q2 ns):=fun k hk=>by
 obtain⟨j,j1,j2,j3,j4,j5⟩:=Vd (W1 ns) hk
 have:=(D3 ns [] (by decide) (fun k=>by simp)).kind j j3
 omega
theorem OS(ns:List Int){c:Cd}(hw:Zj (Q2 ns) c=0):AkOk (Q2 ns) c∧AskOk (Uj (Q2 ns) c):=by
 have h0:0≤Xp (Q2 ns) c.path:=by
  by_cases h:Xp (Q2 ns) c.path<0
  ·unfold Zj at hw;rw[if_pos h]at hw;cases hw
  ·omega
 obtain⟨k,hk,hkf,hp⟩:=Wg h0
 have hlf:Xk (Q2 ns) c=(Q3 (Q2 ns)).getD k default:=by unfold Xk;rw[hkf];rfl
 obtain⟨a,a1,a2,a3,_⟩:=Vd (W1 ns) hk
 obtain⟨k1,k4⟩:=EM ns k hk
 have hb:¬(0<(Xk (Q2 ns) c).r∨c.op<0∨5<c.op∨(c.op≠5∧ZX (Xk (Q2 ns) c).kind c.v.n c.v.s=false)):=fun h=>by
  unfold Zj at hw;rw[if_neg (by omega),if_pos h]at hw;cases hw
 refine⟨⟨?_,?_,h0,fun h5=>?_,by rw[hlf,a1];omega,by rw[hlf,a1];omega⟩,Hb _ _ ?_⟩
 ·by_cases h:c.op<0
  ·exact absurd (.inr (.inl h)) hb
  ·omega
 ·by_cases h:5<c.op
  ·exact absurd (.inr (.inr (.inl h))) hb
  ·omega
 ·cases h:ZX (Xk (Q2 ns) c).kind c.v.n c.v.s with
  |true=>rw[hlf]at h;have:=Cf h k1 k4;omega
  |false=>exact absurd (.inr (.inr (.inr ⟨h5,h⟩))) hb
 ·have h1:=UM c.path
  have h2:=(GL (XD ns) ((Q3 (Q2 ns)).getD k default).field).1
  have h3:QS (Q2 ns) (Q0 (Q2 ns)) ((Q3 (Q2 ns)).getD k default).field=c.path:=hp
  rw[h3]at h2;omega
theorem UA{fs:List Fd}:∀{cs:List Cd},Xc fs cs=0→ ∀c∈cs,Zj fs c=0
 |[],_,c,h=>by cases h
 |x::l,h,c,hc=>by
  rw[Xc]at h
  by_cases hx:Zj fs x=0
  ·rw[if_pos hx]at h
   rcases List.mem_cons.1 hc with rfl|hc
   ·exact hx
   ·exact UA h c hc
  ·rw[if_neg hx]at h;exact absurd h hx
def SOk(cs:List Cd):Prop:=cs.length≤1000∧ ∀c∈cs,c.v.s.length≤9223372036854775807
theorem SOk.at{cs:List Cd}(h:SOk cs)(i:Nat):(cs.getD i default).v.s.length≤9223372036854775807:=by
 by_cases hi:i<cs.length
 ·rw[List.getD_eq_getElem?_getD,List.getElem?_eq_getElem hi];exact h.2 _ (List.getElem_mem hi)
 ·rw[List.getD_eq_getElem?_getD,List.getElem?_eq_none (by omega)];exact Nat.zero_le _
theorem Zc(ns:List Int){cs:List Cd}{t:Tr}{r:List AVal}{K:AVal→Prop}(e0:encT t=r)(hc:SOk cs)(hK:K (.tup [.bool (ZC (Q2 ns) t cs),.int .i64 (Z0 (Q2 ns) cs)])):S_holds [vF (Q2 ns),.agg r,vC cs] K:=by
 subst e0
 refine⟨Q2 ns,t,cs,rfl,⟨Bj ns,hc.1,hc.at,fun he i=>?_⟩,hK⟩
 unfold Y5
 rw[if_pos he]
 by_cases hi:i<cs.length
 ·rw[List.getD_eq_getElem?_getD,List.getElem?_map,List.getElem?_eq_getElem hi]
  unfold Z0 at he
  split at he
  ·cases he
  ·exact(OS ns (UA he _ (List.getElem_mem hi))).2
 ·rw[List.getD_eq_getElem?_getD,List.getElem?_eq_none (by rw[List.length_map];omega)];exact Ow
theorem Z6(ns rec:List Int){cs:List Cd}{K:AVal→Prop}(hc:SOk cs)(hK:K (.tup [.bool (ZC (Q2 ns) (Qc (Q2 ns) rec) cs),.int .i64 (Z0 (Q2 ns) cs)])):S_rholds [vF (Q2 ns),.agg (Qw (Qc (Q2 ns) rec)),vC cs] K:=by
 refine⟨Q2 ns,Qc (Q2 ns) rec,cs,rfl,⟨D2 ns,EM ns,NM ns rec,hc.1,hc.at,fun he i hi=>?_⟩,by rw[Nb];exact hK⟩
 unfold Z0 at he
 split at he
 ·cases he
 ·refine(OS ns (UA he _ ?_)).1
  rw[List.getD_eq_getElem?_getD,List.getElem?_eq_getElem hi];exact List.getElem_mem hi
theorem Jm{fs:List Fd}{any:Bool}:∀{l:List Rc},∀c∈Y8 fs any l,∃x∈l,c=Uv fs any x
 |[],c,h=>by cases h
 |x::t,c,h=>by
  rw[Y8]at h
  split at h
  ·rcases List.mem_cons.1 h with rfl|h
   ·exact⟨x,List.mem_cons_self ..,rfl⟩
   ·obtain⟨y,hy,e⟩:=Jm c h;exact⟨y,List.mem_cons_of_mem _ hy,e⟩
  ·obtain⟨y,hy,e⟩:=Jm c h;exact⟨y,List.mem_cons_of_mem _ hy,e⟩
def orT(a b:CallT):CallT:=fun f args H nx K=>a f args H nx K∨b f args H nx K
theorem IQ[Syms]{P:Program}{a b:CallT}(ha:a.ok P)(hb:b.ok P):(orT a b).ok P:=fun f args H nx K h=>h.elim (ha f args H nx K) (hb f args H nx K)
abbrev Om:CallT:=Qm 9 (Zd (MC (MC S_holds))) (Qm 10 (Zd (MC (MC S_rholds))) Qi)
theorem LU[Syms]:Om.det Tryz.prog:=Zk Bv.see.see (Zk MT.see.see Qd)
theorem Ol[Syms]:Om.ok Tryz.prog:=Q6 Bv.see.see (Q6 MT.see.see Qh)
abbrev Sk:CallT:=Qm 5 (Zd S_known21) (Qm 6 (Zd S_make) (Qm 7 (Zd S_make8) Om))
theorem Ok[Syms]:Sk.ok Tryz.prog:=Q6 CC (Q6 L6 (Q6 L8 Ol))
abbrev cLh:CallT:=orT (Qm 8 (Zd S_conds) Sk) (orT (Qm 8 (Zd S_condsT) Qi) (Qm 8 (Gp C4) Qi))
theorem R9[Syms]:cLh.ok Tryz.prog:=IQ (Q6 LF Ok) (IQ (Q6 HX Qh) (Ye HY Qh))
noncomputable def SM:Nat→Nat→Pl:=Xx [(3,6),(3,7)] (QW plt)
abbrev Vq(a b c d:List Cd):List (List AVal):=[[.vs 4 (a.map encC)],[.vs 4 (b.map encC)],[.vs 4 (c.map encC)],[.vs 4 (d.map encC)]]
def lhS(fs:List Fd)(t:Tr)(a b c d:List Cd)(i:Int):St:=⟨[(9,vF fs),(10,.ptr 0 0 0),(11,.vs 1 (Vq a b c d)),(12,.int .i64 i)],[(0,some (.cells [Qw t] false))],1⟩
theorem OB(raw:List Cd):Mm 4 (XM raw.length fun i=>encC (raw.getD i default))=true:=by
 rw[Qj encC default raw]
 have:=Vm (enc:=encC) (z:=4) (fun _=>rfl) raw 0 raw.length
 rwa [List.drop_zero,List.take_of_length_le (by simp)]at this
theorem Ka(r0:Cd)(rt:List Cd):¬(XM (r0::rt).length fun i=>encC ((r0::rt).getD i default)).length=0:=by
 rw[Qj encC default (r0::rt)];simp
theorem KT(raw:List Cd):(XM raw.length fun i=>encC (raw.getD i default)).length=raw.length:=by rw[Qj encC default raw,List.length_map]
theorem Nh{ρ:Nat→Nat}{a b c d a' b' c' d':AVal}(h1:WkV a (a'.ren ρ))(h2:WkV b (b'.ren ρ))(h3:WkV c (c'.ren ρ))(h4:WkV d (d'.ren ρ)):WkB (.cells [[a],[b],[c],[d]] false) ((Blk.cells [[a'],[b'],[c'],[d']] false).ren ρ):=by
 have key:∀x x':AVal,WkV x (x'.ren ρ)→[x'.ren ρ].length=[x].length∧ ∀(j:Nat) (y y':AVal),[x][j]?=some y→[x'.ren ρ][j]?=some y'→WkV y y':=fun x x' h=>⟨rfl,fun j y y' e1 e2=>by
  cases j with
  |zero=>cases e1;cases e2;exact h
  |succ j=>cases e1⟩
 refine .each _ _ _ rfl fun k r r' e1 e2=>?_
 rcases k with _|_|_|_|k
 ·cases e1;cases e2;exact key _ _ h1
 ·cases e1;cases e2;exact key _ _ h2
 ·cases e1;cases e2;exact key _ _ h3
 ·cases e1;cases e2;exact key _ _ h4
 ·cases e1
theorem unC(raw:List Cd):WkV (vC raw) (.vs 4 (raw.map encC)):=WkV.un rfl
theorem RT(ρ:Nat→Nat)(l:List Cd):(l.map encC).map (AVal.renL ρ)=l.map encC:=by rw[List.map_map];rfl
abbrev lhE(fs:List Fd)(v:AVal):Env:=[(9,vF fs),(10,.ptr 0 0 0),(11,v)]
theorem fz0[Syms]{N:Nat}{fs:List Fd}{r:List AVal}{a b c d:List Cd}{nx:Nat}:Reb 0 N ⟨lhE fs (.slice 2 0 4 1 none),[(0,some (.cells [r] false)),(2,some (.cells (Vq a b c d) false))],nx⟩ ⟨lhE fs (.vs 1 (Vq a b c d)),[(0,some (.cells [r] false))],nx⟩:=
 QV (n:=2) (rows:=Vq a b c d) rfl (fun q hq y hy=>by simp at hq;rcases hq with rfl|rfl|rfl|rfl<;>(simp at hy;subst hy;rfl)) ⟨.same _,.same _,.sl (n:=2) (rows:=Vq a b c d) 0 4 1 none (by decide) (Nat.le_refl 4),trivial⟩ ⟨⟨by decide,_,rfl,.same _⟩,trivial⟩
theorem fz4[Syms]{N:Nat}{fs:List Fd}{r:List AVal}{a b c d:List Cd}{nx:Nat}(hd:0<d.length):Reb 0 N ⟨lhE fs (.slice 2 0 4 1 none),[(0,some (.cells [r] false)),(2,some (.cells [[.vs 4 (a.map encC)],[.vs 4 (b.map encC)],[.vs 4 (c.map encC)],[.slice 4 0 d.length 4 none]] false)),(4,some (.cells (d.map encC) false))],nx⟩ ⟨lhE fs (.vs 1 (Vq a b c d)),[(0,some (.cells [r] false))],nx⟩:=by
 have hz:=FzV.sl (n:=4) (rows:=d.map encC) 0 d.length 4 none hd (by simp)
 rw[List.drop_zero,List.take_of_length_le (by simp)]at hz
 refine Reb.trans (s':=⟨lhE fs (.slice 2 0 4 1 none),[(0,some (.cells [r] false)),(2,some (.cells (Vq a b c d) false))],nx⟩) (QV (n:=4) (rows:=d.map encC) rfl (fC d) ⟨.same _,.same _,.same _,trivial⟩ ⟨⟨by decide,_,rfl,.same _⟩,⟨by decide,_,rfl,.cells _ _ _ rfl fun k r r' e1 e2=>?_⟩,trivial⟩) fz0
 rcases k with _|_|_|_|k
 ·cases e1;cases e2;exact⟨.same _,trivial⟩
 ·cases e1;cases e2;exact⟨.same _,trivial⟩
 ·cases e1;cases e2;exact⟨.same _,trivial⟩
 ·cases e1;cases e2;exact⟨hz,trivial⟩
 ·cases e1
theorem La[Syms](ns rec:List Int)(l:List Rc)(raw:List Cd)(hn:ns.length≤9223372036854775807)(hr:rec.length≤9223372036854775807)(hri:∀k,-9223372036854775808≤rec.getD k 0∧rec.getD k 0≤9223372036854775807)(hl:l.length≤9223372036854775807)(hls:∀x∈l,x.v.s.length≤9223372036854775807)(hw:raw.length≤9223372036854775807)(hws:∀c∈raw,c.v.s.length≤9223372036854775807):
 fnT Om cLh (QK fns) (QH tys) SM 100 3 [vI ns,vI rec,vRc l,vC raw] [] 0 (fun v H _=>v= .bool true∧H=[]):=by
 have hQ:=Bj ns
 have hmk:=D3 ns rec hr hri
 have hL:=JD ns
 by_cases h10:10<raw.length
 ·refine Or.inl ?_
  repeat' first|refine And.intro ?_ ?_|(intro h;try first|exact dz|replace h:=cv)
  all_goals try exact cz
  exact⟨_,Q5 [8] rfl,_,rfl,rfl,rfl⟩
 refine Or.inl ?_
 repeat' first|refine And.intro ?_ ?_|(intro h;try first|exact dz|replace h:=cv)
 all_goals try exact cz
 refine Or.inl ?_
 refine⟨ns,rfl,hn,?_⟩
 repeat' first|refine And.intro ?_ ?_|(intro h;try first|exact dz|replace h:=cv)
 all_goals try exact cz
 refine Or.inl ?_
 refine⟨Q2 ns,rec,rfl,hmk,hQ.ok,hQ.pos,?_⟩
 have e0:encT (Qc (Q2 ns) rec)=Qw (Qc (Q2 ns) rec):=by generalize Qc (Q2 ns) rec=t;cases t;exact QO _ _ _
 rw[e0]
 repeat' first|refine And.intro ?_ ?_|(intro h;try first|exact dz|replace h:=cv)
 all_goals try exact cz
 refine⟨⟨[(2,vRc l),(3,vC raw),(9,vF (Q2 ns)),(10,.ptr 0 0 0)],[(0,some (.cells [Qw (Qc (Q2 ns) rec)] false))],1⟩,Q1 [0] (by exact rfl) ⟨.refl _,.refl _,.refl _,.refl _,trivial⟩ ⟨⟨by decide,_,rfl,.refl _⟩,trivial⟩,?_⟩
 repeat' first|refine And.intro ?_ ?_|(intro h;try first|exact dz|replace h:=cv)
 all_goals try exact cz
 refine Or.inl ?_
 refine⟨Q2 ns,l,rfl,⟨hQ.ok,hL,hl⟩,?_⟩
 repeat' first|refine And.intro ?_ ?_|(intro h;try first|exact dz|replace h:=cv)
 all_goals try exact cz
 refine Or.inr (Or.inl ?_)
 refine⟨Q2 ns,l,rfl,⟨hQ.ok,hL,hl⟩,?_⟩
 repeat' first|refine And.intro ?_ ?_|(intro h;try first|exact dz|replace h:=cv)
 all_goals try exact cz
 refine Or.inr (Or.inr ?_)
 refine⟨[],[vF (Q2 ns),vRc l,.bool false],[],rfl,⟨.refl _,.refl _,.refl _,trivial⟩,trivial,Q2 ns,l,rfl,rfl,rfl,⟨hQ.ok,hL,hl⟩,?_⟩
 have hg:=UW ns (l.take 5)
 have s1:SOk (Xe (Q2 ns) false l):=⟨Nat.le_trans (WV _ _ _) (by rw[List.length_take];omega),fun c hc=>(hg c hc).2.1⟩
 have l1:(Xe (Q2 ns) false l).length≤5:=Nat.le_trans (WV _ _ _) (by rw[List.length_take];omega)
 have he1:Z0 (Q2 ns) (Xe (Q2 ns) false l)=0:=by rw[Z0,if_neg (by omega)];exact Ge hg
 have s2:SOk (Xe (Q2 ns) true l):=⟨Nat.le_trans (WV _ _ _) (by rw[List.length_take];omega),fun c hc=>by
  obtain⟨x,hx,rfl⟩:=Jm c hc
  exact hls x (List.mem_of_mem_take hx)⟩
 have s3:SOk raw:=⟨by omega,hws⟩
 have s4:SOk (Xe (Q2 ns) false l++raw):=⟨by rw[List.length_append];omega,fun c hc=>(List.mem_append.1 hc).elim (fun h=>s1.2 c h) (hws c)⟩
 clear hg
 generalize Xe (Q2 ns) false l=c1 at *
 generalize Xe (Q2 ns) true l=c2 at *
 cases c1 with
 |nil=>
  cases raw with
  |nil=>
   repeat' first|refine And.intro ?_ ?_|(intro h;try first|exact dz|replace h:=cv)
   all_goals try exact cz
   all_goals(try((with_reducible show _=true);exact OB _))
   all_goals(try first|exact absurd rfl h|exact absurd h (Ka _ _))
   all_goals(try((with_reducible first|show Nat.le _ _|show(_:Nat)≤_);show(_:Nat)≤_;rw[KT];first|omega|(show(_*48:Nat)≤_;omega)))
   refine⟨⟨lhE (Q2 ns) (.vs 1 (Vq [] c2 [] ([]++[]))),[(0,some (.cells [Qw (Qc (Q2 ns) rec)] false))],3⟩,?_,?_⟩
   ·exact Reb.trans (Q1 (H3:=[(0,some (.cells [Qw (Qc (Q2 ns) rec)] false)),(2,some (.cells (Vq [] c2 [] []) false))]) (e3:=lhE (Q2 ns) (.slice 2 0 4 1 none)) [0,1,2] (by exact rfl) ⟨.refl _,.refl _,.cap _ _ _ _ _,trivial⟩ ⟨⟨by decide,_,rfl,.refl _⟩,⟨by decide,_,rfl,Nh (unC []) (unC c2) (unC []) (.zero _ _ rfl)⟩,trivial⟩) fz0
   repeat' first|refine And.intro ?_ ?_|(intro h;try first|exact dz|replace h:=cv)
   all_goals try exact cz
   refine⟨fun m s=>∃i:Nat,(i≤4∧m=4-i)∧s=lhS (Q2 ns) (Qc (Q2 ns) rec) [] c2 [] ([]++[]) (i:Int),⟨_,lhS (Q2 ns) (Qc (Q2 ns) rec) [] c2 [] ([]++[]) ((0:Nat):Int),Q1 [0] (by exact rfl) ⟨.refl _,.refl _,.refl _,.refl _,trivial⟩ ⟨⟨by decide,_,rfl,.refl _⟩,trivial⟩,0,⟨by omega,rfl⟩,rfl⟩,?_⟩
   rintro m s ⟨i,⟨hi,rfl⟩,rfl⟩
   unfold lhS
   rcases i with _|_|_|_|_|i
   · repeat' first|refine And.intro ?_ ?_|(intro h;try first|exact dz|replace h:=cv)
     all_goals try exact cz
     all_goals(try((with_reducible show _=true);exact rfl))
     all_goals(try first|(show((0:Nat):Int)<((4:Nat):Int);decide)|(show(0:Int)≤((0:Nat):Int);decide)|exact Nat.le_of_ble_eq_true rfl)
     refine⟨[vF (Q2 ns),.agg (Qw (Qc (Q2 ns) rec)),.vs 4 (([]:List Cd).map encC)],⟨.same _,.same _,.same _,trivial⟩,rfl,[vF (Q2 ns),.agg (Qw (Qc (Q2 ns) rec)),vC ([])],⟨.same _,.same _,.tab _ _ _ _ (Qj encC default _).symm,trivial⟩,?_⟩
     refine Zc ns e0 s1 ?_
     repeat' first|refine And.intro ?_ ?_|(intro h;try first|exact dz|replace h:=cv)
     all_goals try exact cz
     all_goals(try((with_reducible show _=true);exact rfl))
     all_goals(try first|(show((0:Nat):Int)<((4:Nat):Int);decide)|(show(0:Int)≤((0:Nat):Int);decide)|exact Nat.le_of_ble_eq_true rfl)
     refine⟨[vF (Q2 ns),.agg (Qw (Qc (Q2 ns) rec)),.vs 4 (([]:List Cd).map encC)],⟨.same _,.same _,.same _,trivial⟩,rfl,[vF (Q2 ns),.agg (Qw (Qc (Q2 ns) rec)),vC ([])],⟨.same _,.same _,.tab _ _ _ _ (Qj encC default _).symm,trivial⟩,?_⟩
     refine Z6 ns rec s1 ?_
     generalize ZC (Q2 ns) (Qc (Q2 ns) rec) ([])=b
     rw[he1]
     cases b
     all_goals
      repeat' first|refine And.intro ?_ ?_|(intro h;try first|exact dz|replace h:=cv)
     all_goals try exact cz
     all_goals
      refine⟨_,lhS (Q2 ns) (Qc (Q2 ns) rec) [] c2 [] ([]++[]) ((1:Nat):Int),?_,⟨1,⟨by omega,rfl⟩,rfl⟩,by omega⟩
      unfold lhS
      exact Q1 [0] (by exact rfl) ⟨.refl _,.refl _,.refl _,Q8 (by first|rfl|omega),trivial⟩ ⟨⟨by decide,_,rfl,.refl _⟩,trivial⟩
   · repeat' first|refine And.intro ?_ ?_|(intro h;try first|exact dz|replace h:=cv)
     all_goals try exact cz
     all_goals(try((with_reducible show _=true);exact rfl))
     all_goals(try first|(show((1:Nat):Int)<((4:Nat):Int);decide)|(show(0:Int)≤((1:Nat):Int);decide)|exact Nat.le_of_ble_eq_true rfl)
     refine⟨[vF (Q2 ns),.agg (Qw (Qc (Q2 ns) rec)),.vs 4 ((c2:List Cd).map encC)],⟨.same _,.same _,.same _,trivial⟩,rfl,[vF (Q2 ns),.agg (Qw (Qc (Q2 ns) rec)),vC (c2)],⟨.same _,.same _,.tab _ _ _ _ (Qj encC default _).symm,trivial⟩,?_⟩
     refine Zc ns e0 s2 ?_
     repeat' first|refine And.intro ?_ ?_|(intro h;try first|exact dz|replace h:=cv)
     all_goals try exact cz
     all_goals(try((with_reducible show _=true);exact rfl))
     all_goals(try first|(show((1:Nat):Int)<((4:Nat):Int);decide)|(show(0:Int)≤((1:Nat):Int);decide)|exact Nat.le_of_ble_eq_true rfl)
     refine⟨[vF (Q2 ns),.agg (Qw (Qc (Q2 ns) rec)),.vs 4 ((c2:List Cd).map encC)],⟨.same _,.same _,.same _,trivial⟩,rfl,[vF (Q2 ns),.agg (Qw (Qc (Q2 ns) rec)),vC (c2)],⟨.same _,.same _,.tab _ _ _ _ (Qj encC default _).symm,trivial⟩,?_⟩
     refine Z6 ns rec s2 ?_
     generalize ZC (Q2 ns) (Qc (Q2 ns) rec) (c2)=b
     generalize Z0 (Q2 ns) (c2)=e
     cases b
     all_goals
      repeat' first|refine And.intro ?_ ?_|(intro h;try first|exact dz|replace h:=cv)
     all_goals try exact cz
     all_goals
      refine⟨_,lhS (Q2 ns) (Qc (Q2 ns) rec) [] c2 [] ([]++[]) ((2:Nat):Int),?_,⟨2,⟨by omega,rfl⟩,rfl⟩,by omega⟩
      unfold lhS
      exact Q1 [0] (by exact rfl) ⟨.refl _,.refl _,.refl _,Q8 (by first|rfl|omega),trivial⟩ ⟨⟨by decide,_,rfl,.refl _⟩,trivial⟩
   · repeat' first|refine And.intro ?_ ?_|(intro h;try first|exact dz|replace h:=cv)
     all_goals try exact cz
     all_goals(try((with_reducible show _=true);exact rfl))
     all_goals(try first|(show((2:Nat):Int)<((4:Nat):Int);decide)|(show(0:Int)≤((2:Nat):Int);decide)|exact Nat.le_of_ble_eq_true rfl)
     refine⟨[vF (Q2 ns),.agg (Qw (Qc (Q2 ns) rec)),.vs 4 (([]:List Cd).map encC)],⟨.same _,.same _,.same _,trivial⟩,rfl,[vF (Q2 ns),.agg (Qw (Qc (Q2 ns) rec)),vC ([])],⟨.same _,.same _,.tab _ _ _ _ (Qj encC default _).symm,trivial⟩,?_⟩
     refine Zc ns e0 s3 ?_
     repeat' first|refine And.intro ?_ ?_|(intro h;try first|exact dz|replace h:=cv)
     all_goals try exact cz
     all_goals(try((with_reducible show _=true);exact rfl))
     all_goals(try first|(show((2:Nat):Int)<((4:Nat):Int);decide)|(show(0:Int)≤((2:Nat):Int);decide)|exact Nat.le_of_ble_eq_true rfl)
     refine⟨[vF (Q2 ns),.agg (Qw (Qc (Q2 ns) rec)),.vs 4 (([]:List Cd).map encC)],⟨.same _,.same _,.same _,trivial⟩,rfl,[vF (Q2 ns),.agg (Qw (Qc (Q2 ns) rec)),vC ([])],⟨.same _,.same _,.tab _ _ _ _ (Qj encC default _).symm,trivial⟩,?_⟩
     refine Z6 ns rec s3 ?_
     generalize ZC (Q2 ns) (Qc (Q2 ns) rec) ([])=b
     generalize Z0 (Q2 ns) ([])=e
     cases b
     all_goals
      repeat' first|refine And.intro ?_ ?_|(intro h;try first|exact dz|replace h:=cv)
     all_goals try exact cz
     all_goals
      refine⟨_,lhS (Q2 ns) (Qc (Q2 ns) rec) [] c2 [] ([]++[]) ((3:Nat):Int),?_,⟨3,⟨by omega,rfl⟩,rfl⟩,by omega⟩
      unfold lhS
      exact Q1 [0] (by exact rfl) ⟨.refl _,.refl _,.refl _,Q8 (by first|rfl|omega),trivial⟩ ⟨⟨by decide,_,rfl,.refl _⟩,trivial⟩
   · repeat' first|refine And.intro ?_ ?_|(intro h;try first|exact dz|replace h:=cv)
     all_goals try exact cz
     all_goals(try((with_reducible show _=true);exact rfl))
     all_goals(try first|(show((3:Nat):Int)<((4:Nat):Int);decide)|(show(0:Int)≤((3:Nat):Int);decide)|exact Nat.le_of_ble_eq_true rfl)
     refine⟨[vF (Q2 ns),.agg (Qw (Qc (Q2 ns) rec)),.vs 4 (([]++[]:List Cd).map encC)],⟨.same _,.same _,.same _,trivial⟩,rfl,[vF (Q2 ns),.agg (Qw (Qc (Q2 ns) rec)),vC ([]++[])],⟨.same _,.same _,.tab _ _ _ _ (Qj encC default _).symm,trivial⟩,?_⟩
     refine Zc ns e0 s4 ?_
     repeat' first|refine And.intro ?_ ?_|(intro h;try first|exact dz|replace h:=cv)
     all_goals try exact cz
     all_goals(try((with_reducible show _=true);exact rfl))
     all_goals(try first|(show((3:Nat):Int)<((4:Nat):Int);decide)|(show(0:Int)≤((3:Nat):Int);decide)|exact Nat.le_of_ble_eq_true rfl)
     refine⟨[vF (Q2 ns),.agg (Qw (Qc (Q2 ns) rec)),.vs 4 (([]++[]:List Cd).map encC)],⟨.same _,.same _,.same _,trivial⟩,rfl,[vF (Q2 ns),.agg (Qw (Qc (Q2 ns) rec)),vC ([]++[])],⟨.same _,.same _,.tab _ _ _ _ (Qj encC default _).symm,trivial⟩,?_⟩
     refine Z6 ns rec s4 ?_
     generalize ZC (Q2 ns) (Qc (Q2 ns) rec) ([]++[])=b
     generalize Z0 (Q2 ns) ([]++[])=e
     cases b
     all_goals
      repeat' first|refine And.intro ?_ ?_|(intro h;try first|exact dz|replace h:=cv)
     all_goals try exact cz
     all_goals
      refine⟨_,lhS (Q2 ns) (Qc (Q2 ns) rec) [] c2 [] ([]++[]) ((4:Nat):Int),?_,⟨4,⟨by omega,rfl⟩,rfl⟩,by omega⟩
      unfold lhS
      exact Q1 [0] (by exact rfl) ⟨.refl _,.refl _,.refl _,Q8 (by first|rfl|omega),trivial⟩ ⟨⟨by decide,_,rfl,.refl _⟩,trivial⟩
   · repeat' first|refine And.intro ?_ ?_|(intro h;try first|exact dz|replace h:=cv)
     all_goals try exact cz
     exact⟨_,Q5 [8] rfl,_,rfl,rfl,rfl⟩
   ·omega
  |cons r0 rt=>
   repeat' first|refine And.intro ?_ ?_|(intro h;try first|exact dz|replace h:=cv)
   all_goals try exact cz
   all_goals(try((with_reducible show _=true);exact OB _))
   all_goals(try first|exact absurd rfl h|exact absurd h (Ka _ _))
   all_goals(try((with_reducible first|show Nat.le _ _|show(_:Nat)≤_);show(_:Nat)≤_;rw[KT];first|omega|(show(_*48:Nat)≤_;omega)))
   refine⟨⟨lhE (Q2 ns) (.vs 1 (Vq [] c2 (r0::rt) ([]++(r0::rt)))),[(0,some (.cells [Qw (Qc (Q2 ns) rec)] false))],5⟩,?_,?_⟩
   ·exact Reb.trans (ZB (nx':=9) (by omega)) (Reb.trans (Q1 (H3:=[(0,some (.cells [Qw (Qc (Q2 ns) rec)] false)),(2,some (.cells [[.vs 4 (([]:List Cd).map encC)],[.vs 4 (c2.map encC)],[.vs 4 (((r0::rt):List Cd).map encC)],[.slice 4 0 ([]++(r0::rt)).length 4 none]] false)),(4,some (.cells (([]++(r0::rt)).map encC) false))]) (e3:=lhE (Q2 ns) (.slice 2 0 4 1 none)) [0,5,3,6,2] (by exact rfl) ⟨.refl _,.refl _,.cap _ _ _ _ _,trivial⟩ ⟨⟨by decide,_,rfl,.refl _⟩,⟨by decide,_,rfl,Nh (unC []) (unC c2) (unC (r0::rt)) (Q7 (KT _))⟩,⟨by decide,_,rfl,Q4 (by exact Qj encC default (r0::rt)) (fC _)⟩,trivial⟩) (fz4 (by simp)))
   repeat' first|refine And.intro ?_ ?_|(intro h;try first|exact dz|replace h:=cv)
   all_goals try exact cz
   refine⟨fun m s=>∃i:Nat,(i≤4∧m=4-i)∧s=lhS (Q2 ns) (Qc (Q2 ns) rec) [] c2 (r0::rt) ([]++(r0::rt)) (i:Int),⟨_,lhS (Q2 ns) (Qc (Q2 ns) rec) [] c2 (r0::rt) ([]++(r0::rt)) ((0:Nat):Int),Q1 [0] (by exact rfl) ⟨.refl _,.refl _,.refl _,.refl _,trivial⟩ ⟨⟨by decide,_,rfl,.refl _⟩,trivial⟩,0,⟨by omega,rfl⟩,rfl⟩,?_⟩
   rintro m s ⟨i,⟨hi,rfl⟩,rfl⟩
   unfold lhS
   rcases i with _|_|_|_|_|i
   · repeat' first|refine And.intro ?_ ?_|(intro h;try first|exact dz|replace h:=cv)
     all_goals try exact cz
     all_goals(try((with_reducible show _=true);exact rfl))
     all_goals(try first|(show((0:Nat):Int)<((4:Nat):Int);decide)|(show(0:Int)≤((0:Nat):Int);decide)|exact Nat.le_of_ble_eq_true rfl)
     refine⟨[vF (Q2 ns),.agg (Qw (Qc (Q2 ns) rec)),.vs 4 (([]:List Cd).map encC)],⟨.same _,.same _,.same _,trivial⟩,rfl,[vF (Q2 ns),.agg (Qw (Qc (Q2 ns) rec)),vC ([])],⟨.same _,.same _,.tab _ _ _ _ (Qj encC default _).symm,trivial⟩,?_⟩
     refine Zc ns e0 s1 ?_
     repeat' first|refine And.intro ?_ ?_|(intro h;try first|exact dz|replace h:=cv)
     all_goals try exact cz
     all_goals(try((with_reducible show _=true);exact rfl))
     all_goals(try first|(show((0:Nat):Int)<((4:Nat):Int);decide)|(show(0:Int)≤((0:Nat):Int);decide)|exact Nat.le_of_ble_eq_true rfl)
     refine⟨[vF (Q2 ns),.agg (Qw (Qc (Q2 ns) rec)),.vs 4 (([]:List Cd).map encC)],⟨.same _,.same _,.same _,trivial⟩,rfl,[vF (Q2 ns),.agg (Qw (Qc (Q2 ns) rec)),vC ([])],⟨.same _,.same _,.tab _ _ _ _ (Qj encC default _).symm,trivial⟩,?_⟩
     refine Z6 ns rec s1 ?_
     generalize ZC (Q2 ns) (Qc (Q2 ns) rec) ([])=b
     rw[he1]
     cases b
     all_goals
      repeat' first|refine And.intro ?_ ?_|(intro h;try first|exact dz|replace h:=cv)
     all_goals try exact cz
     all_goals
      refine⟨_,lhS (Q2 ns) (Qc (Q2 ns) rec) [] c2 (r0::rt) ([]++(r0::rt)) ((1:Nat):Int),?_,⟨1,⟨by omega,rfl⟩,rfl⟩,by omega⟩
      unfold lhS
      exact Q1 [0] (by exact rfl) ⟨.refl _,.refl _,.refl _,Q8 (by first|rfl|omega),trivial⟩ ⟨⟨by decide,_,rfl,.refl _⟩,trivial⟩
   · repeat' first|refine And.intro ?_ ?_|(intro h;try first|exact dz|replace h:=cv)
     all_goals try exact cz
     all_goals(try((with_reducible show _=true);exact rfl))
     all_goals(try first|(show((1:Nat):Int)<((4:Nat):Int);decide)|(show(0:Int)≤((1:Nat):Int);decide)|exact Nat.le_of_ble_eq_true rfl)
     refine⟨[vF (Q2 ns),.agg (Qw (Qc (Q2 ns) rec)),.vs 4 ((c2:List Cd).map encC)],⟨.same _,.same _,.same _,trivial⟩,rfl,[vF (Q2 ns),.agg (Qw (Qc (Q2 ns) rec)),vC (c2)],⟨.same _,.same _,.tab _ _ _ _ (Qj encC default _).symm,trivial⟩,?_⟩
     refine Zc ns e0 s2 ?_
     repeat' first|refine And.intro ?_ ?_|(intro h;try first|exact dz|replace h:=cv)
     all_goals try exact cz
     all_goals(try((with_reducible show _=true);exact rfl))
     all_goals(try first|(show((1:Nat):Int)<((4:Nat):Int);decide)|(show(0:Int)≤((1:Nat):Int);decide)|exact Nat.le_of_ble_eq_true rfl)
     refine⟨[vF (Q2 ns),.agg (Qw (Qc (Q2 ns) rec)),.vs 4 ((c2:List Cd).map encC)],⟨.same _,.same _,.same _,trivial⟩,rfl,[vF (Q2 ns),.agg (Qw (Qc (Q2 ns) rec)),vC (c2)],⟨.same _,.same _,.tab _ _ _ _ (Qj encC default _).symm,trivial⟩,?_⟩
     refine Z6 ns rec s2 ?_
     generalize ZC (Q2 ns) (Qc (Q2 ns) rec) (c2)=b
     generalize Z0 (Q2 ns) (c2)=e
     cases b
     all_goals
      repeat' first|refine And.intro ?_ ?_|(intro h;try first|exact dz|replace h:=cv)
     all_goals try exact cz
     all_goals
      refine⟨_,lhS (Q2 ns) (Qc (Q2 ns) rec) [] c2 (r0::rt) ([]++(r0::rt)) ((2:Nat):Int),?_,⟨2,⟨by omega,rfl⟩,rfl⟩,by omega⟩
      unfold lhS
      exact Q1 [0] (by exact rfl) ⟨.refl _,.refl _,.refl _,Q8 (by first|rfl|omega),trivial⟩ ⟨⟨by decide,_,rfl,.refl _⟩,trivial⟩
   · repeat' first|refine And.intro ?_ ?_|(intro h;try first|exact dz|replace h:=cv)
     all_goals try exact cz
     all_goals(try((with_reducible show _=true);exact rfl))
     all_goals(try first|(show((2:Nat):Int)<((4:Nat):Int);decide)|(show(0:Int)≤((2:Nat):Int);decide)|exact Nat.le_of_ble_eq_true rfl)
     refine⟨[vF (Q2 ns),.agg (Qw (Qc (Q2 ns) rec)),.vs 4 (((r0::rt):List Cd).map encC)],⟨.same _,.same _,.same _,trivial⟩,rfl,[vF (Q2 ns),.agg (Qw (Qc (Q2 ns) rec)),vC ((r0::rt))],⟨.same _,.same _,.tab _ _ _ _ (Qj encC default _).symm,trivial⟩,?_⟩
     refine Zc ns e0 s3 ?_
     repeat' first|refine And.intro ?_ ?_|(intro h;try first|exact dz|replace h:=cv)
     all_goals try exact cz
     all_goals(try((with_reducible show _=true);exact rfl))
     all_goals(try first|(show((2:Nat):Int)<((4:Nat):Int);decide)|(show(0:Int)≤((2:Nat):Int);decide)|exact Nat.le_of_ble_eq_true rfl)
     refine⟨[vF (Q2 ns),.agg (Qw (Qc (Q2 ns) rec)),.vs 4 (((r0::rt):List Cd).map encC)],⟨.same _,.same _,.same _,trivial⟩,rfl,[vF (Q2 ns),.agg (Qw (Qc (Q2 ns) rec)),vC ((r0::rt))],⟨.same _,.same _,.tab _ _ _ _ (Qj encC default _).symm,trivial⟩,?_⟩
     refine Z6 ns rec s3 ?_
     generalize ZC (Q2 ns) (Qc (Q2 ns) rec) ((r0::rt))=b
     generalize Z0 (Q2 ns) ((r0::rt))=e
     cases b
     all_goals
      repeat' first|refine And.intro ?_ ?_|(intro h;try first|exact dz|replace h:=cv)
     all_goals try exact cz
     all_goals
      refine⟨_,lhS (Q2 ns) (Qc (Q2 ns) rec) [] c2 (r0::rt) ([]++(r0::rt)) ((3:Nat):Int),?_,⟨3,⟨by omega,rfl⟩,rfl⟩,by omega⟩
      unfold lhS
      exact Q1 [0] (by exact rfl) ⟨.refl _,.refl _,.refl _,Q8 (by first|rfl|omega),trivial⟩ ⟨⟨by decide,_,rfl,.refl _⟩,trivial⟩
   · repeat' first|refine And.intro ?_ ?_|(intro h;try first|exact dz|replace h:=cv)
     all_goals try exact cz
     all_goals(try((with_reducible show _=true);exact rfl))
     all_goals(try first|(show((3:Nat):Int)<((4:Nat):Int);decide)|(show(0:Int)≤((3:Nat):Int);decide)|exact Nat.le_of_ble_eq_true rfl)
     refine⟨[vF (Q2 ns),.agg (Qw (Qc (Q2 ns) rec)),.vs 4 (([]++(r0::rt):List Cd).map encC)],⟨.same _,.same _,.same _,trivial⟩,rfl,[vF (Q2 ns),.agg (Qw (Qc (Q2 ns) rec)),vC ([]++(r0::rt))],⟨.same _,.same _,.tab _ _ _ _ (Qj encC default _).symm,trivial⟩,?_⟩
     refine Zc ns e0 s4 ?_
     repeat' first|refine And.intro ?_ ?_|(intro h;try first|exact dz|replace h:=cv)
     all_goals try exact cz
     all_goals(try((with_reducible show _=true);exact rfl))
     all_goals(try first|(show((3:Nat):Int)<((4:Nat):Int);decide)|(show(0:Int)≤((3:Nat):Int);decide)|exact Nat.le_of_ble_eq_true rfl)
     refine⟨[vF (Q2 ns),.agg (Qw (Qc (Q2 ns) rec)),.vs 4 (([]++(r0::rt):List Cd).map encC)],⟨.same _,.same _,.same _,trivial⟩,rfl,[vF (Q2 ns),.agg (Qw (Qc (Q2 ns) rec)),vC ([]++(r0::rt))],⟨.same _,.same _,.tab _ _ _ _ (Qj encC default _).symm,trivial⟩,?_⟩
     refine Z6 ns rec s4 ?_
     generalize ZC (Q2 ns) (Qc (Q2 ns) rec) ([]++(r0::rt))=b
     generalize Z0 (Q2 ns) ([]++(r0::rt))=e
     cases b
     all_goals
      repeat' first|refine And.intro ?_ ?_|(intro h;try first|exact dz|replace h:=cv)
     all_goals try exact cz
     all_goals
      refine⟨_,lhS (Q2 ns) (Qc (Q2 ns) rec) [] c2 (r0::rt) ([]++(r0::rt)) ((4:Nat):Int),?_,⟨4,⟨by omega,rfl⟩,rfl⟩,by omega⟩
      unfold lhS
      exact Q1 [0] (by exact rfl) ⟨.refl _,.refl _,.refl _,Q8 (by first|rfl|omega),trivial⟩ ⟨⟨by decide,_,rfl,.refl _⟩,trivial⟩
   · repeat' first|refine And.intro ?_ ?_|(intro h;try first|exact dz|replace h:=cv)
     all_goals try exact cz
     exact⟨_,Q5 [8] rfl,_,rfl,rfl,rfl⟩
   ·omega
 |cons o0 ot=>
  cases raw with
  |nil=>
   repeat' first|refine And.intro ?_ ?_|(intro h;try first|exact dz|replace h:=cv)
   all_goals try exact cz
   all_goals(try((with_reducible show _=true);exact OB _))
   all_goals(try first|exact absurd rfl h|exact absurd h (Ka _ _))
   all_goals(try((with_reducible first|show Nat.le _ _|show(_:Nat)≤_);show(_:Nat)≤_;rw[KT];first|omega|(show(_*48:Nat)≤_;omega)))
   refine⟨⟨lhE (Q2 ns) (.vs 1 (Vq (o0::ot) c2 [] ((o0::ot)++[]))),[(0,some (.cells [Qw (Qc (Q2 ns) rec)] false))],5⟩,?_,?_⟩
   ·exact Reb.trans (ZB (nx':=9) (by omega)) (Reb.trans (Q1 (H3:=[(0,some (.cells [Qw (Qc (Q2 ns) rec)] false)),(2,some (.cells [[.vs 4 (((o0::ot):List Cd).map encC)],[.vs 4 (c2.map encC)],[.vs 4 (([]:List Cd).map encC)],[.slice 4 0 ((o0::ot)++[]).length 4 none]] false)),(4,some (.cells (((o0::ot)++[]).map encC) false))]) (e3:=lhE (Q2 ns) (.slice 2 0 4 1 none)) [0,5,2,6,1] (by exact rfl) ⟨.refl _,.refl _,.cap _ _ _ _ _,trivial⟩ ⟨⟨by decide,_,rfl,.refl _⟩,⟨by decide,_,rfl,Nh (unC (o0::ot)) (unC c2) (unC []) (Q7 (by simp))⟩,⟨by decide,_,rfl,Q4 (by rw[List.append_nil];exact RT _ _) (fC _)⟩,trivial⟩) (fz4 (by simp)))
   repeat' first|refine And.intro ?_ ?_|(intro h;try first|exact dz|replace h:=cv)
   all_goals try exact cz
   refine⟨fun m s=>∃i:Nat,(i≤4∧m=4-i)∧s=lhS (Q2 ns) (Qc (Q2 ns) rec) (o0::ot) c2 [] ((o0::ot)++[]) (i:Int),⟨_,lhS (Q2 ns) (Qc (Q2 ns) rec) (o0::ot) c2 [] ((o0::ot)++[]) ((0:Nat):Int),Q1 [0] (by exact rfl) ⟨.refl _,.refl _,.refl _,.refl _,trivial⟩ ⟨⟨by decide,_,rfl,.refl _⟩,trivial⟩,0,⟨by omega,rfl⟩,rfl⟩,?_⟩
   rintro m s ⟨i,⟨hi,rfl⟩,rfl⟩
   unfold lhS
   rcases i with _|_|_|_|_|i
   · repeat' first|refine And.intro ?_ ?_|(intro h;try first|exact dz|replace h:=cv)
     all_goals try exact cz
     all_goals(try((with_reducible show _=true);exact rfl))
     all_goals(try first|(show((0:Nat):Int)<((4:Nat):Int);decide)|(show(0:Int)≤((0:Nat):Int);decide)|exact Nat.le_of_ble_eq_true rfl)
     refine⟨[vF (Q2 ns),.agg (Qw (Qc (Q2 ns) rec)),.vs 4 (((o0::ot):List Cd).map encC)],⟨.same _,.same _,.same _,trivial⟩,rfl,[vF (Q2 ns),.agg (Qw (Qc (Q2 ns) rec)),vC ((o0::ot))],⟨.same _,.same _,.tab _ _ _ _ (Qj encC default _).symm,trivial⟩,?_⟩
     refine Zc ns e0 s1 ?_
     repeat' first|refine And.intro ?_ ?_|(intro h;try first|exact dz|replace h:=cv)
     all_goals try exact cz
     all_goals(try((with_reducible show _=true);exact rfl))
     all_goals(try first|(show((0:Nat):Int)<((4:Nat):Int);decide)|(show(0:Int)≤((0:Nat):Int);decide)|exact Nat.le_of_ble_eq_true rfl)
     refine⟨[vF (Q2 ns),.agg (Qw (Qc (Q2 ns) rec)),.vs 4 (((o0::ot):List Cd).map encC)],⟨.same _,.same _,.same _,trivial⟩,rfl,[vF (Q2 ns),.agg (Qw (Qc (Q2 ns) rec)),vC ((o0::ot))],⟨.same _,.same _,.tab _ _ _ _ (Qj encC default _).symm,trivial⟩,?_⟩
     refine Z6 ns rec s1 ?_
     generalize ZC (Q2 ns) (Qc (Q2 ns) rec) ((o0::ot))=b
     rw[he1]
     cases b
     all_goals
      repeat' first|refine And.intro ?_ ?_|(intro h;try first|exact dz|replace h:=cv)
     all_goals try exact cz
     all_goals
      refine⟨_,lhS (Q2 ns) (Qc (Q2 ns) rec) (o0::ot) c2 [] ((o0::ot)++[]) ((1:Nat):Int),?_,⟨1,⟨by omega,rfl⟩,rfl⟩,by omega⟩
      unfold lhS
      exact Q1 [0] (by exact rfl) ⟨.refl _,.refl _,.refl _,Q8 (by first|rfl|omega),trivial⟩ ⟨⟨by decide,_,rfl,.refl _⟩,trivial⟩
   · repeat' first|refine And.intro ?_ ?_|(intro h;try first|exact dz|replace h:=cv)
     all_goals try exact cz
     all_goals(try((with_reducible show _=true);exact rfl))
     all_goals(try first|(show((1:Nat):Int)<((4:Nat):Int);decide)|(show(0:Int)≤((1:Nat):Int);decide)|exact Nat.le_of_ble_eq_true rfl)
     refine⟨[vF (Q2 ns),.agg (Qw (Qc (Q2 ns) rec)),.vs 4 ((c2:List Cd).map encC)],⟨.same _,.same _,.same _,trivial⟩,rfl,[vF (Q2 ns),.agg (Qw (Qc (Q2 ns) rec)),vC (c2)],⟨.same _,.same _,.tab _ _ _ _ (Qj encC default _).symm,trivial⟩,?_⟩
     refine Zc ns e0 s2 ?_
     repeat' first|refine And.intro ?_ ?_|(intro h;try first|exact dz|replace h:=cv)
     all_goals try exact cz
     all_goals(try((with_reducible show _=true);exact rfl))
     all_goals(try first|(show((1:Nat):Int)<((4:Nat):Int);decide)|(show(0:Int)≤((1:Nat):Int);decide)|exact Nat.le_of_ble_eq_true rfl)
     refine⟨[vF (Q2 ns),.agg (Qw (Qc (Q2 ns) rec)),.vs 4 ((c2:List Cd).map encC)],⟨.same _,.same _,.same _,trivial⟩,rfl,[vF (Q2 ns),.agg (Qw (Qc (Q2 ns) rec)),vC (c2)],⟨.same _,.same _,.tab _ _ _ _ (Qj encC default _).symm,trivial⟩,?_⟩
     refine Z6 ns rec s2 ?_
     generalize ZC (Q2 ns) (Qc (Q2 ns) rec) (c2)=b
     generalize Z0 (Q2 ns) (c2)=e
     cases b
     all_goals
      repeat' first|refine And.intro ?_ ?_|(intro h;try first|exact dz|replace h:=cv)
     all_goals try exact cz
     all_goals
      refine⟨_,lhS (Q2 ns) (Qc (Q2 ns) rec) (o0::ot) c2 [] ((o0::ot)++[]) ((2:Nat):Int),?_,⟨2,⟨by omega,rfl⟩,rfl⟩,by omega⟩
      unfold lhS
      exact Q1 [0] (by exact rfl) ⟨.refl _,.refl _,.refl _,Q8 (by first|rfl|omega),trivial⟩ ⟨⟨by decide,_,rfl,.refl _⟩,trivial⟩
   · repeat' first|refine And.intro ?_ ?_|(intro h;try first|exact dz|replace h:=cv)
     all_goals try exact cz
     all_goals(try((with_reducible show _=true);exact rfl))
     all_goals(try first|(show((2:Nat):Int)<((4:Nat):Int);decide)|(show(0:Int)≤((2:Nat):Int);decide)|exact Nat.le_of_ble_eq_true rfl)
     refine⟨[vF (Q2 ns),.agg (Qw (Qc (Q2 ns) rec)),.vs 4 (([]:List Cd).map encC)],⟨.same _,.same _,.same _,trivial⟩,rfl,[vF (Q2 ns),.agg (Qw (Qc (Q2 ns) rec)),vC ([])],⟨.same _,.same _,.tab _ _ _ _ (Qj encC default _).symm,trivial⟩,?_⟩
     refine Zc ns e0 s3 ?_
     repeat' first|refine And.intro ?_ ?_|(intro h;try first|exact dz|replace h:=cv)
     all_goals try exact cz
     all_goals(try((with_reducible show _=true);exact rfl))
     all_goals(try first|(show((2:Nat):Int)<((4:Nat):Int);decide)|(show(0:Int)≤((2:Nat):Int);decide)|exact Nat.le_of_ble_eq_true rfl)
     refine⟨[vF (Q2 ns),.agg (Qw (Qc (Q2 ns) rec)),.vs 4 (([]:List Cd).map encC)],⟨.same _,.same _,.same _,trivial⟩,rfl,[vF (Q2 ns),.agg (Qw (Qc (Q2 ns) rec)),vC ([])],⟨.same _,.same _,.tab _ _ _ _ (Qj encC default _).symm,trivial⟩,?_⟩
     refine Z6 ns rec s3 ?_
     generalize ZC (Q2 ns) (Qc (Q2 ns) rec) ([])=b
     generalize Z0 (Q2 ns) ([])=e
     cases b
     all_goals
      repeat' first|refine And.intro ?_ ?_|(intro h;try first|exact dz|replace h:=cv)
     all_goals try exact cz
     all_goals
      refine⟨_,lhS (Q2 ns) (Qc (Q2 ns) rec) (o0::ot) c2 [] ((o0::ot)++[]) ((3:Nat):Int),?_,⟨3,⟨by omega,rfl⟩,rfl⟩,by omega⟩
      unfold lhS
      exact Q1 [0] (by exact rfl) ⟨.refl _,.refl _,.refl _,Q8 (by first|rfl|omega),trivial⟩ ⟨⟨by decide,_,rfl,.refl _⟩,trivial⟩
   · repeat' first|refine And.intro ?_ ?_|(intro h;try first|exact dz|replace h:=cv)
     all_goals try exact cz
     all_goals(try((with_reducible show _=true);exact rfl))
     all_goals(try first|(show((3:Nat):Int)<((4:Nat):Int);decide)|(show(0:Int)≤((3:Nat):Int);decide)|exact Nat.le_of_ble_eq_true rfl)
     refine⟨[vF (Q2 ns),.agg (Qw (Qc (Q2 ns) rec)),.vs 4 (((o0::ot)++[]:List Cd).map encC)],⟨.same _,.same _,.same _,trivial⟩,rfl,[vF (Q2 ns),.agg (Qw (Qc (Q2 ns) rec)),vC ((o0::ot)++[])],⟨.same _,.same _,.tab _ _ _ _ (Qj encC default _).symm,trivial⟩,?_⟩
     refine Zc ns e0 s4 ?_
     repeat' first|refine And.intro ?_ ?_|(intro h;try first|exact dz|replace h:=cv)
     all_goals try exact cz
     all_goals(try((with_reducible show _=true);exact rfl))
     all_goals(try first|(show((3:Nat):Int)<((4:Nat):Int);decide)|(show(0:Int)≤((3:Nat):Int);decide)|exact Nat.le_of_ble_eq_true rfl)
     refine⟨[vF (Q2 ns),.agg (Qw (Qc (Q2 ns) rec)),.vs 4 (((o0::ot)++[]:List Cd).map encC)],⟨.same _,.same _,.same _,trivial⟩,rfl,[vF (Q2 ns),.agg (Qw (Qc (Q2 ns) rec)),vC ((o0::ot)++[])],⟨.same _,.same _,.tab _ _ _ _ (Qj encC default _).symm,trivial⟩,?_⟩
     refine Z6 ns rec s4 ?_
     generalize ZC (Q2 ns) (Qc (Q2 ns) rec) ((o0::ot)++[])=b
     generalize Z0 (Q2 ns) ((o0::ot)++[])=e
     cases b
     all_goals
      repeat' first|refine And.intro ?_ ?_|(intro h;try first|exact dz|replace h:=cv)
     all_goals try exact cz
     all_goals
      refine⟨_,lhS (Q2 ns) (Qc (Q2 ns) rec) (o0::ot) c2 [] ((o0::ot)++[]) ((4:Nat):Int),?_,⟨4,⟨by omega,rfl⟩,rfl⟩,by omega⟩
      unfold lhS
      exact Q1 [0] (by exact rfl) ⟨.refl _,.refl _,.refl _,Q8 (by first|rfl|omega),trivial⟩ ⟨⟨by decide,_,rfl,.refl _⟩,trivial⟩
   · repeat' first|refine And.intro ?_ ?_|(intro h;try first|exact dz|replace h:=cv)
     all_goals try exact cz
     exact⟨_,Q5 [8] rfl,_,rfl,rfl,rfl⟩
   ·omega
  |cons r0 rt=>
   repeat' first|refine And.intro ?_ ?_|(intro h;try first|exact dz|replace h:=cv)
   all_goals try exact cz
   all_goals(try((with_reducible show _=true);exact OB _))
   all_goals(try first|exact absurd rfl h|exact absurd h (Ka _ _))
   all_goals(try((with_reducible first|show Nat.le _ _|show(_:Nat)≤_);show(_:Nat)≤_;rw[KT];first|omega|(show(_*48:Nat)≤_;omega)))
   refine⟨⟨lhE (Q2 ns) (.vs 1 (Vq (o0::ot) c2 (r0::rt) ((o0::ot)++(r0::rt)))),[(0,some (.cells [Qw (Qc (Q2 ns) rec)] false))],5⟩,?_,?_⟩
   ·exact Reb.trans (ZB (nx':=9) (by omega)) (Reb.trans (Q1 (H3:=[(0,some (.cells [Qw (Qc (Q2 ns) rec)] false)),(2,some (.cells [[.vs 4 (((o0::ot):List Cd).map encC)],[.vs 4 (c2.map encC)],[.vs 4 (((r0::rt):List Cd).map encC)],[.slice 4 0 ((o0::ot)++(r0::rt)).length 4 none]] false)),(4,some (.cells (((o0::ot)++(r0::rt)).map encC) false))]) (e3:=lhE (Q2 ns) (.slice 2 0 4 1 none)) [0,5,3,6,2] (by exact rfl) ⟨.refl _,.refl _,.cap _ _ _ _ _,trivial⟩ ⟨⟨by decide,_,rfl,.refl _⟩,⟨by decide,_,rfl,Nh (unC (o0::ot)) (unC c2) (unC (r0::rt)) (Q7 (by rw[KT,List.length_append]))⟩,⟨by decide,_,rfl,Q4 (by rw[RT,Qj encC default (r0::rt),List.map_append,List.drop_zero,List.take_of_length_le (by simp)]) (fC _)⟩,trivial⟩) (fz4 (by simp)))
   repeat' first|refine And.intro ?_ ?_|(intro h;try first|exact dz|replace h:=cv)
   all_goals try exact cz
   refine⟨fun m s=>∃i:Nat,(i≤4∧m=4-i)∧s=lhS (Q2 ns) (Qc (Q2 ns) rec) (o0::ot) c2 (r0::rt) ((o0::ot)++(r0::rt)) (i:Int),⟨_,lhS (Q2 ns) (Qc (Q2 ns) rec) (o0::ot) c2 (r0::rt) ((o0::ot)++(r0::rt)) ((0:Nat):Int),Q1 [0] (by exact rfl) ⟨.refl _,.refl _,.refl _,.refl _,trivial⟩ ⟨⟨by decide,_,rfl,.refl _⟩,trivial⟩,0,⟨by omega,rfl⟩,rfl⟩,?_⟩
   rintro m s ⟨i,⟨hi,rfl⟩,rfl⟩
   unfold lhS
   rcases i with _|_|_|_|_|i
   · repeat' first|refine And.intro ?_ ?_|(intro h;try first|exact dz|replace h:=cv)
     all_goals try exact cz
     all_goals(try((with_reducible show _=true);exact rfl))
     all_goals(try first|(show((0:Nat):Int)<((4:Nat):Int);decide)|(show(0:Int)≤((0:Nat):Int);decide)|exact Nat.le_of_ble_eq_true rfl)
     refine⟨[vF (Q2 ns),.agg (Qw (Qc (Q2 ns) rec)),.vs 4 (((o0::ot):List Cd).map encC)],⟨.same _,.same _,.same _,trivial⟩,rfl,[vF (Q2 ns),.agg (Qw (Qc (Q2 ns) rec)),vC ((o0::ot))],⟨.same _,.same _,.tab _ _ _ _ (Qj encC default _).symm,trivial⟩,?_⟩
     refine Zc ns e0 s1 ?_
     repeat' first|refine And.intro ?_ ?_|(intro h;try first|exact dz|replace h:=cv)
     all_goals try exact cz
     all_goals(try((with_reducible show _=true);exact rfl))
     all_goals(try first|(show((0:Nat):Int)<((4:Nat):Int);decide)|(show(0:Int)≤((0:Nat):Int);decide)|exact Nat.le_of_ble_eq_true rfl)
     refine⟨[vF (Q2 ns),.agg (Qw (Qc (Q2 ns) rec)),.vs 4 (((o0::ot):List Cd).map encC)],⟨.same _,.same _,.same _,trivial⟩,rfl,[vF (Q2 ns),.agg (Qw (Qc (Q2 ns) rec)),vC ((o0::ot))],⟨.same _,.same _,.tab _ _ _ _ (Qj encC default _).symm,trivial⟩,?_⟩
     refine Z6 ns rec s1 ?_
     generalize ZC (Q2 ns) (Qc (Q2 ns) rec) ((o0::ot))=b
     rw[he1]
     cases b
     all_goals
      repeat' first|refine And.intro ?_ ?_|(intro h;try first|exact dz|replace h:=cv)
     all_goals try exact cz
     all_goals
      refine⟨_,lhS (Q2 ns) (Qc (Q2 ns) rec) (o0::ot) c2 (r0::rt) ((o0::ot)++(r0::rt)) ((1:Nat):Int),?_,⟨1,⟨by omega,rfl⟩,rfl⟩,by omega⟩
      unfold lhS
      exact Q1 [0] (by exact rfl) ⟨.refl _,.refl _,.refl _,Q8 (by first|rfl|omega),trivial⟩ ⟨⟨by decide,_,rfl,.refl _⟩,trivial⟩
   · repeat' first|refine And.intro ?_ ?_|(intro h;try first|exact dz|replace h:=cv)
     all_goals try exact cz
     all_goals(try((with_reducible show _=true);exact rfl))
     all_goals(try first|(show((1:Nat):Int)<((4:Nat):Int);decide)|(show(0:Int)≤((1:Nat):Int);decide)|exact Nat.le_of_ble_eq_true rfl)
     refine⟨[vF (Q2 ns),.agg (Qw (Qc (Q2 ns) rec)),.vs 4 ((c2:List Cd).map encC)],⟨.same _,.same _,.same _,trivial⟩,rfl,[vF (Q2 ns),.agg (Qw (Qc (Q2 ns) rec)),vC (c2)],⟨.same _,.same _,.tab _ _ _ _ (Qj encC default _).symm,trivial⟩,?_⟩
     refine Zc ns e0 s2 ?_
     repeat' first|refine And.intro ?_ ?_|(intro h;try first|exact dz|replace h:=cv)
     all_goals try exact cz
     all_goals(try((with_reducible show _=true);exact rfl))
     all_goals(try first|(show((1:Nat):Int)<((4:Nat):Int);decide)|(show(0:Int)≤((1:Nat):Int);decide)|exact Nat.le_of_ble_eq_true rfl)
     refine⟨[vF (Q2 ns),.agg (Qw (Qc (Q2 ns) rec)),.vs 4 ((c2:List Cd).map encC)],⟨.same _,.same _,.same _,trivial⟩,rfl,[vF (Q2 ns),.agg (Qw (Qc (Q2 ns) rec)),vC (c2)],⟨.same _,.same _,.tab _ _ _ _ (Qj encC default _).symm,trivial⟩,?_⟩
     refine Z6 ns rec s2 ?_
     generalize ZC (Q2 ns) (Qc (Q2 ns) rec) (c2)=b
     generalize Z0 (Q2 ns) (c2)=e
     cases b
     all_goals
      repeat' first|refine And.intro ?_ ?_|(intro h;try first|exact dz|replace h:=cv)
     all_goals try exact cz
     all_goals
      refine⟨_,lhS (Q2 ns) (Qc (Q2 ns) rec) (o0::ot) c2 (r0::rt) ((o0::ot)++(r0::rt)) ((2:Nat):Int),?_,⟨2,⟨by omega,rfl⟩,rfl⟩,by omega⟩
      unfold lhS
      exact Q1 [0] (by exact rfl) ⟨.refl _,.refl _,.refl _,Q8 (by first|rfl|omega),trivial⟩ ⟨⟨by decide,_,rfl,.refl _⟩,trivial⟩
   · repeat' first|refine And.intro ?_ ?_|(intro h;try first|exact dz|replace h:=cv)
     all_goals try exact cz
     all_goals(try((with_reducible show _=true);exact rfl))
     all_goals(try first|(show((2:Nat):Int)<((4:Nat):Int);decide)|(show(0:Int)≤((2:Nat):Int);decide)|exact Nat.le_of_ble_eq_true rfl)
     refine⟨[vF (Q2 ns),.agg (Qw (Qc (Q2 ns) rec)),.vs 4 (((r0::rt):List Cd).map encC)],⟨.same _,.same _,.same _,trivial⟩,rfl,[vF (Q2 ns),.agg (Qw (Qc (Q2 ns) rec)),vC ((r0::rt))],⟨.same _,.same _,.tab _ _ _ _ (Qj encC default _).symm,trivial⟩,?_⟩
     refine Zc ns e0 s3 ?_
     repeat' first|refine And.intro ?_ ?_|(intro h;try first|exact dz|replace h:=cv)
     all_goals try exact cz
     all_goals(try((with_reducible show _=true);exact rfl))
     all_goals(try first|(show((2:Nat):Int)<((4:Nat):Int);decide)|(show(0:Int)≤((2:Nat):Int);decide)|exact Nat.le_of_ble_eq_true rfl)
     refine⟨[vF (Q2 ns),.agg (Qw (Qc (Q2 ns) rec)),.vs 4 (((r0::rt):List Cd).map encC)],⟨.same _,.same _,.same _,trivial⟩,rfl,[vF (Q2 ns),.agg (Qw (Qc (Q2 ns) rec)),vC ((r0::rt))],⟨.same _,.same _,.tab _ _ _ _ (Qj encC default _).symm,trivial⟩,?_⟩
     refine Z6 ns rec s3 ?_
     generalize ZC (Q2 ns) (Qc (Q2 ns) rec) ((r0::rt))=b
     generalize Z0 (Q2 ns) ((r0::rt))=e
     cases b
     all_goals
      repeat' first|refine And.intro ?_ ?_|(intro h;try first|exact dz|replace h:=cv)
     all_goals try exact cz
     all_goals
      refine⟨_,lhS (Q2 ns) (Qc (Q2 ns) rec) (o0::ot) c2 (r0::rt) ((o0::ot)++(r0::rt)) ((3:Nat):Int),?_,⟨3,⟨by omega,rfl⟩,rfl⟩,by omega⟩
      unfold lhS
      exact Q1 [0] (by exact rfl) ⟨.refl _,.refl _,.refl _,Q8 (by first|rfl|omega),trivial⟩ ⟨⟨by decide,_,rfl,.refl _⟩,trivial⟩
   · repeat' first|refine And.intro ?_ ?_|(intro h;try first|exact dz|replace h:=cv)
     all_goals try exact cz
     all_goals(try((with_reducible show _=true);exact rfl))
     all_goals(try first|(show((3:Nat):Int)<((4:Nat):Int);decide)|(show(0:Int)≤((3:Nat):Int);decide)|exact Nat.le_of_ble_eq_true rfl)
     refine⟨[vF (Q2 ns),.agg (Qw (Qc (Q2 ns) rec)),.vs 4 (((o0::ot)++(r0::rt):List Cd).map encC)],⟨.same _,.same _,.same _,trivial⟩,rfl,[vF (Q2 ns),.agg (Qw (Qc (Q2 ns) rec)),vC ((o0::ot)++(r0::rt))],⟨.same _,.same _,.tab _ _ _ _ (Qj encC default _).symm,trivial⟩,?_⟩
     refine Zc ns e0 s4 ?_
     repeat' first|refine And.intro ?_ ?_|(intro h;try first|exact dz|replace h:=cv)
     all_goals try exact cz
     all_goals(try((with_reducible show _=true);exact rfl))
     all_goals(try first|(show((3:Nat):Int)<((4:Nat):Int);decide)|(show(0:Int)≤((3:Nat):Int);decide)|exact Nat.le_of_ble_eq_true rfl)
     refine⟨[vF (Q2 ns),.agg (Qw (Qc (Q2 ns) rec)),.vs 4 (((o0::ot)++(r0::rt):List Cd).map encC)],⟨.same _,.same _,.same _,trivial⟩,rfl,[vF (Q2 ns),.agg (Qw (Qc (Q2 ns) rec)),vC ((o0::ot)++(r0::rt))],⟨.same _,.same _,.tab _ _ _ _ (Qj encC default _).symm,trivial⟩,?_⟩
     refine Z6 ns rec s4 ?_
     generalize ZC (Q2 ns) (Qc (Q2 ns) rec) ((o0::ot)++(r0::rt))=b
     generalize Z0 (Q2 ns) ((o0::ot)++(r0::rt))=e
     cases b
     all_goals
      repeat' first|refine And.intro ?_ ?_|(intro h;try first|exact dz|replace h:=cv)
     all_goals try exact cz
     all_goals
      refine⟨_,lhS (Q2 ns) (Qc (Q2 ns) rec) (o0::ot) c2 (r0::rt) ((o0::ot)++(r0::rt)) ((4:Nat):Int),?_,⟨4,⟨by omega,rfl⟩,rfl⟩,by omega⟩
      unfold lhS
      exact Q1 [0] (by exact rfl) ⟨.refl _,.refl _,.refl _,Q8 (by first|rfl|omega),trivial⟩ ⟨⟨by decide,_,rfl,.refl _⟩,trivial⟩
   · repeat' first|refine And.intro ?_ ?_|(intro h;try first|exact dz|replace h:=cv)
     all_goals try exact cz
     exact⟨_,Q5 [8] rfl,_,rfl,rfl,rfl⟩
   ·omega
theorem Pn[Syms](ns rec:List Int)(l:List Rc)(raw:List Cd)(hn:ns.length≤9223372036854775807)(_:∀g∈ns,I64 g)(hr:rec.length≤9223372036854775807)(hri:∀g∈rec,I64 g)(hl:l.length≤9223372036854775807)(hls:∀v∈l,v.v.s.length≤9223372036854775807)(hw:raw.length≤9223372036854775807)(hws:∀c∈raw,c.v.s.length≤9223372036854775807):
 Xw Tryz.prog 3 [vI ns,vI rec,vRc l,vC raw] [] 0 (fun v H _=>v= .bool true∧H=[]):=
 Zw Qu Qs LU R9 QJ (La ns rec l raw hn hr (Pw hri) hl hls hw hws)
end
end Go.Proofs.YtekipcaifckffaaGreat
