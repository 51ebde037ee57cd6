/-
  Calls; regions in their own order; the calm part of a region that draws its order: words. Over every program.
-/
import Derived.Test.YtgaacnljcnibdaaAvR
set_option linter.unusedVariables false
set_option linter.unusedSimpArgs false
noncomputable section
namespace Go.Av

theorem args_rel [Syms] {ι : Inj} {ρ : Operand → AVal} {σ : Operand → Value} (hev : ∀ x, RelV ι (ρ x) (σ x)) : ∀ l : List Operand, RelL ι (l.map ρ) (l.map σ)
  | [] => .nil ι
  | x :: l => .cons (hev x) (args_rel hev l)

theorem RelV.of_func [Syms] {ι : Inj} {f : FuncId} {cs : List AVal} {v : Value} (h : RelV ι (.func f cs) v) : ∃ vs, v = .func (.func f) #[] ⟨vs⟩ ∧ RelL ι cs vs := by
  cases h with
  | func _ _ vs hl h => exact ⟨vs, rfl, hl, h⟩

theorem call_run [Syms] {P : Program} {σ : Operand → Value} {o : Oper} {fo : Operand} {args : Array Operand} {argTypes : Array TypeId} {fid : FuncId} {cvs : List Value} {w : World}
    (ho : o.op = .call { callee := .value fo, args, argTypes }) (hf : σ fo = .func (.func fid) #[] ⟨cvs⟩) (hok : FnOk P fid) :
    (execOp σ o).run P w = .ok (.enter fid ⟨args.toList.map σ ++ cvs⟩) w := by
  unfold execOp
  have e : (#[] ++ args.map σ ++ (⟨cvs⟩ : Array Value)) = ⟨args.toList.map σ ++ cvs⟩ := by apply Array.ext'; simp
  simp only [ho, resolve, hf, Deferred.ofValue, Sem.run_bind, Sem.run_pure, Result.andThen_ok, invoke, e, hok.call]

theorem opSem_call [Syms] {P : Program} {N : Nat} {ops : Array Oper} {o : Oper} {s : St} {fo : Operand} {args : Array Operand} {argTypes : Array TypeId} {fid : FuncId} {caps : List AVal} {v : AVal} {H' : Heap} {nx' : Nat}
    (hw : wantedA ops s.env o = some true) (hd : dstOk N o.dst = true) (ho : o.op = .call { callee := .value fo, args, argTypes }) (hf : s.ev fo = .func fid caps) (hok : FnOk P fid)
    (hc : ACalls P fid (args.toList.map s.ev ++ caps) s.heap s.nx v H' nx') : OpSem P N ops o s ⟨s.env.put o.dst v, H', nx'⟩ := by
  intro ι a w K Q hS hK
  rw [wantedA_sound hS.env hw]
  simp only [if_true]
  left
  have hfv := hS.ev fo
  rw [hf] at hfv
  obtain ⟨cvs, hfe, hcl⟩ := hfv.of_func
  unfold Oper.wp
  rw [call_run ho hfe hok]
  simp only [Oper.upon]
  refine (hc ι w _ ((args_rel hS.ev _).append hcl) hS.heap hS.bound).mono ?_
  rintro e w' ⟨r, κ, rfl, hv, hH, hst, hb⟩
  obtain ⟨h1, h2⟩ := env_put hS hst.st.le hd hv
  exact hK κ _ w' ⟨by rw [put_defers]; exact hS.defers, h1, h2, hH, hb⟩ hst

/-- Operations one behind the other. -/
def Chain [Syms] (P : Program) (N : Nat) (ops : Array Oper) : List Oper → St → St → Prop
  | [], s, s' => s = s'
  | o :: rest, s, s' => ∃ s1, OpSem P N ops o s s1 ∧ Chain P N ops rest s1 s'

theorem chain_ops [Syms] {P : Program} {N : Nat} {ops : Array Oper} {Q : Exit → Act → World → Prop} : ∀ (l : List Oper) (k : Nat) (s s' : St) (ι : Inj) (a : Act) (w : World), (∀ j, l[j]? = ops[k + j]?) → Chain P N ops l s s' → RelS N ι s a w →
    (∀ κ a' w', RelS N κ s' a' w' → StepN ι s.heap s.nx w κ s'.heap s'.nx w' → Q .normal a' w') → wpOps P ops Q (List.range' k l.length) a w
  | [], k, s, s', ι, a, w, _, hc, hS, hQ => by
    have hc : s = s' := hc
    subst hc
    exact hQ ι a w hS (StepN.refl ι _ _ w)
  | o :: l, k, s, s', ι, a, w, hl, hc, hS, hQ => by
    obtain ⟨s1, h1, h2⟩ := hc
    have ho : ops[k]? = some o := by simpa using (hl 0).symm
    rw [List.length_cons, List.range'_succ]
    simp only [wpOps, ho]
    refine h1 ι a w _ Q hS (fun κ a' w' hS' hst => ?_)
    exact chain_ops l (k + 1) s1 s' κ a' w' (fun j => by have := hl (j + 1); simpa [Nat.add_assoc, Nat.add_comm 1 j] using this) h2 hS' (fun μ a'' w'' hS'' hst' => hQ μ a'' w'' hS'' (hst.trans hst'))

theorem chain_region [Syms] {P : Program} {N : Nat} {id : Nat} {ops : Array Oper} {Q : Exit → Act → World → Prop} {s s' : St} {ι : Inj} {a : Act} {w : World} (hc : Chain P N ops ops.toList s s') (hS : RelS N ι s a w)
    (hQ : ∀ κ a' w', RelS N κ s' a' w' → StepN ι s.heap s.nx w κ s'.heap s'.nx w' → Q .normal a' w') : (Code.region id ops false).wp P Q a w := by
  refine wp_region ?_
  have := chain_ops (Q := Q) ops.toList 0 s s' ι a w (fun j => by simp) hc hS hQ
  rwa [List.range_eq_range', ← Array.length_toList]

/-! Calm operations -/

def toRo : Option Blk → Option Blk
  | some (.cells rows _) => some (.cells rows true)
  | _ => none
def roAll : Heap → Heap
  | [] => []
  | (k, b) :: h => (k, toRo b) :: roAll h
theorem roAll_get [Syms] (H : Heap) (n : Nat) : (roAll H).get n = toRo (H.get n) := by
  induction H with
  | nil => rfl
  | cons x h ih =>
    obtain ⟨k, b⟩ := x
    simp only [roAll, Heap.get_nil, Heap.get_cons]
    cases Nat.beq n k
    · exact ih
    · rfl
theorem roAll_some [Syms] {H : Heap} {n : Nat} {b : Blk} (h : (roAll H).get n = some b) : ∃ rows ro, H.get n = some (.cells rows ro) ∧ b = .cells rows true := by
  rw [roAll_get] at h
  cases hb : H.get n with
  | none => rw [hb] at h; cases h
  | some c =>
    rw [hb] at h
    cases c with
    | cells rows ro => simp only [toRo, Option.some.injEq] at h; exact ⟨rows, ro, rfl, h.symm⟩
    | iter s p => cases h
theorem not_own_ro [Syms] {ι : Inj} {H : Heap} {g : Nat} : ¬ Own ι (roAll H) g := by
  rintro ⟨n, b, L, h1, h2, _⟩
  obtain ⟨rows, ro, _, rfl⟩ := roAll_some h1
  cases h2

/-- How many numbers one operation may take. -/
def RR : Nat := 4294967296

structure Calm [Syms] (ι : Inj) (w : World) (κ : Inj) (w' : World) (m : Nat) (news : List (Nat × Blk)) : Prop where
  le : ι.le κ
  os : w'.os = w.os
  tape : w'.tape = w.tape
  output : w'.output = w.output
  size : w.heap.size ≤ w'.heap.size
  same : ∀ g, g < w.heap.size → w'.heap[g]? = w.heap[g]?
  made : ∀ id b, (id, b) ∈ news → ∃ L, κ id = some L ∧ w.heap.size ≤ L.g ∧ RelB κ w' L b
  apart : ∀ (id id' : Nat) (b b' : Blk) (L L' : Loc), (id, b) ∈ news → (id', b') ∈ news → κ id = some L → κ id' = some L' → L.g = L'.g → id = id'
  only : ∀ n L, κ n = some L → L.g < w'.heap.size ∧ (ι n = some L ∨ (m ≤ n ∧ n < m + RR))
  fzs : ∀ g cs, κ.fz g = some cs → (ι.fz g = some cs ∨ w.heap.size ≤ g) ∧ (∃ e z, w'.heap[g]? = some (.cells cs e z)) ∧ ∀ id b L, (id, b) ∈ news → κ id = some L → L.g ≠ g

/-- The slots that an operation looks at, of an environment. -/
def Env.only (l : List Tmp) : Env → Env
  | [] => []
  | (k, v) :: e => bif l.contains k then (k, v) :: Env.only l e else Env.only l e
theorem Env.only_get [Syms] (l : List Tmp) : ∀ (e : Env) (t : Nat), (e.only l).get t = if l.contains t then e.get t else .any
  | [], t => by simp [Env.only, Env.get_nil, Env.get_cons]
  | (k, v) :: e, t => by
    have ih := Env.only_get l e t
    simp only [Env.only]
    by_cases hk : l.contains k = true
    · rw [hk]
      simp only [cond_true, Env.get_nil, Env.get_cons]
      by_cases ht : t = k
      · subst ht
        rw [Nat.beq_refl, if_pos hk]
        rfl
      · rw [beq_ff ht]
        exact ih
    · have hk' : l.contains k = false := by simpa using hk
      rw [hk']
      simp only [cond_false, Env.get_nil, Env.get_cons]
      by_cases ht : t = k
      · subst ht
        rw [ih, hk']
        simp
      · rw [beq_ff ht]
        exact ih

def CalmSem [Syms] (P : Program) (N : Nat) (ops : Array Oper) (o : Oper) (env : Env) (Hv : Heap) (m : Nat) (v : AVal) (news : List (Nat × Blk)) : Prop :=
  ∀ (ι : Inj) (a : Act) (w : World) (K : Act → World → Prop) (Q : Exit → Act → World → Prop), a.defers = [] → N ≤ a.tmps.size → (∀ t, RelV ι (env.get t) (a.tmps.getD t undef)) → RelH ι (roAll Hv) w → Bound ι m w →
    (∀ κ u w', RelV κ v u → Calm ι w κ w' m news → K (a.put o.dst u) w') →
    if Region.wanted o (yielded ops a.tmps) then o.wp P a w K Q ∨ (o.asks P a w ∧ LetsOut Q) else K (a.put o.dst undef) w

theorem calm_skip [Syms] {P : Program} {N : Nat} {ops : Array Oper} {o : Oper} {env : Env} {Hv : Heap} {m : Nat} (hw : wantedA ops env o = some false) : CalmSem P N ops o env Hv m undefA [] := by
  intro ι a w K Q hd hN he hH hb hK
  rw [wantedA_sound he hw]
  simp only [Bool.false_eq_true, if_false]
  exact hK ι undef w (RelV.undef ι) ⟨Inj.le_refl ι, rfl, rfl, rfl, Nat.le_refl _, fun _ _ => rfl, by simp, by simp, fun n L hn => ⟨(hb n L hn).2, .inl hn⟩, fun g cs hg => ⟨.inl hg, (hH.fz g cs hg).1, by simp⟩⟩

def evE (env : Env) : Operand → AVal := (St.mk env [] 0).ev

theorem evE_rel [Syms] {ι : Inj} {env : Env} {a : Act} (h : ∀ t, RelV ι (env.get t) (a.tmps.getD t undef)) (x : Operand) : RelV ι (evE env x) (a.eval x) := by
  cases x with
  | tmp t => exact h t
  | const v => exact constAgg_rel ι v
  | global g => exact .any _
  | func f => exact .func f [] [] rfl (by simp)

/-- What a calm operation makes. -/
def Res.news (m : Nat) : Res → List (Nat × Blk)
  | .new b _ => [(m, b)]
  | _ => []
def Res.calm : Res → Bool
  | .upd _ _ => false
  | .new b _ => !b.ro
  | _ => true

theorem calm_aop [Syms] {P : Program} {tt : TT} (htt : TT.ok P tt) {N : Nat} {ops : Array Oper} {o : Oper} {env : Env} {Hv : Heap} {m : Nat} {r : Res} (hw : wantedA ops env o = some true)
    (h : aop tt (evE env) (roAll Hv) m o.op = some r) (hr : r.calm = true) : CalmSem P N ops o env Hv m r.v (r.news m) := by
  intro ι a w K Q hd hN he hH hb hK
  rw [wantedA_sound he hw]
  simp only [if_true]
  left
  obtain ⟨v, w', κ, hrun, hv, hH', hst, hk, hval⟩ := aop_sound (P := P) htt hH hb.lies (hb.fresh (Nat.le_refl _)) (evE_rel he) h
  have hsame : ∀ g, g < w.heap.size → w'.heap[g]? = w.heap[g]? := fun g hg => hst.same g hg not_own_ro
  have fin : K (a.put o.dst v) w' := by
    refine hK κ v w' hv ⟨hst.le, hst.os, hst.tape, hst.output, hst.size, hsame, fun id b hin => ?_, fun id id' b b' L L' h1 h2 _ _ _ => ?_, fun n L hn => ?_, fun g cs hg => ⟨?_, (hH'.fz g cs hg).1, fun id b L hin hL e => (hH'.fz g cs hg).2 ?_⟩⟩
    · cases r with
      | new b0 v0 =>
        simp only [Res.news, List.mem_singleton, Prod.mk.injEq] at hin
        obtain ⟨rfl, rfl⟩ := hin
        simp only [Res.heap] at hH' hst
        obtain ⟨L, hL, hB⟩ := hH'.blk id b (Heap.get_set_same _ _ _)
        refine ⟨L, hL, ?_, hB⟩
        have hro : b.ro = false := by simpa [Res.calm] using hr
        rcases hst.own L.g ⟨id, b, L, Heap.get_set_same _ _ _, hro, hL, rfl⟩ with h | h
        · exact absurd h not_own_ro
        · exact h
      | _ => simp [Res.news] at hin
    · cases r with
      | new b0 v0 =>
        simp only [Res.news, List.mem_singleton, Prod.mk.injEq] at h1 h2
        rw [h1.1, h2.1]
      | _ => simp [Res.news] at h1
    · rcases hk n L hn with h2 | ⟨rfl, h2⟩
      · exact ⟨Nat.lt_of_lt_of_le (hb n L h2).2 hst.size, .inl h2⟩
      · exact ⟨h2, .inr ⟨Nat.le_refl _, by unfold RR; omega⟩⟩
    · rcases hst.fzs g cs hg with h | h | h
      · exact .inl h
      · exact .inr h
      · exact absurd h not_own_ro
    · cases r with
      | new b0 v0 =>
        simp only [Res.news, List.mem_singleton, Prod.mk.injEq] at hin
        obtain ⟨rfl, rfl⟩ := hin
        exact ⟨id, b, L, Heap.get_set_same _ _ _, by simpa [Res.calm] using hr, hL, e⟩
      | _ => simp [Res.news] at hin
  unfold Oper.wp
  rcases hrun with hrun | ⟨hrun, rfl⟩
  · rw [hrun]; exact fin
  · rw [hrun]; exact fin

theorem calm_call [Syms] {P : Program} {N : Nat} {ops : Array Oper} {o : Oper} {env : Env} {Hv : Heap} {m : Nat} {fo : Operand} {args : Array Operand} {argTypes : Array TypeId} {fid : FuncId} {caps : List AVal} {v : AVal} {H' : Heap} {nx' : Nat} {news : List (Nat × Blk)}
    (hw : wantedA ops env o = some true) (ho : o.op = .call { callee := .value fo, args, argTypes }) (hf : evE env fo = .func fid caps) (hok : FnOk P fid)
    (hc : ACalls P fid (args.toList.map (evE env) ++ caps) (roAll Hv) m v H' nx') (hn : nx' ≤ m + RR) (hnews : ∀ id b, (id, b) ∈ news → H'.get id = some b ∧ b.ro = false) : CalmSem P N ops o env Hv m v news := by
  intro ι a w K Q hd hN he hH hb hK
  rw [wantedA_sound he hw]
  simp only [if_true]
  left
  have hfv := evE_rel he fo
  rw [hf] at hfv
  obtain ⟨cvs, hfe, hcl⟩ := hfv.of_func
  unfold Oper.wp
  rw [call_run ho hfe hok]
  simp only [Oper.upon]
  refine (hc ι w _ ((args_rel (evE_rel he) _).append hcl) hH hb).mono ?_
  rintro e w' ⟨r, κ, rfl, hv, hH', hst, hb'⟩
  have hstn := hst
  obtain ⟨hst, _, hfr⟩ := hst
  refine hK κ r w' hv ⟨hst.le, hst.os, hst.tape, hst.output, hst.size, fun g hg => hst.same g hg not_own_ro, fun id b hin => ?_, fun id id' b b' L L' h1 h2 h3 h4 h5 => ?_, fun n L hn' => ⟨(hb' n L hn').2, ?_⟩, fun g cs hg => ⟨?_, (hH'.fz g cs hg).1, fun id b L hin hL e => (hH'.fz g cs hg).2 ⟨id, b, L, (hnews id b hin).1, (hnews id b hin).2, hL, e⟩⟩⟩
  · obtain ⟨h1, h2⟩ := hnews id b hin
    obtain ⟨L, hL, hB⟩ := hH'.blk id b h1
    refine ⟨L, hL, ?_, hB⟩
    rcases hst.own L.g ⟨id, b, L, h1, h2, hL, rfl⟩ with h | h
    · exact absurd h not_own_ro
    · exact h
  · obtain ⟨g1, g2⟩ := hnews id b h1
    obtain ⟨g3, g4⟩ := hnews id' b' h2
    rcases hH'.inj id id' b b' L L' g1 g3 h3 h4 h5 with h | h
    · exact h
    · rw [g2] at h; cases h.1
  · rcases hfr n L hn' with h | h
    · exact .inl h
    · exact .inr ⟨h, Nat.lt_of_lt_of_le (hb' n L hn').1 hn⟩
  · rcases hst.fzs g cs hg with h | h | h
    · exact .inl h
    · exact .inr h
    · exact absurd h not_own_ro

end Go.Av
