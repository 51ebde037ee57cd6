/-
  The abstract state of a function's frame; contracts; one operation in its place. Over every program.
-/
import Derived.Test.YtgaacnljcnibdaaAvQ
set_option linter.unusedVariables false
set_option linter.unusedSimpArgs false
noncomputable section
namespace Go.Av

abbrev Env := List (Nat × AVal)
def Env.get (e : Env) (n : Nat) : AVal := @List.rec (Nat × AVal) (fun _ => AVal) .any (fun p _ ih => @Bool.rec (fun _ => AVal) ih p.2 (Nat.beq n p.1)) e
theorem Env.get_nil (n : Nat) : Env.get [] n = .any := rfl
theorem Env.get_cons (k : Nat) (v : AVal) (e : Env) (n : Nat) : Env.get ((k, v) :: e) n = bif Nat.beq n k then v else Env.get e n := by
  show @Bool.rec (fun _ => AVal) (Env.get e n) v (Nat.beq n k) = _
  cases Nat.beq n k <;> rfl

structure St where
  env : Env
  heap : Heap
  nx : Nat

def undefA : AVal := .tup []

def St.ev (s : St) : Operand → AVal
  | .tmp t => s.env.get t
  | .const v => constAgg v
  | .global _ => .any
  | .func f => .func f []

def Env.put (e : Env) (dst : Option Tmp) (v : AVal) : Env :=
  match dst with
  | some d => (d, v) :: e
  | none => e

/-- May a slot be written? -/
def dstOk (N : Nat) : Option Tmp → Bool
  | some d => Nat.blt d N
  | none => true

structure RelS [Syms] (N : Nat) (ι : Inj) (s : St) (a : Act) (w : World) : Prop where
  defers : a.defers = []
  size : N ≤ a.tmps.size
  env : ∀ k, RelV ι (s.env.get k) (a.tmps.getD k undef)
  heap : RelH ι s.heap w
  bound : Bound ι s.nx w

theorem Bound.lies {ι : Inj} {nx : Nat} {w : World} (h : Bound ι nx w) : Lies ι w := fun n L hn => (h n L hn).2
theorem Bound.fresh {ι : Inj} {nx m : Nat} {w : World} (h : Bound ι nx w) (hm : nx ≤ m) : ι m = none := by
  cases hx : ι m with
  | none => rfl
  | some L => have := (h m L hx).1; omega

theorem constVal_rel [Syms] (ι : Inj) (v : Value) : RelV ι (constVal v) v := by
  unfold constVal
  split
  · exact .bool _
  · exact .int _ _
  · rename_i s
    obtain ⟨⟨l⟩⟩ := s
    exact .str l
  · exact .nilp
  · exact .nils
  · exact .nilf
  · exact .nili
  · exact .any _
theorem constAgg_rel [Syms] (ι : Inj) (v : Value) : RelV ι (constAgg v) v := by
  unfold constAgg
  split
  · rename_i cs
    obtain ⟨l⟩ := cs
    refine .mk_agg ⟨by simp, fun i c v h1 h2 => ?_⟩
    rw [List.getElem?_map, Option.map_eq_some_iff] at h1
    obtain ⟨x, hx, rfl⟩ := h1
    have : x = v := by rw [show l[i]? = some x from hx] at h2; exact Option.some.inj h2
    subst this
    exact constVal_rel ι x
  · exact constVal_rel ι v

theorem RelS.ev [Syms] {N : Nat} {ι : Inj} {s : St} {a : Act} {w : World} (h : RelS N ι s a w) (x : Operand) : RelV ι (s.ev x) (a.eval x) := by
  cases x with
  | tmp t => exact h.env t
  | const v => exact constAgg_rel ι v
  | global g => exact .any _
  | func f => exact .func f [] [] rfl (by simp)

theorem RelV.undef [Syms] (ι : Inj) : RelV ι undefA undef := .mk_tup (.nil ι)

theorem env_put [Syms] {N : Nat} {ι κ : Inj} {s : St} {a : Act} {w : World} (h : RelS N ι s a w) (hle : ι.le κ) {dst : Option Tmp} (hd : dstOk N dst = true) {x : AVal} {v : Value} (hv : RelV κ x v) :
    N ≤ (a.put dst v).tmps.size ∧ ∀ k, RelV κ ((s.env.put dst x).get k) ((a.put dst v).tmps.getD k undef) := by
  cases dst with
  | none => exact ⟨h.size, fun k => (h.env k).mono hle⟩
  | some d =>
    have hd' : d < N := by simpa [dstOk, Nat.blt_eq] using hd
    have hsz := h.size
    refine ⟨by simpa [Act.put] using hsz, fun k => ?_⟩
    simp only [Env.put, Env.get_nil, Env.get_cons, Act.put]
    by_cases hk : k = d
    · subst hk
      have : k < a.tmps.size := Nat.lt_of_lt_of_le hd' hsz
      simpa [this] using hv
    · rw [beq_ff hk]
      have := (h.env k).mono hle
      simpa [Array.getElem?_setIfInBounds_ne (Ne.symm hk)] using this

theorem put_defers (a : Act) (dst : Option Tmp) (v : Value) : (a.put dst v).defers = a.defers := by cases dst <;> rfl

/-- A step, the numbers in sight. -/
structure StepN (ι : Inj) (H : Heap) (nx : Nat) (w : World) (κ : Inj) (H' : Heap) (nx' : Nat) (w' : World) : Prop where
  st : Step ι H w κ H' w'
  up : nx ≤ nx'
  fresh : ∀ n L, κ n = some L → ι n = some L ∨ nx ≤ n
theorem StepN.refl [Syms] (ι : Inj) (H : Heap) (nx : Nat) (w : World) : StepN ι H nx w ι H nx w := ⟨Step.refl ι H w, Nat.le_refl _, fun _ _ h => .inl h⟩
theorem StepN.trans [Syms] {ι κ μ : Inj} {H H' H'' : Heap} {nx nx' nx'' : Nat} {w w' w'' : World} (h : StepN ι H nx w κ H' nx' w') (k : StepN κ H' nx' w' μ H'' nx'' w'') : StepN ι H nx w μ H'' nx'' w'' :=
  ⟨h.st.trans k.st, Nat.le_trans h.up k.up, fun n L hn => by
    rcases k.fresh n L hn with h1 | h1
    · exact h.fresh n L h1
    · exact .inr (Nat.le_trans h.up h1)⟩

/-- A contract between abstract heaps. -/
def ACalls [Syms] (P : Program) (f : FuncId) (args : List AVal) (H : Heap) (nx : Nat) (v : AVal) (H' : Heap) (nx' : Nat) : Prop :=
  ∀ (ι : Inj) (w : World) (vs : List Value), RelL ι args vs → RelH ι H w → Bound ι nx w →
    Calls P f ⟨vs⟩ w fun e w' => ∃ r κ, e = .returned r ∧ RelV κ v r ∧ RelH κ H' w' ∧ StepN ι H nx w κ H' nx' w' ∧ Bound κ nx' w'

/-- A function that can be called. -/
def FnOk (P : Program) (f : FuncId) : Prop := ∃ fn, P.funcs[f]? = some fn ∧ (fn.name == "runtime.NumGoroutine") = false ∧ fn.body.isNone = false

theorem FnOk.call {P : Program} {f : FuncId} (h : FnOk P f) (args : Array Value) (w : World) : (callFunc f args).run P w = .ok (.enter f args) w := by
  obtain ⟨fn, h1, h2, h3⟩ := h
  simp only [callFunc, Sem.run_bind, run_program, Result.andThen_ok, h1, h2, h3, Bool.false_eq_true, if_false, Sem.run_pure]

def wantedA (ops : Array Oper) (env : Env) (o : Oper) : Option Bool :=
  match o.guard with
  | none => some true
  | some (j, want) =>
    match (ops[j]?).bind (·.dst) with
    | some d => match env.get d with
      | .bool b => some (b == want)
      | .tup [] => some false
      | _ => none
    | none => some false

theorem wantedA_sound [Syms] {ops : Array Oper} {env : Env} {o : Oper} {b : Bool} {ι : Inj} {tmps : Array Value} (he : ∀ k, RelV ι (env.get k) (tmps.getD k undef)) (h : wantedA ops env o = some b) : Region.wanted o (yielded ops tmps) = b := by
  unfold wantedA at h
  unfold Region.wanted
  cases hg : o.guard with
  | none => rw [hg] at h; cases h; rfl
  | some g =>
    obtain ⟨j, want⟩ := g
    rw [hg] at h
    simp only at h ⊢
    cases hd : (ops[j]?).bind (·.dst) with
    | none =>
      rw [hd] at h
      cases h
      simp [yielded, hd]
    | some d =>
      rw [hd] at h
      simp only at h
      have hv := he d
      split at h
      · rename_i b' hb
        cases h
        rw [hb] at hv
        have e := hv.of_bool
        have : tmps[d]? = some (.bool b') := by
          rw [Array.getD_eq_getD_getElem?] at e
          cases hx : tmps[d]? with
          | none => rw [hx] at e; simp [undef] at e
          | some u => rw [hx] at e; simp at e; rw [e]
        simp [yielded, hd, this]
      · rename_i hb
        cases h
        rw [hb] at hv
        obtain ⟨us, e, hl⟩ := hv.of_tup
        have hus := hl.unnil
        subst hus
        have : yielded ops tmps j = none := by
          unfold yielded
          rw [hd]
          rw [Array.getD_eq_getD_getElem?] at e
          cases hx : tmps[d]? with
          | none => simp [hx]
          | some u => rw [hx] at e; simp at e; simp [hx, e]
        simp [this]
      · cases h

/-- What one operation does, in its place in a region. -/
def OpSem [Syms] (P : Program) (N : Nat) (ops : Array Oper) (o : Oper) (s s' : St) : Prop :=
  ∀ (ι : Inj) (a : Act) (w : World) (K : Act → World → Prop) (Q : Exit → Act → World → Prop), RelS N ι s a w →
    (∀ κ a' w', RelS N κ s' a' w' → StepN ι s.heap s.nx w κ s'.heap s'.nx w' → K a' w') →
    if Region.wanted o (yielded ops a.tmps) then o.wp P a w K Q ∨ (o.asks P a w ∧ LetsOut Q) else K (a.put o.dst undef) w

theorem opSem_skip [Syms] {P : Program} {N : Nat} {ops : Array Oper} {o : Oper} {s : St} (hw : wantedA ops s.env o = some false) (hd : dstOk N o.dst = true) : OpSem P N ops o s { s with env := s.env.put o.dst undefA } := by
  intro ι a w K Q hS hK
  rw [wantedA_sound hS.env hw]
  simp only [Bool.false_eq_true, if_false]
  obtain ⟨h1, h2⟩ := env_put hS (Inj.le_refl ι) hd (RelV.undef ι)
  exact hK ι _ w ⟨by rw [put_defers]; exact hS.defers, h1, h2, hS.heap, hS.bound⟩ (StepN.refl ι _ _ w)

/-- Does an abstract result take a number? -/
def Res.next (nx : Nat) : Res → Nat
  | .val _ => nx
  | .new _ _ | .upd _ _ => nx + 1

theorem opSem_aop [Syms] {P : Program} {tt : TT} (htt : TT.ok P tt) {N : Nat} {ops : Array Oper} {o : Oper} {s : St} {r : Res} (hw : wantedA ops s.env o = some true) (hd : dstOk N o.dst = true)
    (h : aop tt s.ev s.heap s.nx o.op = some r) : OpSem P N ops o s ⟨s.env.put o.dst r.v, r.heap s.heap s.nx, r.next s.nx⟩ := by
  intro ι a w K Q hS hK
  rw [wantedA_sound hS.env hw]
  simp only [if_true]
  left
  obtain ⟨v, w', κ, hrun, hv, hH, hst, hb, hval⟩ := aop_sound (P := P) htt hS.heap hS.bound.lies (hS.bound.fresh (Nat.le_refl _)) hS.ev h
  have fin : K (a.put o.dst v) w' := by
    obtain ⟨h1, h2⟩ := env_put hS hst.le hd hv
    refine hK κ _ w' ⟨by rw [put_defers]; exact hS.defers, h1, h2, hH, ?_⟩ ⟨hst, ?_, fun n L hn => ?_⟩
    rotate_left
    · cases r <;> simp [Res.next]
    · rcases hb n L hn with h | ⟨rfl, h⟩
      · exact .inl h
      · exact .inr (Nat.le_refl _)
    -- numbers
    intro n L hn
    cases r with
    | val v0 =>
      obtain rfl := hval rfl
      exact ⟨(hS.bound n L hn).1, Nat.lt_of_lt_of_le (hS.bound n L hn).2 hst.size⟩
    | new b v0 =>
      rcases hb n L hn with h | ⟨rfl, h⟩
      · exact ⟨Nat.lt_succ_of_lt (hS.bound n L h).1, Nat.lt_of_lt_of_le (hS.bound n L h).2 hst.size⟩
      · exact ⟨Nat.lt_succ_self _, h⟩
    | upd h0 v0 =>
      rcases hb n L hn with h | ⟨rfl, h⟩
      · exact ⟨Nat.lt_succ_of_lt (hS.bound n L h).1, Nat.lt_of_lt_of_le (hS.bound n L h).2 hst.size⟩
      · exact ⟨Nat.lt_succ_self _, h⟩
  unfold Oper.wp
  rcases hrun with hrun | ⟨hrun, rfl⟩
  · rw [hrun]; exact fin
  · rw [hrun]; exact fin

end Go.Av
