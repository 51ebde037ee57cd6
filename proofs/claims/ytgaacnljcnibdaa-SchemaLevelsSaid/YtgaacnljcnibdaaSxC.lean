/-
  Regions, with what is not known. Over every program.
-/
import Derived.Test.YtgaacnljcnibdaaSxB
set_option linter.unusedVariables false
set_option linter.unusedSimpArgs false
noncomputable section
namespace Go.Av

/-- Calls: what one asks, and what it gives. -/
abbrev CallT := FuncId → List AVal → Heap → Nat → (AVal → Heap → Nat → Prop) → Prop
/-- Calls with one answer. -/
def CallT.det [Syms] (P : Program) (c : CallT) : Prop := ∀ f args H nx K, c f args H nx K → ∃ v H' nx', FnOk P f ∧ ACalls P f args H nx v H' nx' ∧ K v H' nx'
/-- Calls whose answer is one of some. -/
def CallT.ok [Syms] (P : Program) (c : CallT) : Prop := ∀ f args H nx K, c f args H nx K → FnOk P f ∧ ∀ (ι : Inj) (w : World) (vs : List Value), RelL ι args vs → RelH ι H w → Bound ι nx w →
    Calls P f ⟨vs⟩ w fun e w' => ∃ v H' nx' r κ, K v H' nx' ∧ e = .returned r ∧ RelV κ v r ∧ RelH κ H' w' ∧ StepN ι H nx w κ H' nx' w' ∧ Bound κ nx' w'
theorem CallT.det.ok [Syms] {P : Program} {c : CallT} (h : c.det P) : c.ok P := by
  intro f args H nx K hc
  obtain ⟨v, H', nx', h1, h2, h3⟩ := h f args H nx K hc
  refine ⟨h1, fun ι w vs ha hH hb => (h2 ι w vs ha hH hb).mono ?_⟩
  rintro e w' ⟨r, κ, g1, g2, g3, g4, g5⟩
  exact ⟨v, H', nx', r, κ, h3, g1, g2, g3, g4, g5⟩

def EnvEq (e e' : Env) : Prop := ∀ k, e.get k = e'.get k
theorem EnvEq.refl (e : Env) : EnvEq e e := fun _ => rfl
theorem EnvEq.put {e e' : Env} (h : EnvEq e e') (d : Option Tmp) (v : AVal) : EnvEq (e.put d v) (e'.put d v) := by
  intro k
  cases d with
  | none => exact h k
  | some d => simp only [Env.put, Env.get_cons]; cases Nat.beq k d <;> simp [h k]
theorem EnvEq.lit {e : Env} {d : Nat} {x : AVal} (h : e.get d = x) : EnvEq e ((d, x) :: e) := by
  intro k
  rw [Env.get_cons]
  by_cases hk : k = d
  · subst hk; simp [Nat.beq_refl, h]
  · simp [beq_ff hk]
theorem EnvEq.trans {a b c : Env} (h : EnvEq a b) (k : EnvEq b c) : EnvEq a c := fun x => (h x).trans (k x)
theorem EnvEq.evE {e e' : Env} (h : EnvEq e e') : evE e = evE e' := by
  funext x
  cases x with
  | tmp t => exact h t
  | const v => rfl
  | global g => rfl
  | func f => rfl
theorem EnvEq.wanted {e e' : Env} (h : EnvEq e e') (ops : Array Oper) (o : Oper) : wantedA ops e o = wantedA ops e' o := by
  unfold wantedA
  split
  · rfl
  · split
    · rename_i d _; rw [h d]
    · rfl
theorem RelS.env_eq [Syms] {N : Nat} {ι : Inj} {e e' : Env} {H : Heap} {nx : Nat} {a : Act} {w : World} (h : RelS N ι ⟨e, H, nx⟩ a w) (he : EnvEq e e') : RelS N ι ⟨e', H, nx⟩ a w :=
  ⟨h.defers, h.size, fun k => by have := h.env k; rw [he k] at this; exact this, h.heap, h.bound⟩

/-! An environment in which tables are rows -/
def unE (e : Env) : Env := e.map fun p => (p.1, p.2.un)
theorem unE_get : ∀ (e : Env) (k : Nat), (unE e).get k = (e.get k).un
  | [], k => rfl
  | (j, v) :: e, k => by
    show Env.get ((j, v.un) :: unE e) k = _
    rw [Env.get_cons, Env.get_cons]
    cases Nat.beq k j
    · exact unE_get e k
    · rfl
theorem constVal_un (v : Value) : (constVal v).un = constVal v := by
  unfold constVal
  split <;> rfl
theorem evE_un (e : Env) : evE (unE e) = fun x => (evE e x).un := by
  funext x
  cases x with
  | tmp t => exact unE_get e t
  | const v =>
    show constAgg v = (constAgg v).un
    unfold constAgg
    split
    · rfl
    · exact (constVal_un _).symm
  | global g => rfl
  | func f => rfl
theorem wantedA_un (ops : Array Oper) (e : Env) (o : Oper) : wantedA ops (unE e) o = wantedA ops e o := by
  unfold wantedA
  split
  · rfl
  · split
    · rename_i d _
      rw [unE_get]
      cases h : e.get d with
      | bool b => rfl
      | tup l => cases l <;> rfl
      | _ => rfl
    · rfl
theorem RelV.of_un [Syms] {ι : Inj} {x : AVal} {v : Value} (h : RelV ι x.un v) : RelV ι x v := by
  cases x with
  | vt sz n f => exact .vt sz n f v h
  | _ => exact h
theorem RelS.unE [Syms] {N : Nat} {ι : Inj} {e : Env} {H : Heap} {nx : Nat} {a : Act} {w : World} (h : RelS N ι ⟨e, H, nx⟩ a w) : RelS N ι ⟨unE e, H, nx⟩ a w :=
  ⟨h.defers, h.size, fun k => by show RelV ι ((Av.unE e).get k) _; rw [unE_get]; exact (h.env k).un, h.heap, h.bound⟩
theorem put_see [Syms] {κ : Inj} {e : Env} {d : Option Tmp} {v v' : AVal} (hv : ∀ ι u, RelV ι v' u → RelV ι v u) {k : Nat} {u : Value} (h : RelV κ (((unE e).put d v').get k) u) : RelV κ ((e.put d v).get k) u := by
  cases d with
  | none =>
    simp only [Env.put] at h ⊢
    rw [unE_get] at h
    exact h.of_un
  | some d =>
    simp only [Env.put, Env.get_cons] at h ⊢
    cases hb : Nat.beq k d with
    | true => rw [hb] at h; exact hv _ _ h
    | false =>
      rw [hb] at h
      simp only [cond_false] at h ⊢
      rw [unE_get] at h
      exact h.of_un
theorem OpSem.see [Syms] {P : Program} {N : Nat} {ops : Array Oper} {o : Oper} {e : Env} {H H' : Heap} {nx nx' : Nat} {v v' : AVal} (hv : ∀ ι u, RelV ι v' u → RelV ι v u) (h : OpSem P N ops o ⟨unE e, H, nx⟩ ⟨(unE e).put o.dst v', H', nx'⟩) : OpSem P N ops o ⟨e, H, nx⟩ ⟨e.put o.dst v, H', nx'⟩ :=
  fun ι a w K Q hS hK => h ι a w K Q hS.unE fun κ a' w' hS' hst => hK κ a' w' ⟨hS'.defers, hS'.size, fun k => put_see hv (hS'.env k), hS'.heap, hS'.bound⟩ hst
theorem Res.sees_parts [Syms] {r' r : Res} (h : r'.sees r) (H : Heap) (m : Nat) : r'.heap H m = r.heap H m ∧ r'.next m = r.next m ∧ (∀ ι u, RelV ι r'.v u → RelV ι r.v u) ∧ r'.calm = r.calm ∧ r'.news m = r.news m := by
  cases r' <;> cases r <;> first | exact h.elim | skip
  · exact ⟨rfl, rfl, h, rfl, rfl⟩
  · obtain ⟨rfl, h⟩ := h; exact ⟨rfl, rfl, h, rfl, rfl⟩
  · obtain ⟨rfl, h⟩ := h; exact ⟨rfl, rfl, h, rfl, rfl⟩
/-- One operation by its abstract step. -/
theorem opSem_opT [Syms] {P : Program} {tt : TT} {N : Nat} {ops : Array Oper} {o : Oper} {e : Env} {H : Heap} {nx : Nat} {K : Res → Prop} (htt : TT.ok P tt) (hw : wantedA ops e o = some true) (hd : dstOk N o.dst = true) (h : opT tt (evE e) H nx o.op K) :
    ∃ r, OpSem P N ops o ⟨e, H, nx⟩ ⟨e.put o.dst r.v, r.heap H nx, r.next nx⟩ ∧ K r := by
  rcases opT_sound h with ⟨r, h1, h2⟩ | ⟨r', r, h1, h2, h3⟩
  · exact ⟨r, opSem_aop (s := ⟨e, H, nx⟩) htt hw hd (by rw [evE_eq]; exact h1), h2⟩
  · refine ⟨r, ?_, h3⟩
    obtain ⟨g1, g2, g3, _⟩ := Res.sees_parts (r' := r') (r := r) h2 H nx
    rw [← g1, ← g2]
    refine OpSem.see g3 ?_
    exact opSem_aop (s := ⟨unE e, H, nx⟩) htt (by rw [wantedA_un]; exact hw) hd (by rw [evE_eq]; show aop tt (evE (unE e)) H nx o.op = _; rw [evE_un]; exact h1)

/-- Tests that are decided, by their slots. -/
abbrev Kn := List (Nat × Bool)
def Kn.find : Kn → Nat → Option Bool
  | [], _ => none
  | (k, b) :: l, n => @Bool.rec (fun _ => Option Bool) (Kn.find l n) (some b) (Nat.beq n k)
/-- Is an operation carried out? -/
def guardT (ops : Array Oper) (o : Oper) (kn : Kn) (e : Env) (yes no : Kn → Env → Prop) : Prop :=
  match o.guard with
  | none => yes kn e
  | some (j, want) =>
    match (ops[j]?).bind (·.dst) with
    | some d => match e.get d with
      | .bool b => match kn.find d with
        | some t => @Bool.rec (fun _ => Prop) False (@Bool.rec (fun _ => Prop) (no kn e) (yes kn e) (b == want)) (b == t)
        | none => splitB b (bif want then yes ((d, true) :: kn) ((d, .bool true) :: e) else no ((d, true) :: kn) ((d, .bool true) :: e)) (bif want then no ((d, false) :: kn) ((d, .bool false) :: e) else yes ((d, false) :: kn) ((d, .bool false) :: e))
      | .tup [] => no kn e
      | _ => False
    | none => no kn e
theorem guardT_sound {ops : Array Oper} {o : Oper} {kn : Kn} {e : Env} {yes no : Kn → Env → Prop} (h : guardT ops o kn e yes no) : ∃ kn' e', EnvEq e e' ∧ ((wantedA ops e' o = some true ∧ yes kn' e') ∨ (wantedA ops e' o = some false ∧ no kn' e')) := by
  unfold guardT at h
  split at h
  · rename_i hg
    exact ⟨kn, e, .refl e, .inl ⟨by simp only [wantedA, hg], h⟩⟩
  · rename_i j want hg
    split at h
    · rename_i d hd
      split at h
      · rename_i b hb
        split at h
        · rename_i t ht
          have hw : wantedA ops e o = some (b == want) := by simp only [wantedA, hg, hd, hb]
          cases hbt : (b == t) with
          | false => rw [hbt] at h; exact h.elim
          | true =>
            rw [hbt] at h
            cases hbw : (b == want) with
            | true => rw [hbw] at h hw; exact ⟨kn, e, .refl e, .inl ⟨hw, h⟩⟩
            | false => rw [hbw] at h hw; exact ⟨kn, e, .refl e, .inr ⟨hw, h⟩⟩
        have key : ∀ x, b = x → ∃ e', e' = (d, AVal.bool x) :: e ∧ EnvEq e e' ∧ wantedA ops e' o = some (x == want) := by
          intro x hx
          subst hx
          refine ⟨_, rfl, EnvEq.lit hb, ?_⟩
          have : Env.get ((d, AVal.bool b) :: e) d = .bool b := by rw [Env.get_cons, Nat.beq_refl]; rfl
          simp only [wantedA, hg, hd, this]
        cases b with
        | true =>
          have h := splitB_true h
          obtain ⟨e', rfl, h1, h2⟩ := key true rfl
          refine ⟨(d, true) :: kn, _, h1, ?_⟩
          cases want with
          | true => exact .inl ⟨h2, h⟩
          | false => exact .inr ⟨h2, h⟩
        | false =>
          have h := splitB_false h
          obtain ⟨e', rfl, h1, h2⟩ := key false rfl
          refine ⟨(d, false) :: kn, _, h1, ?_⟩
          cases want with
          | true => exact .inr ⟨h2, h⟩
          | false => exact .inl ⟨h2, h⟩
      · rename_i ht
        exact ⟨kn, e, .refl e, .inr ⟨by simp only [wantedA, hg, hd, ht], h⟩⟩
      · exact h.elim
    · rename_i hd
      exact ⟨kn, e, .refl e, .inr ⟨by simp only [wantedA, hg, hd], h⟩⟩

/-- One operation, in its place. -/
def execT (c : CallT) (tt : TT) (N : Nat) (ops : Array Oper) (o : Oper) (kn : Kn) (s : St) (K : Kn → St → Prop) : Prop :=
  bif dstOk N o.dst then
    guardT ops o kn s.env
      (fun kn e => match asCall o.op with
        | some (fo, args) => match evE e fo with
          | .func fid caps => c fid (args.toList.map (evE e) ++ caps) s.heap s.nx fun v H' nx' => K kn ⟨e.put o.dst v, H', nx'⟩
          | _ => False
        | none => opT tt (evE e) s.heap s.nx o.op fun r => K kn ⟨e.put o.dst r.v, r.heap s.heap s.nx, r.next s.nx⟩)
      (fun kn e => K kn ⟨e.put o.dst undefA, s.heap, s.nx⟩)
  else False

/-- What one operation does, one of some. -/
def OpK [Syms] (P : Program) (N : Nat) (ops : Array Oper) (o : Oper) (s : St) (K : St → Prop) : Prop :=
  ∀ (ι : Inj) (a : Act) (w : World) (C : Act → World → Prop) (Q : Exit → Act → World → Prop), RelS N ι s a w →
    (∀ s' κ a' w', K s' → RelS N κ s' a' w' → StepN ι s.heap s.nx w κ s'.heap s'.nx w' → C a' w') →
    if Region.wanted o (yielded ops a.tmps) then o.wp P a w C Q ∨ (o.asks P a w ∧ LetsOut Q) else C (a.put o.dst undef) w
theorem OpSem.opK [Syms] {P : Program} {N : Nat} {ops : Array Oper} {o : Oper} {s s' : St} {K : St → Prop} (h : OpSem P N ops o s s') (hK : K s') : OpK P N ops o s K :=
  fun ι a w C Q hS hC => h ι a w C Q hS fun κ a' w' hS' hst => hC s' κ a' w' hK hS' hst

theorem OpSem.env_eq [Syms] {P : Program} {N : Nat} {ops : Array Oper} {o : Oper} {e e' : Env} {H : Heap} {nx : Nat} {s' : St} (he : EnvEq e e') (h : OpSem P N ops o ⟨e', H, nx⟩ s') : OpSem P N ops o ⟨e, H, nx⟩ s' :=
  fun ι a w C Q hS hC => h ι a w C Q (hS.env_eq he) hC

theorem execT_det [Syms] {P : Program} {c : CallT} {tt : TT} {N : Nat} {ops : Array Oper} {o : Oper} {kn : Kn} {s : St} {K : Kn → St → Prop} (htt : TT.ok P tt) (hc : c.det P) (h : execT c tt N ops o kn s K) : ∃ kn' s', OpSem P N ops o s s' ∧ K kn' s' := by
  unfold execT at h
  cases hd : dstOk N o.dst with
  | false => rw [hd] at h; exact h.elim
  | true =>
    rw [hd] at h
    simp only [cond_true] at h
    obtain ⟨kn', e', he, h⟩ := guardT_sound h
    have hs : s = ⟨s.env, s.heap, s.nx⟩ := rfl
    rcases h with ⟨hw, h⟩ | ⟨hw, h⟩
    · split at h
      · rename_i fo args hcall
        obtain ⟨argTypes, ho⟩ := asCall_spec hcall
        split at h
        · rename_i fid caps hf
          obtain ⟨v, H', nx', h1, h2, h3⟩ := hc _ _ _ _ _ h
          refine ⟨kn', _, ?_, h3⟩
          rw [hs]
          refine OpSem.env_eq he ?_
          have := opSem_call (P := P) (N := N) (s := ⟨e', s.heap, s.nx⟩) hw hd ho (fo := fo) (by rw [evE_eq]; exact hf) h1 (v := v) (H' := H') (nx' := nx') (by rw [evE_eq]; exact h2)
          exact this
        · exact h.elim
      · obtain ⟨r, h1, h2⟩ := opSem_opT (P := P) (N := N) htt hw hd h
        refine ⟨kn', _, ?_, h2⟩
        rw [hs]
        exact OpSem.env_eq he h1
    · refine ⟨kn', _, ?_, h⟩
      rw [hs]
      exact OpSem.env_eq he (opSem_skip (s := ⟨e', s.heap, s.nx⟩) hw hd)

theorem opK_call [Syms] {P : Program} {N : Nat} {ops : Array Oper} {o : Oper} {s : St} {fo : Operand} {args : Array Operand} {argTypes : Array TypeId} {fid : FuncId} {caps : List AVal} {c : CallT} {K : St → Prop} (hc : c.ok P)
    (hw : wantedA ops s.env o = some true) (hd : dstOk N o.dst = true) (ho : o.op = .call { callee := .value fo, args, argTypes }) (hf : s.ev fo = .func fid caps)
    (h : c fid (args.toList.map s.ev ++ caps) s.heap s.nx fun v H' nx' => K ⟨s.env.put o.dst v, H', nx'⟩) : OpK P N ops o s K := by
  intro ι a w C Q hS hK
  obtain ⟨hok, hcalls⟩ := hc _ _ _ _ _ h
  rw [wantedA_sound hS.env hw]
  simp only [if_true]
  left
  have hfv := hS.ev fo
  rw [hf] at hfv
  obtain ⟨cvs, hfe, hcl⟩ := hfv.of_func
  unfold Oper.wp
  rw [call_run ho hfe hok]
  simp only [Oper.upon]
  refine (hcalls ι w _ ((args_rel hS.ev _).append hcl) hS.heap hS.bound).mono ?_
  rintro e w' ⟨v, H', nx', r, κ, hKv, rfl, hv, hH, hst, hb⟩
  obtain ⟨h1, h2⟩ := env_put hS hst.st.le hd hv
  exact hK _ κ _ w' hKv ⟨by rw [put_defers]; exact hS.defers, h1, h2, hH, hb⟩ hst

theorem OpK.env_eq [Syms] {P : Program} {N : Nat} {ops : Array Oper} {o : Oper} {e e' : Env} {H : Heap} {nx : Nat} {K : St → Prop} (he : EnvEq e e') (h : OpK P N ops o ⟨e', H, nx⟩ K) : OpK P N ops o ⟨e, H, nx⟩ K :=
  fun ι a w C Q hS hC => h ι a w C Q (hS.env_eq he) hC
theorem OpK.mono [Syms] {P : Program} {N : Nat} {ops : Array Oper} {o : Oper} {s : St} {K L : St → Prop} (hkl : ∀ s, K s → L s) (h : OpK P N ops o s K) : OpK P N ops o s L :=
  fun ι a w C Q hS hC => h ι a w C Q hS fun s' κ a' w' hk => hC s' κ a' w' (hkl s' hk)
theorem execT_sound [Syms] {P : Program} {c : CallT} {tt : TT} {N : Nat} {ops : Array Oper} {o : Oper} {kn : Kn} {s : St} {K : Kn → St → Prop} (htt : TT.ok P tt) (hc : c.ok P) (h : execT c tt N ops o kn s K) : OpK P N ops o s fun s' => ∃ kn', K kn' s' := by
  unfold execT at h
  cases hd : dstOk N o.dst with
  | false => rw [hd] at h; exact h.elim
  | true =>
    rw [hd] at h
    simp only [cond_true] at h
    obtain ⟨kn', e', he, h⟩ := guardT_sound h
    have hs : s = ⟨s.env, s.heap, s.nx⟩ := rfl
    rcases h with ⟨hw, h⟩ | ⟨hw, h⟩
    · split at h
      · rename_i fo args hcall
        obtain ⟨argTypes, ho⟩ := asCall_spec hcall
        split at h
        · rename_i fid caps hf
          rw [hs]
          refine OpK.env_eq he ?_
          refine OpK.mono (fun s' hs => ⟨kn', hs⟩) (opK_call (s := ⟨e', s.heap, s.nx⟩) (K := K kn') hc hw hd ho (fo := fo) (by rw [evE_eq]; exact hf) (by rw [evE_eq]; exact h))
        · exact h.elim
      · obtain ⟨r, h1, h2⟩ := opSem_opT (P := P) (N := N) htt hw hd h
        rw [hs]
        refine OpK.env_eq he ?_
        exact h1.opK ⟨kn', h2⟩
    · rw [hs]
      exact OpK.env_eq he ((opSem_skip (s := ⟨e', s.heap, s.nx⟩) hw hd).opK ⟨kn', h⟩)

def seqT (c : CallT) (tt : TT) (N : Nat) (ops : Array Oper) : List Oper → Kn → St → (St → Prop) → Prop
  | [], _, s, K => K s
  | o :: l, kn, s, K => execT c tt N ops o kn s fun kn s1 => seqT c tt N ops l kn s1 K
theorem seqT_det [Syms] {P : Program} {c : CallT} {tt : TT} {N : Nat} {ops : Array Oper} {K : St → Prop} (htt : TT.ok P tt) (hc : c.det P) : ∀ {l : List Oper} {kn : Kn} {s : St}, seqT c tt N ops l kn s K → ∃ s', Chain P N ops l s s' ∧ K s'
  | [], kn, s, h => ⟨s, rfl, h⟩
  | o :: l, kn, s, h => by
    obtain ⟨kn1, s1, h1, h2⟩ := execT_det htt hc h
    obtain ⟨s', h3, h4⟩ := seqT_det htt hc h2
    exact ⟨s', ⟨s1, h1, h3⟩, h4⟩
theorem seqT_sound [Syms] {P : Program} {c : CallT} {tt : TT} {N : Nat} {ops : Array Oper} {K : St → Prop} {Q : Exit → Act → World → Prop} (htt : TT.ok P tt) (hc : c.ok P) : ∀ (l : List Oper) (k : Nat) (kn : Kn) (s : St) (ι : Inj) (a : Act) (w : World), (∀ j, l[j]? = ops[k + j]?) → seqT c tt N ops l kn s K → RelS N ι s a w →
    (∀ s' κ a' w', K s' → RelS N κ s' a' w' → StepN ι s.heap s.nx w κ s'.heap s'.nx w' → Q .normal a' w') → wpOps P ops Q (List.range' k l.length) a w
  | [], k, kn, s, ι, a, w, _, h, hS, hQ => hQ s ι a w h hS (StepN.refl ι _ _ w)
  | o :: l, k, kn, s, ι, a, w, hl, h, hS, hQ => by
    have ho : ops[k]? = some o := by simpa using (hl 0).symm
    rw [List.length_cons, List.range'_succ]
    simp only [wpOps, ho]
    refine execT_sound htt hc h ι a w _ Q hS (fun s1 κ a' w' ⟨kn1, h1⟩ hS' hst => ?_)
    exact seqT_sound htt hc l (k + 1) kn1 s1 κ a' w' (fun j => by have := hl (j + 1); simpa [Nat.add_assoc, Nat.add_comm 1 j] using this) h1 hS' (fun s' μ a'' w'' h2 hS'' hst' => hQ s' μ a'' w'' h2 hS'' (hst.trans hst'))

/-- The calm part of a drawing region. -/
def calmT (c : CallT) (tt : TT) (N : Nat) (ops : Array Oper) (ms : List Nat) (s : St) : List Oper → Nat → Kn → Env → Heap → List (Nat × List (Nat × Blk)) → (Env → Heap → Prop) → Prop
  | [], _, _, e, h, _, K => K e h
  | o :: l, i, kn, e, h, sp, K =>
    bif dstOk N o.dst then
      guardT ops o kn e
        (fun kn e => match asCall o.op with
          | some (fo, args) => match evE e fo with
            | .func fid caps => c fid (args.toList.map (evE e) ++ caps) (roAll (visS s.heap (ms.getD i 0) sp)) (s.nx + i * RR) fun v H' nx' =>
              bif Nat.ble nx' (s.nx + i * RR + RR) then
                (match newsOf (s.nx + i * RR) H' H' with
                | [] => calmT c tt N ops ms s l (i + 1) kn (e.put o.dst v) h sp K
                | x :: y => calmT c tt N ops ms s l (i + 1) kn (e.put o.dst v) (addNews h (x :: y)) (sp ++ [(i, x :: y)]) K)
              else False
            | _ => False
          | none => opT tt (evE e) (roAll (visS s.heap (ms.getD i 0) sp)) (s.nx + i * RR) o.op fun r =>
            bif r.calm then
              (match r.news (s.nx + i * RR) with
              | [] => calmT c tt N ops ms s l (i + 1) kn (e.put o.dst r.v) h sp K
              | x :: y => calmT c tt N ops ms s l (i + 1) kn (e.put o.dst r.v) (addNews h (x :: y)) (sp ++ [(i, x :: y)]) K)
            else False)
        (fun kn e => calmT c tt N ops ms s l (i + 1) kn (e.put o.dst undefA) h sp K)
    else False

/-! The calm part, by what each operation is -/
theorem CalmSem.env' [Syms] {P : Program} {N : Nat} {ops : Array Oper} {o : Oper} {e e' : Env} {H : Heap} {m : Nat} {v v' : AVal} {news : List (Nat × Blk)} (he : ∀ ι t u, RelV ι (e'.get t) u → RelV ι (e.get t) u) (hv : ∀ ι u, RelV ι v' u → RelV ι v u) (h : CalmSem P N ops o e H m v' news) : CalmSem P N ops o e' H m v news :=
  fun ι a w K Q h1 h2 h3 h4 h5 h6 => h ι a w K Q h1 h2 (fun t => he ι t _ (h3 t)) h4 h5 fun κ u w' hu hc => h6 κ u w' (hv κ u hu) hc
def CalmOk [Syms] (P : Program) (N : Nat) (ops : Array Oper) (ms : List Nat) (s : St) : Nat → List Oper → CalmSt → CalmSt → Prop
  | _, [], c, c' => c' = c
  | i, o :: l, c, c' => dstOk N o.dst = true ∧ ∃ v news, CalmSem P N ops o (c.env.only (o.looksAt ops)) (visL s.heap (ms.getD i 0) 0 c.nws) (s.nx + i * RR) v news ∧ (∀ id b, (id, b) ∈ news → s.nx + i * RR ≤ id ∧ id < s.nx + i * RR + RR) ∧
      CalmOk P N ops ms s (i + 1) l ⟨c.vals ++ [v], c.nws ++ [news], c.env.put o.dst v, addNews c.heap news⟩ c'
theorem calmOk_sound [Syms] {P : Program} {N : Nat} {ops : Array Oper} {ms : List Nat} {s : St} :
    ∀ (l : List Oper) (i : Nat) (c c' : CalmSt), (∀ j, j < l.length → l[j]? = ops[i + j]?) → c.vals.length = i → c.nws.length = i → CalmOk P N ops ms s i l c c' →
      c'.vals.length = i + l.length ∧ c'.nws.length = i + l.length ∧ (∃ vs, c'.vals = c.vals ++ vs) ∧ (∃ ws, c'.nws = c.nws ++ ws) ∧
      ∀ (v : Nat → AVal) (nw : Nat → List (Nat × Blk)), (∀ k, k < i + l.length → c'.vals[k]? = some (v k) ∧ c'.nws[k]? = some (nw k)) → c.env = envAt s.env (dstAt ops) v i → c.heap = visH s.heap nw (fun _ => true) i →
        c'.env = envAt s.env (dstAt ops) v (i + l.length) ∧ c'.heap = visH s.heap nw (fun _ => true) (i + l.length) ∧
        ∀ k o, i ≤ k → k < i + l.length → ops[k]? = some o → dstOk N o.dst = true ∧ CalmSem P N ops o ((envAt s.env (dstAt ops) v k).only (o.looksAt ops)) (visH s.heap nw (fun q => (ms.getD k 0).testBit q) k) (s.nx + k * RR) (v k) (nw k) ∧
          ∀ id b, (id, b) ∈ nw k → ownN s.nx k id
  | [], i, c, c', _, hv, hn, h => by
    obtain rfl : c' = c := h
    exact ⟨by simpa using hv, by simpa using hn, ⟨[], by simp⟩, ⟨[], by simp⟩, fun v nw _ he hh => ⟨by simpa using he, by simpa using hh, fun k o h1 h2 => by simp at h2; omega⟩⟩
  | o :: l, i, c, c', hl, hv, hn, h => by
    obtain ⟨hdst, x, news, f1, f2, h⟩ := h
    obtain ⟨ih1, ih2, ⟨vs, ih3⟩, ⟨ws, ih4⟩, ih5⟩ := calmOk_sound l (i + 1) _ c' (fun j hj => by have := hl (j + 1) (by simpa using hj); simpa [Nat.add_assoc, Nat.add_comm 1 j] using this) (by simp [hv]) (by simp [hn]) h
    have ho : ops[i]? = some o := by have := hl 0 (by simp); simpa using this.symm
    refine ⟨by simp; omega, by simp; omega, ⟨x :: vs, by simp [ih3]⟩, ⟨news :: ws, by simp [ih4]⟩, fun v nw hvn he hh => ?_⟩
    have hvi : v i = x := by
      have := (hvn i (by simp)).1
      rw [ih3] at this
      simp [hv] at this
      exact this.symm
    have hni : nw i = news := by
      have := (hvn i (by simp)).2
      rw [ih4] at this
      simp [hn] at this
      exact this.symm
    obtain ⟨g1, g2, g3⟩ := ih5 v nw (fun k hk => hvn k (by simp at hk ⊢; omega)) (by
        simp only [envAt]
        rw [he, hvi, show dstAt ops i = o.dst by simp [dstAt, ho]]) (by
        simp only [visH, if_true]
        rw [hh, hni])
    rw [List.length_cons, show i + (l.length + 1) = i + 1 + l.length by omega]
    refine ⟨g1, g2, fun k p h1 h2 hp => ?_⟩
    rcases Nat.lt_or_ge i k with hik | hik
    · exact g3 k p (by omega) h2 hp
    · obtain rfl : k = i := by omega
      rw [ho] at hp
      cases hp
      have hvis : visL s.heap (ms.getD k 0) 0 c.nws = visH s.heap nw (fun q => (ms.getD k 0).testBit q) k := by
        have := visL_eq (nw := nw) (p := fun q => (ms.getD k 0).testBit q) (m := ms.getD k 0) (fun _ => rfl) c.nws 0 s.heap s.heap (fun j hj => by
          have := (hvn j (by simp; omega)).2
          rw [ih4, List.append_assoc, List.getElem?_append_left hj] at this
          simpa using this) rfl
        rw [this, Nat.zero_add, hn]
      rw [hvis, he] at f1
      refine ⟨hdst, by rw [hvi, hni]; exact f1, fun id b hin => ?_⟩
      rw [hni] at hin
      have := f2 id b hin
      refine ⟨this.1, ?_⟩
      rw [Nat.add_mul]
      omega

theorem only_see [Syms] {e e' : Env} (he : ∀ k, e.get k = e'.get k) (l : List Tmp) : ∀ ι t u, RelV ι ((e.only l).get t) u → RelV ι ((e'.only l).get t) u := by
  intro ι t u h
  rw [Env.only_get] at h ⊢
  split at h
  · rename_i hc; rw [if_pos hc, ← he]; exact h
  · rename_i hc; rw [if_neg hc]; exact h
theorem calmT_sound [Syms] {P : Program} {c : CallT} {tt : TT} {N : Nat} {ops : Array Oper} {ms : List Nat} {s : St} {K : Env → Heap → Prop} (htt : TT.ok P tt) (hc : c.det P) : ∀ (l : List Oper) (i : Nat) (kn : Kn) (e' : Env) (h : Heap) (sp : List (Nat × List (Nat × Blk))), calmT c tt N ops ms s l i kn e' h sp K →
    ∀ C : CalmSt, EnvEq C.env e' → C.heap = h → sparse 0 C.nws = sp → C.nws.length = i → ∃ C', CalmOk P N ops ms s i l C C' ∧ ∃ e1', EnvEq C'.env e1' ∧ K e1' C'.heap
  | [], i, kn, e', h, sp, hk, C, he, hh, hsp, hlen => ⟨C, rfl, e', he, by subst hh; exact hk⟩
  | o :: l, i, kn, e', h, sp, hk, C, he, hh, hsp, hlen => by
    unfold calmT at hk
    cases hd : dstOk N o.dst with
    | false => rw [hd] at hk; exact hk.elim
    | true =>
      rw [hd] at hk
      simp only [cond_true] at hk
      obtain ⟨kn2, e2, he2, hk⟩ := guardT_sound hk
      have hee : EnvEq C.env e2 := he.trans he2
      have hvis : visL s.heap (ms.getD i 0) 0 C.nws = visS s.heap (ms.getD i 0) sp := by rw [← hsp, visS_eq]
      have rest : ∀ (v : AVal) (news : List (Nat × Blk)), CalmSem P N ops o (e2.only (o.looksAt ops)) (visS s.heap (ms.getD i 0) sp) (s.nx + i * RR) v news → (∀ id b, (id, b) ∈ news → s.nx + i * RR ≤ id ∧ id < s.nx + i * RR + RR) →
          (match news with
            | [] => calmT c tt N ops ms s l (i + 1) kn2 (e2.put o.dst v) h sp K
            | x :: y => calmT c tt N ops ms s l (i + 1) kn2 (e2.put o.dst v) (addNews h (x :: y)) (sp ++ [(i, x :: y)]) K) →
          ∃ C', CalmOk P N ops ms s i (o :: l) C C' ∧ ∃ e1', EnvEq C'.env e1' ∧ K e1' C'.heap := by
        intro v news hsem hnums hrest
        have hsem' : CalmSem P N ops o (C.env.only (o.looksAt ops)) (visL s.heap (ms.getD i 0) 0 C.nws) (s.nx + i * RR) v news := by
          rw [hvis]
          exact hsem.env' (only_see hee _) (fun _ _ h => h)
        cases news with
        | nil =>
          obtain ⟨C', g1, g2⟩ := calmT_sound htt hc l (i + 1) kn2 _ h sp hrest ⟨C.vals ++ [v], C.nws ++ [[]], C.env.put o.dst v, addNews C.heap []⟩ (hee.put _ _) hh (by rw [sparse_snoc, hsp]; simp) (by simp [hlen])
          exact ⟨C', ⟨hd, v, [], hsem', hnums, g1⟩, g2⟩
        | cons x y =>
          obtain ⟨C', g1, g2⟩ := calmT_sound htt hc l (i + 1) kn2 _ _ _ hrest ⟨C.vals ++ [v], C.nws ++ [x :: y], C.env.put o.dst v, addNews C.heap (x :: y)⟩ (hee.put _ _) (by rw [hh]) (by rw [sparse_snoc, hsp, Nat.zero_add, hlen]) (by simp [hlen])
          exact ⟨C', ⟨hd, v, x :: y, hsem', hnums, g1⟩, g2⟩
      rcases hk with ⟨hw, hk⟩ | ⟨hw, hk⟩
      · split at hk
        · rename_i fo args hcall
          obtain ⟨argTypes, ho⟩ := asCall_spec hcall
          split at hk
          · rename_i fid caps hf
            obtain ⟨v, H', nx', h1, h2, h3⟩ := hc _ _ _ _ _ hk
            cases hb : Nat.ble nx' (s.nx + i * RR + RR) with
            | false => rw [hb] at h3; exact h3.elim
            | true =>
              rw [hb] at h3
              simp only [cond_true] at h3
              have k1 : evE (e2.only (o.looksAt ops)) fo = evE e2 fo := evE_only (by rw [ho]; simp [Op.operands, Call.operands])
              have k2 : args.toList.map (evE (e2.only (o.looksAt ops))) = args.toList.map (evE e2) := List.map_congr_left fun x hx => evE_only (by rw [ho]; simp [Op.operands, Call.operands]; exact .inr (by simpa using hx))
              exact rest v (newsOf (s.nx + i * RR) H' H') (calm_call (by rw [wantedA_only]; exact hw) ho (by rw [k1]; exact hf) h1 (by rw [k2]; exact h2) (Nat.le_of_ble_eq_true hb) (fun id b hin => ⟨(newsOf_spec hin).1, (newsOf_spec hin).2.1⟩)) (fun id b hin => (newsOf_spec hin).2.2) h3
          · exact hk.elim
        · rename_i hcall
          have nums : ∀ (r : Res) id b, (id, b) ∈ r.news (s.nx + i * RR) → s.nx + i * RR ≤ id ∧ id < s.nx + i * RR + RR := by
            intro r id b hin
            cases r with
            | new b0 v0 =>
              simp only [Res.news, List.mem_singleton, Prod.mk.injEq] at hin
              rw [hin.1]
              exact ⟨Nat.le_refl _, by unfold RR; omega⟩
            | _ => simp [Res.news] at hin
          rcases opT_sound hk with ⟨r, h1, h2⟩ | ⟨r', r, h1, h2, h3⟩
          · cases hb : r.calm with
            | false => rw [hb] at h2; exact h2.elim
            | true =>
              rw [hb] at h2
              simp only [cond_true] at h2
              exact rest r.v (r.news (s.nx + i * RR)) (calm_aop htt (by rw [wantedA_only]; exact hw) (by rw [aop_congr o.op (fun x hx => evE_only hx)]; exact h1) hb) (nums r) h2
          · obtain ⟨_, _, g3, g4, g5⟩ := Res.sees_parts (r' := r') (r := r) h2 [] (s.nx + i * RR)
            cases hb : r.calm with
            | false => rw [hb] at h3; exact h3.elim
            | true =>
              rw [hb] at h3
              simp only [cond_true] at h3
              refine rest r.v (r.news (s.nx + i * RR)) ?_ (nums r) h3
              rw [← g5]
              refine CalmSem.env' (e := unE (e2.only (o.looksAt ops))) (fun ι t u h => by rw [unE_get]; exact h.un) g3 ?_
              refine calm_aop htt (by rw [wantedA_un, wantedA_only]; exact hw) ?_ (by rw [g4]; exact hb)
              rw [evE_un, aop_congr o.op (fun x hx => (by rw [evE_only hx] : (evE (e2.only (o.looksAt ops)) x).un = (evE e2 x).un))]
              exact h1
      · exact rest undefA [] ((calm_skip (P := P) (N := N) (ops := ops) (o := o) (env := e2.only (o.looksAt ops)) (by rw [wantedA_only]; exact hw))) (fun _ _ h => nomatch h) hk

theorem drawn_of_calm [Syms] {P : Program} {N : Nat} (hm : P.follows .mixedOrders = true) {id : Nat} {ops : Array Oper} {s s' : St} {ms : List Nat} {n : Nat}
    (hplan : planOk ops ms (mvs ops) n = true) {c : CalmSt} (hrun : CalmOk P N ops ms s 0 (ops.toList.take n) ⟨[], [], s.env, s.heap⟩ c)
    (htail : Chain P N ops (ops.toList.drop n) ⟨c.env, c.heap, s.nx + n * RR⟩ s')
    {Q : Exit → Act → World → Prop} {ι : Inj} {a : Act} {w : World} (hS : RelS N ι s a w) (hQ : ∀ κ a' w', RelS N κ s' a' w' → StepN ι s.heap s.nx w κ s'.heap s'.nx w' → Q .normal a' w') : (Code.region id ops true).wp P Q a w := by
  obtain ⟨pl, hmv⟩ := planOk_plan hplan
  have hle := pl.le
  obtain ⟨hnd, hmo⟩ := movList_spec ops ops.size
  generalize hmvs : mvs ops = l at *
  unfold mvs at hmvs
  rw [hmvs] at hnd hmo
  have hlen : (ops.toList.take n).length = n := by simp; omega
  obtain ⟨h1, h2, _, _, h3⟩ := calmOk_sound (ops.toList.take n) 0 _ c (fun j hj => by
    rw [hlen] at hj
    rw [List.getElem?_take_of_lt hj]
    simp) rfl rfl hrun
  rw [hlen, Nat.zero_add] at h1 h2
  obtain ⟨g1, g2, g3⟩ := h3 (fun k => c.vals.getD k .any) (fun k => c.nws.getD k []) (fun k hk => by
    rw [hlen, Nat.zero_add] at hk
    have e1 : k < c.vals.length := by omega
    have e2 : k < c.nws.length := by omega
    simp [e1, e2]) rfl rfl
  rw [hlen, Nat.zero_add] at g1 g2 g3
  refine drawn_region (n := n) (M := fun i k => (ms.getD i 0).testBit k) (v := fun k => c.vals.getD k .any) (nw := fun k => c.nws.getD k []) hm ⟨pl, fun i o ho hi => (g3 i o (Nat.zero_le _) hi ho).1, fun k hk id b hin => ?_, fun i o ho hi => (g3 i o (Nat.zero_le _) hi ho).2.1, ?_⟩ (l := l) (fun k hk => List.contains_iff_mem.1 hk) hnd (fun i hi => ⟨movOk_movable (hmo i hi).2, (hmv i hi).1, fun k => by rw [(hmv i hi).2]; exact Nat.zero_testBit k⟩) hS hQ
  · exact (g3 k _ (Nat.zero_le _) hk (Array.getElem?_eq_getElem (by omega))).2.2 id b hin
  · have : calmEnd ops n s (fun k => c.vals.getD k .any) (fun k => c.nws.getD k []) = ⟨c.env, c.heap, s.nx + n * RR⟩ := by
      unfold calmEnd
      rw [← g1, ← g2]
    rw [this]
    exact htail

/-- Of a drawing region: what each operation waits for; where the tail begins. -/
abbrev Pl := Option (List Nat × Nat)
inductive PlanIs (ops : Array Oper) (ms : List Nat) (n : Nat) : Prop where
  | mk (h : planOk ops ms (mvs ops) n = true)
def regT (c ci : CallT) (tt : TT) (N : Nat) (ops : Array Oper) (draw : Bool) (pl : Pl) (s : St) (K : St → Prop) : Prop :=
  match draw with
  | true => match pl with
    | some (ms, n) => PlanIs ops ms n ∧ calmT c tt N ops ms s (ops.toList.take n) 0 [] s.env s.heap [] fun e h => seqT c tt N ops (ops.toList.drop n) [] ⟨e, h, s.nx + n * RR⟩ K
    | none => False
  | false => seqT ci tt N ops ops.toList [] s K
theorem Chain.env_eq [Syms] {P : Program} {N : Nat} {ops : Array Oper} {l : List Oper} {e e' : Env} {H : Heap} {nx : Nat} {s' : St} (he : EnvEq e e') (h : Chain P N ops l ⟨e', H, nx⟩ s') : l = [] ∧ s' = ⟨e', H, nx⟩ ∨ Chain P N ops l ⟨e, H, nx⟩ s' := by
  cases l with
  | nil => exact .inl ⟨rfl, h.symm⟩
  | cons o l =>
    obtain ⟨s1, h1, h2⟩ := h
    exact .inr ⟨s1, OpSem.env_eq he h1, h2⟩
theorem regT_sound [Syms] {P : Program} {c ci : CallT} {tt : TT} {N : Nat} (htt : TT.ok P tt) (hc : c.det P) (hci : ci.ok P) (hm : P.follows .mixedOrders = true) {id : Nat} {ops : Array Oper} {draw : Bool} {pl : Pl} {s : St} {K : St → Prop} (h : regT c ci tt N ops draw pl s K)
    {Q : Exit → Act → World → Prop} {ι : Inj} {a : Act} {w : World} (hS : RelS N ι s a w) (hQ : ∀ s' κ a' w', K s' → RelS N κ s' a' w' → StepN ι s.heap s.nx w κ s'.heap s'.nx w' → Q .normal a' w') : (Code.region id ops draw).wp P Q a w := by
  cases draw with
  | false =>
    refine wp_region ?_
    have := seqT_sound (Q := Q) htt hci ops.toList 0 [] s ι a w (fun j => by simp) h hS hQ
    rwa [List.range_eq_range', ← Array.length_toList]
  | true =>
    cases pl with
    | none => exact h.elim
    | some q =>
      obtain ⟨ms, n⟩ := q
      obtain ⟨⟨hp⟩, h⟩ := h
      obtain ⟨c', g1, e1', g2, g3⟩ := calmT_sound htt hc _ 0 [] s.env s.heap [] h ⟨[], [], s.env, s.heap⟩ (.refl _) rfl rfl rfl
      obtain ⟨s', k1, k2⟩ := seqT_det htt hc g3
      rcases Chain.env_eq g2 k1 with ⟨hl, rfl⟩ | k1
      · refine drawn_of_calm hm hp g1 (s' := ⟨c'.env, c'.heap, s.nx + n * RR⟩) (by rw [hl]; rfl) hS (fun κ a' w' hS' hst => hQ _ κ a' w' k2 (hS'.env_eq g2) hst)
      · exact drawn_of_calm hm hp g1 k1 hS (fun κ a' w' hS' hst => hQ s' κ a' w' k2 hS' hst)

end Go.Av
