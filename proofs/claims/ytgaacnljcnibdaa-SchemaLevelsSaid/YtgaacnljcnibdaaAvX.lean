/-
  Functions, run abstractly. Over every program.
-/
import Derived.Test.YtgaacnljcnibdaaAvW3
set_option linter.unusedVariables false
set_option linter.unusedSimpArgs false
noncomputable section
namespace Go.Av

inductive Ex where
  | normal | exit (id : Nat) | goto (l : Nat) | ret
def Ex.out : Ex → Exit
  | .normal => .normal
  | .exit id => .exit id
  | .goto l => .goto l
  | .ret => .ret

/-- The slots that are read later, alone. -/
def prune (keep : List Nat) (e : Env) : Env := keep.map fun k => (k, e.get k)
theorem prune_get [Syms] (e : Env) : ∀ (keep : List Nat) (k : Nat), (prune keep e).get k = if keep.contains k then e.get k else .any
  | [], k => by simp [prune, Env.get_nil, Env.get_cons]
  | x :: l, k => by
    have ih := prune_get e l k
    unfold prune at ih ⊢
    simp only [List.map_cons, Env.get_nil, Env.get_cons]
    by_cases h : k = x
    · subst h
      simp [Nat.beq_refl]
    · rw [beq_ff h]
      simp only [cond_false]
      rw [ih]
      simp [h]
theorem RelS.prune [Syms] {N : Nat} {ι : Inj} {s : St} {a : Act} {w : World} (h : RelS N ι s a w) (keep : List Nat) : RelS N ι ⟨Av.prune keep s.env, s.heap, s.nx⟩ a w := by
  refine ⟨h.defers, h.size, fun k => ?_, h.heap, h.bound⟩
  rw [prune_get]
  split
  · exact h.env k
  · exact .any _

/-- One step of code, the runs within it given. -/
def codeStep (call : CallF) (tt : TT) (N : Nat) (keep : List Nat) (run : Option Code → Code → St → Option (Ex × St)) (c : Code) (s : St) : Option (Ex × St) :=
  match c with
  | .skip | .label _ => some (.normal, s)
  | .exit id => some (.exit id, s)
  | .goto l => some (.goto l, s)
  | .ret => some (.ret, s)
  | .region _ ops draw => match regionAny call tt N ops draw s with
    | some s1 => some (.normal, ⟨prune keep s1.env, s1.heap, s1.nx⟩)
    | none => none
  | .seq x y => match run none x s with
    | some (.normal, s1) => run none y s1
    | r => r
  | .cond c x y => match s.ev c with
    | .bool t => run none (if t then x else y) s
    | _ => none
  | .block id b => match run none b s with
    | some (.exit id', s1) => if id' = id then some (.normal, s1) else some (.exit id', s1)
    | r => r
  | .loop b => match run none b s with
    | some (.normal, s1) => run none (.loop b) s1
    | r => r
  | .scope b => run (some b) b s
  | _ => none
def codeScope (run : Option Code → Code → St → Option (Ex × St)) (b c : Code) (s : St) : Option (Ex × St) :=
  match run none c s with
  | some (.goto l, s1) => match findLabel b l with
    | some rest => run (some b) rest s1
    | none => some (.goto l, s1)
  | r => r
def codeRun (call : CallF) (tt : TT) (N : Nat) (keep : List Nat) (f : Nat) : Option Code → Code → St → Option (Ex × St) :=
  @Nat.rec (fun _ => Option Code → Code → St → Option (Ex × St)) (fun _ _ _ => none) (fun _ ih sc c s => @Option.rec Code (fun _ => Option (Ex × St)) (codeStep call tt N keep ih c s) (fun b => codeScope ih b c s) sc) f
theorem codeRun_none (call : CallF) (tt : TT) (N : Nat) (keep : List Nat) (f : Nat) (c : Code) (s : St) : codeRun call tt N keep (f + 1) none c s = codeStep call tt N keep (codeRun call tt N keep f) c s := rfl
theorem codeRun_some (call : CallF) (tt : TT) (N : Nat) (keep : List Nat) (f : Nat) (b c : Code) (s : St) : codeRun call tt N keep (f + 1) (some b) c s = codeScope (codeRun call tt N keep f) b c s := rfl

def ScopeWp (P : Program) (c x : Code) (Q : Exit → Act → World → Prop) (a : Act) (w : World) : Prop :=
  ∀ (b : Frame) (k : List Item) (cs : List Frame), ∃ e a' w', Q e a' w' ∧ Arrives P (lone (b.at a (.code x :: .inScope c :: k)) cs w) b k cs e a' w'

theorem wp_scope_of {P : Program} {c : Code} {Q : Exit → Act → World → Prop} {a : Act} {w : World} (h : ScopeWp P c c Q a w) : (Code.scope c).wp P Q a w :=
  fun b k cs => let ⟨e, a', w', hq, harr⟩ := h b k cs; ⟨e, a', w', hq, .of_steps (.one step_scope) harr⟩

theorem scopeWp_of {P : Program} {c x : Code} {Q : Exit → Act → World → Prop} {a : Act} {w : World}
    (h : x.wp P (fun e a w => (∃ l rest, e = .goto l ∧ findLabel c l = some rest ∧ ScopeWp P c rest Q a w) ∨ ((∀ l, e = .goto l → findLabel c l = none) ∧ Q e a w)) a w) : ScopeWp P c x Q a w := by
  intro b k cs
  obtain ⟨e, a₁, w₁, hq, harr⟩ := h b (.inScope c :: k) cs
  rcases hq with ⟨l, rest, rfl, hf, hs⟩ | ⟨hno, hq⟩
  · have hg : gotoIn l (.inScope c :: k) = some (.code rest :: .inScope c :: k) := by simp [gotoIn, hf]
    obtain ⟨e₂, a₂, w₂, hq₂, harr₂⟩ := hs b k cs
    exact ⟨e₂, a₂, w₂, hq₂, .of_steps (harr _ hg) harr₂⟩
  · cases e with
    | normal => exact ⟨.normal, a₁, w₁, hq, Steps.trans harr (.one step_inScope)⟩
    | exit id => exact ⟨.exit id, a₁, w₁, hq, fun k' hk => harr k' (by simp [exitTo, hk])⟩
    | goto l => exact ⟨.goto l, a₁, w₁, hq, fun k' hk => harr k' (by simp [gotoIn, hno l rfl, hk])⟩
    | ret => exact ⟨_, a₁, w₁, hq, harr⟩
    | panic ch => exact ⟨_, a₁, w₁, hq, harr⟩
    | outgrown => exact ⟨_, a₁, w₁, hq, harr⟩

def LoopWp (P : Program) (c : Code) (Q : Exit → Act → World → Prop) (a : Act) (w : World) : Prop :=
  ∀ (b : Frame) (k : List Item) (cs : List Frame), ∃ e a' w', Q e a' w' ∧ Arrives P (lone (b.at a (.code c :: .inLoop c :: k)) cs w) b k cs e a' w'

theorem wp_loop_of {P : Program} {c : Code} {Q : Exit → Act → World → Prop} {a : Act} {w : World} (h : LoopWp P c Q a w) : (Code.loop c).wp P Q a w :=
  fun b k cs => let ⟨e, a', w', hq, harr⟩ := h b k cs; ⟨e, a', w', hq, .of_steps (.one step_loop) harr⟩

theorem loopWp_of {P : Program} {c : Code} {Q : Exit → Act → World → Prop} {a : Act} {w : World} (h : c.wp P (Exit.then (LoopWp P c Q) Q) a w) : LoopWp P c Q a w := by
  intro b k cs
  obtain ⟨e, a₁, w₁, hq, harr⟩ := h b (.inLoop c :: k) cs
  cases e with
  | normal =>
    obtain ⟨e₂, a₂, w₂, hq₂, harr₂⟩ := hq b k cs
    exact ⟨e₂, a₂, w₂, hq₂, .of_steps (Steps.trans harr (.one step_inLoop)) harr₂⟩
  | exit id => exact ⟨_, a₁, w₁, hq, .pass (x := .inLoop c) rfl (fun _ _ => .inl (by simp)) harr⟩
  | goto l => exact ⟨_, a₁, w₁, hq, .pass (x := .inLoop c) rfl (fun _ _ => .inl (by simp)) harr⟩
  | ret => exact ⟨_, a₁, w₁, hq, .pass (x := .inLoop c) rfl (fun _ _ => .inl (by simp)) harr⟩
  | panic ch => exact ⟨_, a₁, w₁, hq, .pass (x := .inLoop c) rfl (fun _ _ => .inl (by simp)) harr⟩
  | outgrown => exact ⟨_, a₁, w₁, hq, .pass (x := .inLoop c) rfl (fun _ _ => .inl (by simp)) harr⟩

/-- What a run of code says of the code. -/
def CW (P : Program) : Option Code → Code → (Exit → Act → World → Prop) → Act → World → Prop
  | some b, c, Q, a, w => ScopeWp P b c Q a w
  | none, c, Q, a, w => c.wp P Q a w ∧ ∀ b, c = .loop b → LoopWp P b Q a w

theorem codeRun_sound [Syms] {P : Program} {call : CallF} {tt : TT} {N : Nat} {keep : List Nat} (htt : TT.ok P tt) (hcall : call.ok P) (hm : P.follows .mixedOrders = true) : ∀ (f : Nat) (sc : Option Code) (c : Code) (s : St) (e : Ex) (s' : St), codeRun call tt N keep f sc c s = some (e, s') →
    ∀ (Q : Exit → Act → World → Prop) (ι : Inj) (a : Act) (w : World), RelS N ι s a w → (∀ κ a' w', RelS N κ s' a' w' → StepN ι s.heap s.nx w κ s'.heap s'.nx w' → Q e.out a' w') → CW P sc c Q a w
  | 0, _, _, _, _, _, h => nomatch h
  | f + 1, some b, c, s, e, s', h => by
    intro Q ι a w hS hQ
    simp only [codeRun_some, codeScope] at h
    split at h
    · rename_i l s1 h1
      split at h
      · rename_i rest hf
        refine scopeWp_of (codeRun_sound htt hcall hm f none c s _ s1 h1 _ ι a w hS (fun κ a' w' hS' hst => ?_)).1
        exact .inl ⟨l, rest, rfl, hf, codeRun_sound htt hcall hm f (some b) rest s1 e s' h Q κ a' w' hS' (fun μ a'' w'' hS'' hst' => hQ μ a'' w'' hS'' (hst.trans hst'))⟩
      · rename_i hf
        cases h
        refine scopeWp_of (codeRun_sound htt hcall hm f none c s _ s' h1 _ ι a w hS (fun κ a' w' hS' hst => ?_)).1
        exact .inr ⟨fun l' hl => by cases hl; exact hf, hQ κ a' w' hS' hst⟩
    · rename_i r hno
      refine scopeWp_of (codeRun_sound htt hcall hm f none c s e s' h _ ι a w hS (fun κ a' w' hS' hst => ?_)).1
      refine .inr ⟨fun l' hl => ?_, hQ κ a' w' hS' hst⟩
      cases e with
      | goto l2 => exact absurd h (hno l2 s')
      | _ => cases hl
  | f + 1, none, c, s, e, s', h => by
    intro Q ι a w hS hQ
    have ih := codeRun_sound htt hcall hm (P := P) (call := call) (tt := tt) (N := N) (keep := keep) f
    cases c with
    | skip => simp only [codeRun_none, codeStep] at h; cases h; exact ⟨wp_skip (hQ ι a w hS (StepN.refl ..)), fun b hb => by cases hb⟩
    | label l => simp only [codeRun_none, codeStep] at h; cases h; exact ⟨wp_label (hQ ι a w hS (StepN.refl ..)), fun b hb => by cases hb⟩
    | exit id => simp only [codeRun_none, codeStep] at h; cases h; exact ⟨wp_exit (hQ ι a w hS (StepN.refl ..)), fun b hb => by cases hb⟩
    | goto l => simp only [codeRun_none, codeStep] at h; cases h; exact ⟨wp_goto (hQ ι a w hS (StepN.refl ..)), fun b hb => by cases hb⟩
    | ret => simp only [codeRun_none, codeStep] at h; cases h; exact ⟨wp_ret (hQ ι a w hS (StepN.refl ..)), fun b hb => by cases hb⟩
    | region id ops draw =>
      simp only [codeRun_none, codeStep] at h
      split at h
      · rename_i s1 h1
        cases h
        exact ⟨regionAny_sound htt hcall hm h1 hS (fun κ a' w' hS' hst => hQ κ a' w' (hS'.prune keep) hst), fun b hb => by cases hb⟩
      · cases h
    | seq x y =>
      refine ⟨wp_seq ?_, fun b hb => by cases hb⟩
      simp only [codeRun_none, codeStep] at h
      split at h
      · rename_i s1 h1
        refine (ih none x s _ s1 h1 _ ι a w hS (fun κ a' w' hS' hst => ?_)).1
        exact (ih none y s1 e s' h Q κ a' w' hS' (fun μ a'' w'' hS'' hst' => hQ μ a'' w'' hS'' (hst.trans hst'))).1
      · rename_i r hno
        refine (ih none x s e s' h _ ι a w hS (fun κ a' w' hS' hst => ?_)).1
        have := hQ κ a' w' hS' hst
        cases e with
        | normal => exact absurd h (hno s')
        | _ => exact this
    | cond c x y =>
      refine ⟨?_, fun b hb => by cases hb⟩
      simp only [codeRun_none, codeStep] at h
      split at h
      · rename_i t hc
        have hv := hS.ev c
        rw [hc] at hv
        exact wp_cond hv.of_bool (ih none _ s e s' h Q ι a w hS hQ).1
      · cases h
    | block id b =>
      refine ⟨wp_block ?_, fun b hb => by cases hb⟩
      simp only [codeRun_none, codeStep] at h
      split at h
      · rename_i id' s1 h1
        refine (ih none b s _ s1 h1 _ ι a w hS (fun κ a' w' hS' hst => ?_)).1
        show Exit.inBlock id Q (.exit id') a' w'
        simp only [Exit.inBlock]
        split at h
        · rename_i he
          cases h
          rw [if_pos he]
          exact hQ κ a' w' hS' hst
        · rename_i he
          cases h
          rw [if_neg he]
          exact hQ κ a' w' hS' hst
      · rename_i r hno
        refine (ih none b s e s' h _ ι a w hS (fun κ a' w' hS' hst => ?_)).1
        have := hQ κ a' w' hS' hst
        cases e with
        | exit id' => exact absurd h (hno id' s')
        | _ => exact this
    | loop b =>
      have key : LoopWp P b Q a w := by
        refine loopWp_of ?_
        simp only [codeRun_none, codeStep] at h
        split at h
        · rename_i s1 h1
          refine (ih none b s _ s1 h1 _ ι a w hS (fun κ a' w' hS' hst => ?_)).1
          exact (ih none (.loop b) s1 e s' h Q κ a' w' hS' (fun μ a'' w'' hS'' hst' => hQ μ a'' w'' hS'' (hst.trans hst'))).2 b rfl
        · rename_i r hno
          refine (ih none b s e s' h _ ι a w hS (fun κ a' w' hS' hst => ?_)).1
          have := hQ κ a' w' hS' hst
          cases e with
          | normal => exact absurd h (hno s')
          | _ => exact this
      exact ⟨wp_loop_of key, fun b' hb => by cases hb; exact key⟩
    | scope b =>
      refine ⟨?_, fun b hb => by cases hb⟩
      simp only [codeRun_none, codeStep] at h
      exact wp_scope_of (ih (some b) b s e s' h Q ι a w hS hQ)
    | rangeFunc _ _ _ _ => simp [codeRun_none, codeStep] at h
    | refuse _ => simp [codeRun_none, codeStep] at h

end Go.Av
