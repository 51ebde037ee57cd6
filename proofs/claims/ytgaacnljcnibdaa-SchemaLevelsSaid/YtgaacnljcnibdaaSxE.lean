/-
  Code, with what is not known: loops by what holds at their head. Over every program.
-/
import Derived.Test.YtgaacnljcnibdaaSxD
set_option linter.unusedVariables false
set_option linter.unusedSimpArgs false
noncomputable section
namespace Go.Av

abbrev RunT := Option Code → Code → St → (Ex → St → Prop) → Prop
/-- Jumps back, by what holds at a label. -/
def scopeI [Syms] (na N : Nat) (run : RunT) (b : Code) (s : St) (K : Ex → St → Prop) : Prop :=
  ∃ I : Nat → Nat → St → Prop, (run none b s fun e s1 => match e with
    | .goto l => match findLabel b l with
      | some _ => ∃ n s2, Reb na N s1 s2 ∧ I l n s2
      | none => K (.goto l) s1
    | e => K e s1) ∧ ∀ l rest n s1, findLabel b l = some rest → I l n s1 → run none rest s1 fun e s2 => match e with
    | .goto l' => match findLabel b l' with
      | some _ => ∃ m s3, Reb na N s2 s3 ∧ I l' m s3 ∧ m < n
      | none => K (.goto l') s2
    | e => K e s2
def stepT [Syms] (na : Nat) (c ci : CallT) (tt : TT) (N : Nat) (keep : List Nat) (pls : Nat → Pl) (run : RunT) (code : Code) (s : St) (K : Ex → St → Prop) : Prop :=
  match code with
  | .skip | .label _ => K .normal s
  | .exit id => K (.exit id) s
  | .goto l => K (.goto l) s
  | .ret => K .ret s
  | .region id ops draw => match s with
    | ⟨e, H, nx⟩ => match draw, pls id with
      | true, some ([], _) => NoSel ops ∧ ∃ s' : St, anyT ci tt N ops ops.size (Array.replicate ops.size false) [] e H nx (fun e H nx => ∃ u : Unit, Reb na N ⟨e, H, nx⟩ s') ∧ pruneE keep s'.env fun e => K .normal ⟨e, s'.heap, s'.nx⟩
      | true, pl => regE c ci tt N ops true pl e H nx fun e H nx => pruneE keep e fun e => K .normal ⟨e, H, nx⟩
      | false, _ => seqN ci tt N ops ops.toList [] e H nx fun e H nx => pruneE keep e fun e => K .normal ⟨e, H, nx⟩
  | .seq x y => run none x s fun e s1 => match e with
    | .normal => run none y s1 K
    | e => K e s1
  | .cond o x y => match s.ev o with
    | .bool b => splitB b (run none x s K) (run none y s K)
    | _ => False
  | .block id b => run none b s fun e s1 => match e with
    | .exit id' => if id' = id then K .normal s1 else K (.exit id') s1
    | e => K e s1
  | .loop b => ∃ I : Nat → St → Prop, (∃ n s1, Reb na N s s1 ∧ I n s1) ∧ ∀ n s1, I n s1 → run none b s1 fun e s2 => match e with
    | .normal => ∃ m s3, Reb na N s2 s3 ∧ I m s3 ∧ m < n
    | e => K e s2
  | .scope b => run (some b) b s K ∨ scopeI na N run b s K
  | _ => False
def scopeT (run : RunT) (b code : Code) (s : St) (K : Ex → St → Prop) : Prop :=
  run none code s fun e s1 => match e with
    | .goto l => match findLabel b l with
      | some rest => run (some b) rest s1 K
      | none => K (.goto l) s1
    | e => K e s1
def codeT [Syms] (na : Nat) (c ci : CallT) (tt : TT) (N : Nat) (keep : List Nat) (pls : Nat → Pl) (f : Nat) : RunT :=
  @Nat.rec (fun _ => RunT) (fun _ _ _ _ => False) (fun _ ih sc code s K => @Option.rec Code (fun _ => Prop) (stepT na c ci tt N keep pls ih code s K) (fun b => scopeT ih b code s K) sc) f
theorem codeT_none [Syms] (na : Nat) (c ci : CallT) (tt : TT) (N : Nat) (keep : List Nat) (pls : Nat → Pl) (f : Nat) (code : Code) (s : St) (K : Ex → St → Prop) : codeT na c ci tt N keep pls (f + 1) none code s K = stepT na c ci tt N keep pls (codeT na c ci tt N keep pls f) code s K := rfl
theorem codeT_some [Syms] (na : Nat) (c ci : CallT) (tt : TT) (N : Nat) (keep : List Nat) (pls : Nat → Pl) (f : Nat) (b code : Code) (s : St) (K : Ex → St → Prop) : codeT na c ci tt N keep pls (f + 1) (some b) code s K = scopeT (codeT na c ci tt N keep pls f) b code s K := rfl

/-- What holds of code behind which Q is to hold. -/
def CWs (P : Program) : Option Code → Code → (Exit → Act → World → Prop) → Act → World → Prop
  | some b, c, Q, a, w => ScopeWp P b c Q a w
  | none, c, Q, a, w => c.wp P Q a w

theorem codeT_sound [Syms] {P : Program} {na : Nat} {c ci : CallT} {tt : TT} {N : Nat} {keep : List Nat} {pls : Nat → Pl} (htt : TT.ok P tt) (hc : c.det P) (hci : ci.ok P) (hm : P.follows .mixedOrders = true) : ∀ (f : Nat) (sc : Option Code) (code : Code) (s : St) (K : Ex → St → Prop), codeT na c ci tt N keep pls f sc code s K →
    ∀ (Q : Exit → Act → World → Prop) (ι : Inj) (a : Act) (w : World), na ≤ s.nx → RelS N ι s a w → (∀ e s' κ a' w', K e s' → na ≤ s'.nx → RelS N κ s' a' w' → StepL na ι s.heap w κ s'.heap w' → Q e.out a' w') → CWs P sc code Q a w
  | 0, _, _, _, _, h => h.elim
  | f + 1, some b, code, s, K, h => by
    intro Q ι a w hn hS hQ
    rw [codeT_some] at h
    unfold scopeT at h
    have ih := codeT_sound htt hc hci hm (na := na) (c := c) (ci := ci) (tt := tt) (N := N) (keep := keep) (pls := pls) f
    refine scopeWp_of (ih none code s _ h _ ι a w hn hS fun e s' κ a' w' hk hn' hS' hst => ?_)
    cases e with
    | goto l =>
      simp only at hk
      split at hk
      · rename_i rest hf
        exact .inl ⟨l, rest, rfl, hf, ih (some b) rest s' K hk Q κ a' w' hn' hS' fun e s'' μ a'' w'' hk' hn'' hS'' hst' => hQ e s'' μ a'' w'' hk' hn'' hS'' (hst.trans hst')⟩
      · rename_i hf
        exact .inr ⟨fun l' hl => by cases hl; exact hf, hQ (.goto l) s' κ a' w' hk hn' hS' hst⟩
    | normal => exact .inr ⟨fun l' hl => (by cases hl), hQ .normal s' κ a' w' hk hn' hS' hst⟩
    | exit id => exact .inr ⟨fun l' hl => (by cases hl), hQ (.exit id) s' κ a' w' hk hn' hS' hst⟩
    | ret => exact .inr ⟨fun l' hl => (by cases hl), hQ .ret s' κ a' w' hk hn' hS' hst⟩
  | f + 1, none, code, s, K, h => by
    intro Q ι a w hn hS hQ
    have ih := codeT_sound htt hc hci hm (na := na) (c := c) (ci := ci) (tt := tt) (N := N) (keep := keep) (pls := pls) f
    rw [codeT_none] at h
    cases code with
    | skip => exact wp_skip (hQ .normal s ι a w h hn hS (.refl ..))
    | label l => exact wp_label (hQ .normal s ι a w h hn hS (.refl ..))
    | exit id => exact wp_exit (hQ (.exit id) s ι a w h hn hS (.refl ..))
    | goto l => exact wp_goto (hQ (.goto l) s ι a w h hn hS (.refl ..))
    | ret => exact wp_ret (hQ .ret s ι a w h hn hS (.refl ..))
    | region id ops draw =>
      have plain : regE c ci tt N ops draw (pls id) s.env s.heap s.nx (fun e H nx => pruneE keep e fun e => K .normal ⟨e, H, nx⟩) → (Code.region id ops draw).wp P Q a w := by
        intro h
        have h : regT c ci tt N ops draw (pls id) s (fun s1 => pruneE keep s1.env fun e => K .normal ⟨e, s1.heap, s1.nx⟩) := by
          have := regE_eq c ci tt N ops draw (pls id) s.env s.heap s.nx (fun s1 => pruneE keep s1.env fun e => K .normal ⟨e, s1.heap, s1.nx⟩)
          rw [← this]; exact h
        refine regT_sound htt hc hci hm h hS fun s' κ a' w' hk hS' hst => ?_
        obtain ⟨e', he, hk⟩ := pruneE_sound _ _ _ hk
        exact hQ .normal _ κ a' w' hk (Nat.le_trans hn hst.up) ((hS'.prune keep).env_eq he) (hst.l hn)
      simp only [stepT] at h
      split at h
      · rename_i n hpl
        obtain ⟨hsel, s', h1, h2⟩ := h
        obtain ⟨e', he, hk⟩ := pruneE_sound _ _ _ h2
        refine any_region htt hci hm hsel h1 hS fun e1 H1 nx1 κ a' w' hrb hS' hst => ?_
        obtain ⟨_, hreb⟩ := hrb
        obtain ⟨μ, g1, g2⟩ := hreb.2 κ a' w' hS'
        exact hQ .normal _ μ a' w' hk (hreb.1 (Nat.le_trans hn hst.up)) ((g1.prune keep).env_eq he) ((hst.l hn).trans g2)
      · exact plain h
      · refine wp_region ?_
        have := seqN_sound (Q := Q) htt hci ops.toList 0 [] s.env s.heap s.nx ι a w (fun j => by simp) h hS fun e1 H1 nx1 κ a' w' hk hS' hst => ?_
        · rwa [List.range_eq_range', ← Array.length_toList]
        · obtain ⟨e', he, hk⟩ := pruneE_sound _ _ _ hk
          exact hQ .normal _ κ a' w' hk (Nat.le_trans hn hst.up) ((hS'.prune keep).env_eq he) (hst.l hn)
    | seq x y =>
      refine wp_seq (ih none x s _ h _ ι a w hn hS fun e s' κ a' w' hk hn' hS' hst => ?_)
      cases e with
      | normal => exact ih none y s' K hk Q κ a' w' hn' hS' fun e s'' μ a'' w'' hk' hn'' hS'' hst' => hQ e s'' μ a'' w'' hk' hn'' hS'' (hst.trans hst')
      | exit id => exact hQ (.exit id) s' κ a' w' hk hn' hS' hst
      | goto l => exact hQ (.goto l) s' κ a' w' hk hn' hS' hst
      | ret => exact hQ .ret s' κ a' w' hk hn' hS' hst
    | cond o x y =>
      simp only [stepT] at h
      split at h
      · rename_i t ht
        have hv := hS.ev o
        rw [ht] at hv
        refine wp_cond hv.of_bool ?_
        cases t with
        | true => exact ih none x s K (splitB_true h) Q ι a w hn hS hQ
        | false => exact ih none y s K (splitB_false h) Q ι a w hn hS hQ
      · exact h.elim
    | block id b =>
      refine wp_block (ih none b s _ h _ ι a w hn hS fun e s' κ a' w' hk hn' hS' hst => ?_)
      cases e with
      | exit id' =>
        simp only at hk
        show Exit.inBlock id Q (.exit id') a' w'
        simp only [Exit.inBlock]
        split at hk
        · rename_i he
          rw [if_pos he]
          exact hQ .normal s' κ a' w' hk hn' hS' hst
        · rename_i he
          rw [if_neg he]
          exact hQ (.exit id') s' κ a' w' hk hn' hS' hst
      | normal => exact hQ .normal s' κ a' w' hk hn' hS' hst
      | goto l => exact hQ (.goto l) s' κ a' w' hk hn' hS' hst
      | ret => exact hQ .ret s' κ a' w' hk hn' hS' hst
    | loop b =>
      obtain ⟨I, ⟨n0, s1, hreb, hI⟩, hbody⟩ := h
      have key : ∀ (n k : Nat) (s1 : St), k < n → I k s1 → ∀ (ι : Inj) (a : Act) (w : World), na ≤ s1.nx → RelS N ι s1 a w → (∀ e s' κ a' w', K e s' → na ≤ s'.nx → RelS N κ s' a' w' → StepL na ι s1.heap w κ s'.heap w' → Q e.out a' w') → LoopWp P b Q a w := by
        intro n
        induction n with
        | zero => intro k s1 hlt; omega
        | succ n IH =>
          intro k s1 hlt hI ι a w hn hS hQ
          refine loopWp_of (ih none b s1 _ (hbody k s1 hI) _ ι a w hn hS fun e s' κ a' w' hk hn' hS' hst => ?_)
          cases e with
          | normal =>
            obtain ⟨m, s3, hr, hI3, hμ⟩ := hk
            obtain ⟨κ3, hS3, hst3⟩ := hr.2 κ a' w' hS'
            exact IH m s3 (by omega) hI3 κ3 a' w' (hr.1 hn') hS3 fun e s'' ν a'' w'' hk' hn'' hS'' hst' => hQ e s'' ν a'' w'' hk' hn'' hS'' ((hst.trans hst3).trans hst')
          | exit id => exact hQ (.exit id) s' κ a' w' hk hn' hS' hst
          | goto l => exact hQ (.goto l) s' κ a' w' hk hn' hS' hst
          | ret => exact hQ .ret s' κ a' w' hk hn' hS' hst
      obtain ⟨κ1, hS1, hst1⟩ := hreb.2 ι a w hS
      exact wp_loop_of (key (n0 + 1) n0 s1 (by omega) hI κ1 a w (hreb.1 hn) hS1 fun e s'' ν a'' w'' hk' hn'' hS'' hst' => hQ e s'' ν a'' w'' hk' hn'' hS'' (hst1.trans hst'))
    | scope b =>
      rcases h with h | ⟨I, h0, hbody⟩
      · exact wp_scope_of (ih (some b) b s K h Q ι a w hn hS hQ)
      have key : ∀ (n l k : Nat) (rest : Code) (s1 : St), k < n → findLabel b l = some rest → I l k s1 → ∀ (ι : Inj) (a : Act) (w : World), na ≤ s1.nx → RelS N ι s1 a w → (∀ e s' κ a' w', K e s' → na ≤ s'.nx → RelS N κ s' a' w' → StepL na ι s1.heap w κ s'.heap w' → Q e.out a' w') → ScopeWp P b rest Q a w := by
        intro n
        induction n with
        | zero => intro l k rest s1 hlt; omega
        | succ n IH =>
          intro l k rest s1 hlt hfl hI ι a w hn hS hQ
          refine scopeWp_of (ih none rest s1 _ (hbody l rest k s1 hfl hI) _ ι a w hn hS fun e s' κ a' w' hk hn' hS' hst => ?_)
          cases e with
          | goto l' =>
            simp only at hk
            split at hk
            · rename_i rest' hf
              obtain ⟨m, s3, hr, hI3, hμ⟩ := hk
              obtain ⟨κ3, hS3, hst3⟩ := hr.2 κ a' w' hS'
              exact .inl ⟨l', rest', rfl, hf, IH l' m rest' s3 (by omega) hf hI3 κ3 a' w' (hr.1 hn') hS3 fun e s'' ν a'' w'' hk' hn'' hS'' hst' => hQ e s'' ν a'' w'' hk' hn'' hS'' ((hst.trans hst3).trans hst')⟩
            · rename_i hf
              exact .inr ⟨fun l'' hl => by cases hl; exact hf, hQ (.goto l') s' κ a' w' hk hn' hS' hst⟩
          | normal => exact .inr ⟨fun l' hl => (by cases hl), hQ .normal s' κ a' w' hk hn' hS' hst⟩
          | exit id => exact .inr ⟨fun l' hl => (by cases hl), hQ (.exit id) s' κ a' w' hk hn' hS' hst⟩
          | ret => exact .inr ⟨fun l' hl => (by cases hl), hQ .ret s' κ a' w' hk hn' hS' hst⟩
      refine wp_scope_of (scopeWp_of (ih none b s _ h0 _ ι a w hn hS fun e s' κ a' w' hk hn' hS' hst => ?_))
      cases e with
      | goto l' =>
        simp only at hk
        split at hk
        · rename_i rest' hf
          obtain ⟨m, s3, hr, hI3⟩ := hk
          obtain ⟨κ3, hS3, hst3⟩ := hr.2 κ a' w' hS'
          exact .inl ⟨l', rest', rfl, hf, key (m + 1) l' m rest' s3 (by omega) hf hI3 κ3 a' w' (hr.1 hn') hS3 fun e s'' ν a'' w'' hk' hn'' hS'' hst' => hQ e s'' ν a'' w'' hk' hn'' hS'' ((hst.trans hst3).trans hst')⟩
        · rename_i hf
          exact .inr ⟨fun l'' hl => by cases hl; exact hf, hQ (.goto l') s' κ a' w' hk hn' hS' hst⟩
      | normal => exact .inr ⟨fun l' hl => (by cases hl), hQ .normal s' κ a' w' hk hn' hS' hst⟩
      | exit id => exact .inr ⟨fun l' hl => (by cases hl), hQ (.exit id) s' κ a' w' hk hn' hS' hst⟩
      | ret => exact .inr ⟨fun l' hl => (by cases hl), hQ .ret s' κ a' w' hk hn' hS' hst⟩
    | rangeFunc _ _ _ _ => exact h.elim
    | refuse _ => exact h.elim

/-- What a function does, by numbers of its own. -/
def FnSem [Syms] (P : Program) (f : FuncId) (args : List AVal) (H : Heap) (nx : Nat) (Post : AVal → Heap → Nat → Prop) : Prop :=
  FnOk P f ∧ ∀ (ι : Inj) (w : World) (vs : List Value), RelL ι args vs → RelH ι H w → Bound ι nx w →
    Calls P f ⟨vs⟩ w fun e w' => ∃ v H' nx' r κ, Post v H' nx' ∧ e = .returned r ∧ RelV κ v r ∧ RelH κ H' w' ∧ StepL nx ι H w κ H' w' ∧ Bound κ nx' w' ∧ nx ≤ nx'

/-- The plans by function and region. -/
def plFind (id : Nat) (l : List (Nat × List Nat × Nat)) : Pl := @List.rec (Nat × List Nat × Nat) (fun _ => Pl) none (fun p _ ih => @Bool.rec (fun _ => Pl) ih (some p.2) (Nat.beq id p.1)) l
def plTab (t : Tr (List (Nat × List Nat × Nat))) (f id : Nat) : Pl := @Option.rec _ (fun _ => Pl) none (fun l => plFind id l) (t.find f)
def fnT [Syms] (c ci : CallT) (ft : FT) (tt : TT) (pls : Nat → Nat → Pl) (fuel : Nat) (f : FuncId) (args : List AVal) (H : Heap) (nx : Nat) (Post : AVal → Heap → Nat → Prop) : Prop :=
  match ft f with
  | some fa => codeT nx c ci tt fa.n fa.keep (pls f) fuel none fa.code ⟨argEnv 0 args, H, nx⟩ fun e s => match e with
    | .normal | .ret => ∃ s3, Reb nx fa.n s s3 ∧ ∃ v, resultsA tt s3 fa.res = some v ∧ Post v s3.heap s3.nx
    | _ => False
  | none => False
theorem fnT_sound [Syms] {P : Program} {c ci : CallT} {ft : FT} {tt : TT} {pls : Nat → Nat → Pl} {fuel : Nat} {f : FuncId} {args : List AVal} {H : Heap} {nx : Nat} {Post : AVal → Heap → Nat → Prop} (htt : TT.ok P tt) (hft : FT.ok P ft) (hc : c.det P) (hci : ci.ok P) (hm : P.follows .mixedOrders = true)
    (h : fnT c ci ft tt pls fuel f args H nx Post) : FnSem P f args H nx Post := by
  unfold fnT at h
  split at h
  rotate_left
  · exact h.elim
  rename_i fa hf
  refine ⟨hft.fnOk hf, ?_⟩
  intro ι w vs ha hH hb
  obtain ⟨fn, h1, h2, h3, h4, h5⟩ := hft f fa hf
  have hlen := ha.1
  refine calls_of_wp h1 h2 ?_
  have hS : RelS fa.n ι ⟨argEnv 0 args, H, nx⟩ { tmps := ⟨vs⟩ ++ Array.replicate (fn.ntmps - (⟨vs⟩ : Array Value).size) undef, defers := [] } w := by
    refine ⟨rfl, ?_, fun k => ?_, hH, hb⟩
    · simp [h3]; omega
    · rw [argEnv_get]
      simp only [Nat.zero_le, if_true, Nat.sub_zero]
      rcases Nat.lt_or_ge k args.length with hk | hk
      · have e1 : args.getD k .any = args[k] := by simp [hk]
        have hk' : k < vs.length := by omega
        rw [e1]
        have := ha.2 k _ _ (by simp [hk] : args[k]? = some args[k]) (by simp [hk'] : vs[k]? = some vs[k])
        simpa [Array.getElem?_append, hk'] using this
      · have e1 : args.getD k .any = .any := by simp [hk]
        rw [e1]
        exact .any _
  refine codeT_sound htt hc hci hm fuel none fa.code _ _ h (bodyPost P fn _) ι _ w (Nat.le_refl _) hS (fun e s' κ a' w' hk hn' hS' hst => ?_)
  have fin : (∃ s3, Reb nx fa.n s' s3 ∧ ∃ v, resultsA tt s3 fa.res = some v ∧ Post v s3.heap s3.nx) → a'.defers = [] ∧ ∃ r, (results fn a'.tmps).run P w' = .ok r w' ∧ ∃ v H' nx' r' κ, Post v H' nx' ∧ Ending.returned r = .returned r' ∧ RelV κ v r' ∧ RelH κ H' w' ∧ StepL nx ι H w κ H' w' ∧ Bound κ nx' w' ∧ nx ≤ nx' := by
    rintro ⟨s3, hr, v, hv, hp⟩
    obtain ⟨κ3, hS3, hst3⟩ := hr.2 κ a' w' hS'
    rw [← h4] at hv
    obtain ⟨r, hrun, hrv⟩ := resultsA_sound htt hS3 hv
    exact ⟨hS'.defers, r, hrun, v, _, _, r, κ3, hp, rfl, hrv, hS3.heap, hst.trans hst3, hS3.bound, hr.1 hn'⟩
  cases e with
  | normal => exact fin hk
  | ret => exact fin hk
  | exit id => exact hk.elim
  | goto l => exact hk.elim

end Go.Av
