/-
  Functions, run abstractly, one within the other. Over every program.
-/
import Derived.Test.YtgaacnljcnibdaaAvX
set_option linter.unusedVariables false
set_option linter.unusedSimpArgs false
noncomputable section
namespace Go.Av

structure FnA where
  code : Code
  keep : List Nat
  n : Nat
  res : List ResultVar

abbrev FT := FuncId → Option FnA
def FT.ok (P : Program) (ft : FT) : Prop := ∀ f a, ft f = some a → ∃ fn, P.funcs[f]? = some fn ∧ fn.body = some a.code ∧ fn.ntmps = a.n ∧ fn.results.toList = a.res ∧ (fn.name == "runtime.NumGoroutine") = false

def resA (tt : TT) (s : St) : ResultVar → Option AVal
  | .tmp t => some (s.env.get t)
  | .cell a t => aload tt s.heap t (s.env.get a)
def resLA (tt : TT) (s : St) : List ResultVar → Option (List AVal)
  | [] => some []
  | r :: l => match resA tt s r, resLA tt s l with
    | some v, some vs => some (v :: vs)
    | _, _ => none
def resultsA (tt : TT) (s : St) (l : List ResultVar) : Option AVal :=
  match resLA tt s l with
  | some [v] => some v
  | some vs => some (.tup vs)
  | none => none

/-- What a result variable holds. -/
def resV (tmps : Array Value) : ResultVar → Sem Value
  | .tmp t => pure (tmps.getD t undef)
  | .cell a t => do loadVar t (← asAddr (tmps.getD a undef))

theorem resV_sound [Syms] {P : Program} {tt : TT} {N : Nat} {ι : Inj} {s : St} {a : Act} {w : World} (htt : TT.ok P tt) (hS : RelS N ι s a w) {r : ResultVar} {v : AVal} (h : resA tt s r = some v) :
    ∃ x, RelV ι v x ∧ (resV a.tmps r).run P w = .ok x w := by
  cases r with
  | tmp t =>
    simp only [resA, Option.some.injEq] at h
    subst h
    exact ⟨_, hS.env t, by simp [resV, Sem.run_pure]⟩
  | cell b t =>
    simp only [resA] at h
    obtain ⟨x, hx, hr⟩ := aload_sound htt hS.heap (hS.env b) h
    refine ⟨x, hr, ?_⟩
    have hp : ∃ A, a.tmps.getD b undef = .pointer (some A) := by
      have hv := hS.env b
      unfold aload at h
      split at h
      · rename_i n k j hp
        rw [hp] at hv
        obtain ⟨L, _, hL⟩ := hv.of_ptr
        exact ⟨_, hL⟩
      · rename_i row j hp
        rw [hp] at hv
        obtain ⟨g, b, cs, _, _, _, _, hL⟩ := hv.of_vp
        exact ⟨_, hL⟩
      · cases h
    obtain ⟨A, hL⟩ := hp
    simp only [resV]
    rw [hL] at hx ⊢
    simpa [Instr.loadAt, Instr.sureAddr, asAddr, Sem.run_bind, Sem.run_pure] using hx

theorem resLA_sound [Syms] {P : Program} {tt : TT} {N : Nat} {ι : Inj} {s : St} {a : Act} {w : World} (htt : TT.ok P tt) (hS : RelS N ι s a w) : ∀ {l : List ResultVar} {vs : List AVal}, resLA tt s l = some vs →
    ∃ rs : List Value, RelL ι vs rs ∧ (l.mapM (resV a.tmps)).run P w = .ok rs w
  | [], vs, h => by
    cases h
    exact ⟨[], .nil ι, by simp [Sem.run_pure]⟩
  | r :: l, vs, h => by
    simp only [resLA] at h
    split at h
    · rename_i v us h1 h2
      cases h
      obtain ⟨rs, e1, e2⟩ := resLA_sound htt hS h2
      obtain ⟨x, hx, hrun⟩ := resV_sound htt hS h1
      refine ⟨x :: rs, .cons hx e1, ?_⟩
      rw [List.mapM_cons]
      simp only [Sem.run_bind, hrun, e2, Result.andThen_ok, Sem.run_pure]
    · cases h

theorem resultsA_sound [Syms] {P : Program} {tt : TT} {N : Nat} {ι : Inj} {s : St} {a : Act} {w : World} {fn : Func} {v : AVal} (htt : TT.ok P tt) (hS : RelS N ι s a w) (h : resultsA tt s fn.results.toList = some v) :
    ∃ r, (results fn a.tmps).run P w = .ok r w ∧ RelV ι v r := by
  unfold resultsA at h
  have base : ∀ vs, resLA tt s fn.results.toList = some vs → ∃ rs : List Value, RelL ι vs rs ∧ (results fn a.tmps).run P w = .ok (if h : rs.toArray.size = 1 then rs.toArray[0] else .tuple rs.toArray) w := by
    intro vs hvs
    obtain ⟨rs, h1, h2⟩ := resLA_sound htt hS hvs
    refine ⟨rs, h1, ?_⟩
    have : results fn a.tmps = (do let vs ← fn.results.mapM (resV a.tmps); pure (if h : vs.size = 1 then vs[0] else .tuple vs)) := rfl
    rw [this, Array.mapM_eq_mapM_toList]
    simp only [map_eq_pure_bind, Sem.run_bind, h2, Result.andThen_ok, Sem.run_pure]
  split at h
  · rename_i x hx
    cases h
    obtain ⟨rs, h1, h2⟩ := base _ hx
    obtain ⟨r, rs', rfl, hr, hr'⟩ := h1.uncons
    rw [hr'.unnil] at h2
    exact ⟨r, by simpa using h2, hr⟩
  · rename_i vs hne hx
    cases h
    obtain ⟨rs, h1, h2⟩ := base _ hx
    refine ⟨_, h2, ?_⟩
    have hlen : ¬ rs.toArray.size = 1 := by
      intro hc
      have h1 := h1.1
      have hc : rs.length = 1 := by simpa using hc
      rw [hc] at h1
      obtain ⟨v, rfl⟩ := List.length_eq_one_iff.1 h1
      exact hne v rfl
    rw [dif_neg hlen]
    exact .mk_tup h1
  · cases h

def argEnv : Nat → List AVal → Env
  | _, [] => []
  | k, v :: l => (k, v) :: argEnv (k + 1) l
theorem argEnv_get [Syms] : ∀ {args : List AVal} {k j : Nat}, (argEnv k args).get j = if k ≤ j then args.getD (j - k) .any else .any
  | [], k, j => by simp [argEnv, Env.get_nil, Env.get_cons]
  | v :: l, k, j => by
    simp only [argEnv, Env.get_nil, Env.get_cons]
    by_cases h : j = k
    · subst h; simp [Nat.beq_refl]
    · rw [beq_ff h]
      simp only [cond_false, argEnv_get (args := l)]
      by_cases hk : k ≤ j
      · rw [if_pos (by omega), if_pos hk, show j - k = (j - (k + 1)) + 1 by omega]
        simp
      · rw [if_neg (by omega), if_neg hk]

def fnRun (ft : FT) (tt : TT) : Nat → CallF
  | 0, _, _, _, _ => none
  | fuel + 1, f, args, H, nx =>
    match ft f with
    | some fa =>
      match codeRun (fnRun ft tt fuel) tt fa.n fa.keep (fuel + 1) none fa.code ⟨argEnv 0 args, H, nx⟩ with
      | some (.normal, s) | some (.ret, s) => match resultsA tt s fa.res with
        | some v => some (v, s.heap, s.nx)
        | none => none
      | _ => none
    | none => none

theorem calls_of_run [Syms] {P : Program} {ft : FT} {tt : TT} {call : CallF} {g : Nat} {f : FuncId} {fa : FnA} {args : List AVal} {H : Heap} {nx : Nat} {e : Ex} {s : St} {v : AVal} (htt : TT.ok P tt) (hft : FT.ok P ft) (hcall : call.ok P) (hm : P.follows .mixedOrders = true)
    (hf : ft f = some fa) (hrun : codeRun call tt fa.n fa.keep g none fa.code ⟨argEnv 0 args, H, nx⟩ = some (e, s)) (he : e = .normal ∨ e = .ret) (hv : resultsA tt s fa.res = some v) : ACalls P f args H nx v s.heap s.nx := by
  intro ι w vs ha hH hb
  obtain ⟨fn, h1, h2, h3, h4, h5⟩ := hft f fa hf
  have hlen := ha.1
  refine calls_of_wp h1 h2 ?_
  have hS : RelS fa.n ι ⟨argEnv 0 args, H, nx⟩ { tmps := ⟨vs⟩ ++ Array.replicate (fn.ntmps - (⟨vs⟩ : Array Value).size) undef, defers := [] } w := by
    refine ⟨rfl, ?_, fun k => ?_, hH, hb⟩
    · simp [h3]; omega
    · rw [argEnv_get]
      simp only [Nat.zero_le, if_true, Nat.sub_zero]
      rcases Nat.lt_or_ge k args.length with hk | hk
      · have e1 : args.getD k .any = args[k] := by simp [hk]
        have hk' : k < vs.length := by omega
        rw [e1]
        have := ha.2 k _ _ (by simp [hk] : args[k]? = some args[k]) (by simp [hk'] : vs[k]? = some vs[k])
        simpa [Array.getElem?_append, hk'] using this
      · have e1 : args.getD k .any = .any := by simp [hk]
        rw [e1]
        exact .any _
  refine (codeRun_sound htt hcall hm g none fa.code _ e s hrun (bodyPost P fn _) ι _ w hS (fun κ a' w' hS' hst => ?_)).1
  rw [← h4] at hv
  obtain ⟨r, hr, hrv⟩ := resultsA_sound htt hS' hv
  rcases he with rfl | rfl
  · exact ⟨hS'.defers, r, hr, r, κ, rfl, hrv, hS'.heap, hst, hS'.bound⟩
  · exact ⟨hS'.defers, r, hr, r, κ, rfl, hrv, hS'.heap, hst, hS'.bound⟩

theorem FT.ok.fnOk {P : Program} {ft : FT} (h : FT.ok P ft) {f : FuncId} {fa : FnA} (hf : ft f = some fa) : FnOk P f := by
  obtain ⟨fn, h1, h2, h3, h4, h5⟩ := h f fa hf
  exact ⟨fn, h1, h5, by simp [h2]⟩

theorem fnRun_ok [Syms] {P : Program} {ft : FT} {tt : TT} (htt : TT.ok P tt) (hft : FT.ok P ft) (hm : P.follows .mixedOrders = true) : ∀ fuel, CallF.ok P (fnRun ft tt fuel)
  | 0 => fun f args H nx v H' nx' h => by simp [fnRun] at h
  | fuel + 1 => fun f args H nx v H' nx' h => by
    have ih := fnRun_ok htt hft hm fuel
    simp only [fnRun] at h
    split at h
    rotate_left
    · cases h
    rename_i fa hf
    refine ⟨hft.fnOk hf, ?_⟩
    split at h
    · rename_i s hs
      split at h
      · rename_i v' hv
        cases h
        exact calls_of_run htt hft ih hm hf hs (.inl rfl) hv
      · cases h
    · rename_i s hs
      split at h
      · rename_i v' hv
        cases h
        exact calls_of_run htt hft ih hm hf hs (.inr rfl) hv
      · cases h
    · cases h

end Go.Av
