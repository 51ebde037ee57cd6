/-
  Tables, and contracts that are given. Over every program.
-/
import Derived.Test.YtgaacnljcnibdaaAvY
import Derived.KernelRfl
set_option linter.unusedVariables false
set_option linter.unusedSimpArgs false
noncomputable section
namespace Go.Av

inductive Tr (α : Type) where
  | nil
  | node (l : Tr α) (k : Nat) (v : α) (r : Tr α)
def Tr.find {α : Type} (x : Tr α) (t : Nat) : Option α := @Tr.rec α (fun _ => Option α) none (fun _ k v _ a b => @Bool.rec (fun _ => Option α) (@Bool.rec (fun _ => Option α) b a (Nat.blt t k)) (some v) (Nat.beq t k)) x
theorem Tr.find_node {α : Type} (l : Tr α) (k : Nat) (v : α) (r : Tr α) (t : Nat) : (Tr.node l k v r).find t = bif Nat.beq t k then some v else bif Nat.blt t k then l.find t else r.find t := by
  show @Bool.rec (fun _ => Option α) (@Bool.rec (fun _ => Option α) (r.find t) (l.find t) (Nat.blt t k)) (some v) (Nat.beq t k) = _
  cases Nat.beq t k <;> cases Nat.blt t k <;> rfl
def Tr.all {α : Type} (p : Nat → α → Bool) : Tr α → Bool
  | .nil => true
  | .node l k v r => p k v && l.all p && r.all p
def Tr.All {α : Type} (p : Nat → α → Prop) : Tr α → Prop
  | .nil => True
  | .node l k v r => p k v ∧ l.All p ∧ r.All p
theorem Tr.find_All [Syms] {α : Type} {p : Nat → α → Prop} : ∀ {t : Tr α} {n : Nat} {v : α}, t.All p → t.find n = some v → p n v
  | .nil, n, v, _, h => by cases h
  | .node l k u r, n, v, ha, h => by
    simp only [Tr.find_node] at h
    cases hb : Nat.beq n k with
    | true =>
      rw [hb] at h
      simp only [cond_true, Option.some.injEq] at h
      subst h
      rw [Nat.eq_of_beq_eq_true hb]
      exact ha.1
    | false =>
      rw [hb] at h
      simp only [cond_false] at h
      cases hc : Nat.blt n k with
      | true => rw [hc] at h; exact Tr.find_All ha.2.1 h
      | false => rw [hc] at h; exact Tr.find_All ha.2.2 h
theorem Tr.find_all [Syms] {α : Type} {p : Nat → α → Bool} : ∀ {t : Tr α} {n : Nat} {v : α}, t.all p = true → t.find n = some v → p n v = true
  | .nil, n, v, _, h => by cases h
  | .node l k u r, n, v, ha, h => by
    simp only [Tr.all, Bool.and_eq_true] at ha
    simp only [Tr.find_node] at h
    cases hb : Nat.beq n k with
    | true =>
      rw [hb] at h
      simp only [cond_true, Option.some.injEq] at h
      subst h
      rw [Nat.eq_of_beq_eq_true hb]
      exact ha.1.1
    | false =>
      rw [hb] at h
      simp only [cond_false] at h
      cases hc : Nat.blt n k with
      | true => rw [hc] at h; exact Tr.find_all ha.1.2 h
      | false => rw [hc] at h; exact Tr.find_all ha.2 h

def tyTab (t : Tr Ty) : TT := fun n => t.find n
theorem tyTab_ok [Syms] {P : Program} {t : Tr Ty} (h : t.all (tyFits P) = true) : TT.ok P (tyTab t) := fun _ _ hf => Tr.find_all h hf

def mkFn (p : Func × List Nat) : FnA := ⟨p.1.body.getD .skip, p.2, p.1.ntmps, p.1.results.toList⟩
def fnTab (t : Tr (Func × List Nat)) : FT := fun n => match t.find n with | some p => some (mkFn p) | none => none
def FnFits (P : Program) (n : Nat) (p : Func × List Nat) : Prop := P.funcs[n]? = some p.1 ∧ p.1.body.isSome = true ∧ (p.1.name == "runtime.NumGoroutine") = false
theorem fnTab_ok [Syms] {P : Program} {t : Tr (Func × List Nat)} (h : t.All (FnFits P)) : FT.ok P (fnTab t) := by
  intro f a hf
  unfold fnTab at hf
  split at hf
  · rename_i p hp
    cases hf
    obtain ⟨h1, h2, h3⟩ := Tr.find_All h hp
    obtain ⟨c, hc⟩ := Option.isSome_iff_exists.1 h2
    exact ⟨p.1, h1, by simp [mkFn, hc], rfl, rfl, h3⟩
  · cases hf

/-- The first that answers. -/
def orCall (c d : CallF) : CallF := fun f args H nx => match c f args H nx with
  | some r => some r
  | none => d f args H nx
theorem orCall_ok [Syms] {P : Program} {c d : CallF} (h : c.ok P) (k : d.ok P) : (orCall c d).ok P := by
  intro f args H nx v H' nx' hr
  unfold orCall at hr
  split at hr
  · rename_i r h1
    cases hr
    exact h _ _ _ _ _ _ _ h1
  · exact k _ _ _ _ _ _ _ hr

/-- A function's body, run; the calls in it given. -/
def fnBody (call : CallF) (ft : FT) (tt : TT) (fuel : Nat) : CallF := fun f args H nx =>
  match ft f with
  | some fa =>
    match codeRun call tt fa.n fa.keep fuel none fa.code ⟨argEnv 0 args, H, nx⟩ with
    | some (.normal, s) | some (.ret, s) => match resultsA tt s fa.res with
      | some v => some (v, s.heap, s.nx)
      | none => none
    | _ => none
  | none => none
theorem fnBody_ok [Syms] {P : Program} {call : CallF} {ft : FT} {tt : TT} {fuel : Nat} (hcall : call.ok P) (htt : TT.ok P tt) (hft : FT.ok P ft) (hm : P.follows .mixedOrders = true) : (fnBody call ft tt fuel).ok P := by
  intro f args H nx v H' nx' h
  simp only [fnBody] at h
  split at h
  rotate_left
  · cases h
  rename_i fa hf
  refine ⟨hft.fnOk hf, ?_⟩
  split at h
  · rename_i s hs
    split at h
    · rename_i v' hv
      cases h
      exact calls_of_run htt hft hcall hm hf hs (.inl rfl) hv
    · cases h
  · rename_i s hs
    split at h
    · rename_i v' hv
      cases h
      exact calls_of_run htt hft hcall hm hf hs (.inr rfl) hv
    · cases h
  · cases h

/-- A value without addresses. -/
def AVal.closed1 : AVal → Bool
  | .bool _ | .int _ _ | .str _ | .nilp | .nils | .nilf | .nili | .sym _ => true
  | _ => false
def AVal.closed : AVal → Bool
  | .agg cs | .tup cs => cs.all AVal.closed1
  | v => v.closed1
theorem RelV.closed1 [Syms] {ι κ : Inj} {x : AVal} {v : Value} (hx : x.closed1 = true) (h : RelV κ x v) : RelV ι x v := by
  cases h <;> simp [AVal.closed1] at hx <;> constructor
theorem RelL.closed1 [Syms] {ι κ : Inj} {xs : List AVal} {vs : List Value} (hx : xs.all AVal.closed1 = true) (h : RelL κ xs vs) : RelL ι xs vs :=
  ⟨h.1, fun i c v h1 h2 => (h.2 i c v h1 h2).closed1 (List.all_eq_true.1 hx c (List.mem_of_getElem? h1))⟩
theorem RelV.closed [Syms] {ι κ : Inj} {x : AVal} {v : Value} (hx : x.closed = true) (h : RelV κ x v) : RelV ι x v := by
  cases x with
  | agg cs =>
    obtain ⟨vs, rfl, hl⟩ := h.of_agg
    exact .mk_agg (hl.closed1 hx)
  | tup cs =>
    obtain ⟨vs, rfl, hl⟩ := h.of_tup
    exact .mk_tup (hl.closed1 hx)
  | _ => exact h.closed1 hx

/-- A call that only reads what is there, and answers a value without addresses: behind it all is as it was. -/
theorem acalls_pure [Syms] {P : Program} {f : FuncId} {args : List AVal} {H : Heap} {nx : Nat} {v : AVal} {H' : Heap} {nx' : Nat} (h : ACalls P f args (roAll H) nx v H' nx') (hv : v.closed = true) : ACalls P f args H nx v H nx := by
  intro ι w vs ha hH hb
  have hro : RelH ι (roAll H) w := by
    refine ⟨fun m b hb => ?_, fun m m' b b' L L' h1 h2 _ _ _ => .inr ?_, fun g cs hg => ⟨(hH.fz g cs hg).1, not_own_ro⟩⟩
    · obtain ⟨rows, ro, hb1, rfl⟩ := roAll_some hb
      obtain ⟨L, hL, hB⟩ := hH.blk m _ hb1
      obtain ⟨cs, e, fz, h1, h2, h3, h4, h5⟩ := hB.rows
      exact ⟨L, hL, RelB.mk h1 h2 h3 h4 (fun h => by cases h)⟩
    · obtain ⟨_, _, _, rfl⟩ := roAll_some h1
      obtain ⟨_, _, _, rfl⟩ := roAll_some h2
      exact ⟨rfl, rfl⟩
  refine (h ι w vs ha hro hb).mono ?_
  rintro e w' ⟨r, κ, rfl, hr, _, hst, _⟩
  have hno : ∀ g, ¬ Own ι (roAll H) g := by
    rintro g ⟨n, b, L, h1, h2, _⟩
    obtain ⟨_, _, _, rfl⟩ := roAll_some h1
    cases h2
  have same : ∀ g, g < w.heap.size → w'.heap[g]? = w.heap[g]? := fun g hg => hst.st.same g hg (hno g)
  have stp : Step ι H w ι H w' := ⟨Inj.le_refl ι, hst.st.os, hst.st.tape, hst.st.output, hst.st.size, fun g hg _ => same g hg, fun g hg => .inl hg, fun _ _ h => .inl h⟩
  refine ⟨r, ι, rfl, hr.closed hv, ⟨fun n b hn => ?_, hH.inj, hH.fz_keep stp rfl⟩, ⟨stp, Nat.le_refl _, fun n L hn => .inl hn⟩, fun n L hn => ⟨(hb n L hn).1, Nat.lt_of_lt_of_le (hb n L hn).2 hst.st.size⟩⟩
  obtain ⟨L, hL, hB⟩ := hH.blk n b hn
  exact ⟨L, hL, hB.keep (Inj.le_refl ι) (same _ (hb n L hL).2)⟩

def pureCall (c : CallF) : CallF := fun f args H nx => match c f args (roAll H) nx with
  | some (v, _, _) => if v.closed then some (v, H, nx) else none
  | none => none
theorem pureCall_ok [Syms] {P : Program} {c : CallF} (h : c.ok P) : (pureCall c).ok P := by
  intro f args H nx v H' nx' hr
  unfold pureCall at hr
  split at hr
  · rename_i u H1 nx1 h1
    split at hr
    · rename_i hc
      cases hr
      obtain ⟨g1, g2⟩ := h _ _ _ _ _ _ _ h1
      exact ⟨g1, acalls_pure g2 hc⟩
    · cases hr
  · cases hr

def selCall (p : FuncId → Bool) (c d : CallF) : CallF := fun f args H nx => @Bool.rec (fun _ => Option (AVal × Heap × Nat)) (d f args H nx) (c f args H nx) (p f)
theorem selCall_ok [Syms] {P : Program} {p : FuncId → Bool} {c d : CallF} (h : c.ok P) (k : d.ok P) : (selCall p c d).ok P := by
  intro f args H nx v H' nx' hr
  unfold selCall at hr
  cases hp : p f with
  | true => rw [hp] at hr; exact h _ _ _ _ _ _ _ hr
  | false => rw [hp] at hr; exact k _ _ _ _ _ _ _ hr

/-- A function run with contracts ahead of it; some functions only read. -/
def fnRunC (con : CallF) (pu : FuncId → Bool) (ft : FT) (tt : TT) (fuel : Nat) : CallF :=
  @Nat.rec (fun _ => CallF) con (fun n ih => orCall con (selCall pu (pureCall (fnBody ih ft tt (n + 1))) (fnBody ih ft tt (n + 1)))) fuel
theorem fnRunC_ok [Syms] {P : Program} {con : CallF} {pu : FuncId → Bool} {ft : FT} {tt : TT} (hcon : con.ok P) (htt : TT.ok P tt) (hft : FT.ok P ft) (hm : P.follows .mixedOrders = true) : ∀ fuel, CallF.ok P (fnRunC con pu ft tt fuel)
  | 0 => hcon
  | fuel + 1 => by
    have ih := fnRunC_ok (pu := pu) hcon htt hft hm fuel
    exact orCall_ok hcon (selCall_ok (pureCall_ok (fnBody_ok ih htt hft hm)) (fnBody_ok ih htt hft hm))

/-- f0 of given value m and of number n answers r. -/
def symCon (f0 : FuncId) (m : Nat) (n r : Int) : CallF := fun f args H nx => bif Nat.beq f f0 then
    match args with
    | [.sym j, .int .i64 q] => if Nat.beq j m = true ∧ q = n then some (.int .i64 r, H, nx) else none
    | _ => none
  else none
theorem symCon_ok [Syms] {P : Program} {f0 : FuncId} {m : Nat} {n r : Int} (hf : FnOk P f0) (hc : ∀ w, Calls P f0 #[Syms.val m, .int .i64 n] w fun e w' => e = .returned (.int .i64 r) ∧ w' = w) : (symCon f0 m n r).ok P := by
  intro f args H nx v H' nx' h
  unfold symCon at h
  cases hb : Nat.beq f f0 with
  | false => rw [hb] at h; cases h
  | true =>
    rw [hb] at h
    obtain rfl := Nat.eq_of_beq_eq_true hb
    simp only [cond_true] at h
    split at h
    · rename_i j q
      split at h
      · rename_i hj
        cases h
        obtain ⟨h1, h2⟩ := hj
        obtain rfl := Nat.eq_of_beq_eq_true h1
        subst h2
        refine ⟨hf, fun ι w vs ha hH hbd => ?_⟩
        obtain ⟨v0, vs0, rfl, hv0, ha⟩ := ha.uncons
        obtain ⟨v1, vs1, rfl, hv1, ha⟩ := ha.uncons
        obtain rfl := ha.unnil
        obtain rfl := hv1.of_int
        have hv0' : v0 = Syms.val j := by cases hv0; rfl
        subst hv0'
        refine (hc w).mono ?_
        rintro e w' ⟨rfl, rfl⟩
        exact ⟨_, ι, rfl, .int _ _, hH, StepN.refl .., hbd⟩
      · cases h
    · cases h

end Go.Av
