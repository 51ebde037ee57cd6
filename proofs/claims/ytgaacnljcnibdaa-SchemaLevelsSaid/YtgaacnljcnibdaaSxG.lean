/-
  What a function leaves: memory that is written no more; calls whose arguments and answers have no addresses; calls run in place. Over every program.
-/
import Derived.Test.YtgaacnljcnibdaaSxF
set_option linter.unusedVariables false
set_option linter.unusedSimpArgs false
noncomputable section
namespace Go.Av

/-- Blocks forgotten. -/
theorem reb_less [Syms] {na N : Nat} {e : Env} {H H' : Heap} {nx : Nat} (hs : H'.sub H) : Reb na N ⟨e, H, nx⟩ ⟨e, H', nx⟩ :=
  ⟨fun h => h, fun ι a w h => ⟨ι, ⟨h.defers, h.size, h.env, h.heap.sub hs, h.bound⟩, ⟨fun _ _ _ h => h, fun _ _ h => h, rfl, rfl, rfl, Nat.le_refl _, fun _ _ _ => rfl, fun g hg => .inl (hg.sub hs), fun _ _ h => .inl h, fun _ _ _ h => h⟩⟩⟩
theorem reb_forget [Syms] {na N : Nat} {e : Env} {H : Heap} {nx : Nat} : Reb na N ⟨e, H, nx⟩ ⟨e, [], nx⟩ := reb_less fun n b h => by rw [Heap.get_nil] at h; cases h

/-- Some slots alone. -/
theorem reb_cut [Syms] {na N : Nat} {e : Env} {H : Heap} {nx : Nat} (l : List Nat) : Reb na N ⟨e, H, nx⟩ ⟨prune l e, H, nx⟩ :=
  ⟨fun h => h, fun ι a w h => ⟨ι, h.prune l, .refl ..⟩⟩
/-- What is known of an empty slice: that it is empty. -/
def AVal.isZ (sz : Nat) : AVal → Bool
  | .nils => true
  | .slice _ _ len sz' cap => Nat.beq len 0
  | .zs _ => true
  | _ => false
theorem RelV.isZ [Syms] {ι κ : Inj} {sz : Nat} {x : AVal} {v : Value} (hx : x.isZ sz = true) (h : RelV ι x v) : RelV κ (.vs sz []) v := by
  cases h with
  | nils => exact .vz _ _ _ (Nat.zero_le _) (fun _ => rfl)
  | slice n off len sz cap L a c h hs ha hl hp hm hc =>
    have : len = 0 := Nat.eq_of_beq_eq_true hx
    subst this
    exact .vz _ _ _ hm (fun h => nomatch h)
  | zs sz a => exact .vz _ _ _ (Nat.zero_le _) (fun _ => rfl)
  | _ => cases hx
/-- A slot's value seen otherwise. -/
theorem reb_slot [Syms] {na N : Nat} {e : Env} {H : Heap} {nx k : Nat} {y : AVal} (h : ∀ (ι : Inj) (v : Value), RelV ι (e.get k) v → RelV ι y v) : Reb na N ⟨e, H, nx⟩ ⟨(k, y) :: e, H, nx⟩ :=
  ⟨fun h => h, fun ι a w hS => ⟨ι, ⟨hS.defers, hS.size, fun j => by
    show RelV ι (Env.get ((k, y) :: e) j) _
    rw [Env.get_cons]
    by_cases hj : j = k
    · subst hj; rw [Nat.beq_refl]; exact h ι _ (hS.env j)
    · rw [beq_ff hj]; exact hS.env j, hS.heap, hS.bound⟩, .refl ..⟩⟩
theorem reb_zero [Syms] {na N : Nat} {e : Env} {H : Heap} {nx k : Nat} (sz : Nat) (h : (e.get k).isZ sz = true) : Reb na N ⟨e, H, nx⟩ ⟨(k, .vs sz []) :: e, H, nx⟩ := reb_slot fun _ _ hv => hv.isZ h
theorem fzEnv_self (e : Env) (n : Nat) (rows : List (List AVal)) : ∀ l : Env, (∀ p ∈ l, e.get p.1 = p.2) → FzEnv e n rows l
  | [], _ => trivial
  | p :: t, h => ⟨.inl (h p (List.mem_cons_self ..)), fzEnv_self e n rows t fun q hq => h q (List.mem_cons_of_mem _ hq)⟩
/-- A slice of the function's own is written no more; all other memory is forgotten. -/
theorem reb_frozen [Syms] {na N : Nat} {e : Env} {H : Heap} {nx k n off len sz : Nat} {cap : Option Nat} {rows : List (List AVal)} (hk : e.get k = .slice n off len sz cap) (hb : H.get n = some (.cells rows false)) (hol : off + len ≤ rows.length)
    (hf : ∀ r ∈ rows, ∀ x ∈ r, x.flat = true) : Reb na N ⟨e, H, nx⟩ ⟨[(k, .vs sz ((rows.drop off).take len))], [], nx⟩ := by
  by_cases h0 : len = 0
  · subst h0
    refine (reb_zero sz (k := k) (by rw [hk]; rfl)).trans ((reb_forget).trans ⟨fun h => h, fun ι a w hS => ⟨ι, ⟨hS.defers, hS.size, fun j => ?_, hS.heap, hS.bound⟩, .refl ..⟩⟩)
    rw [Env.get_cons]
    by_cases hj : j = k
    · subst hj
      have := hS.env j
      simp only [Env.get_cons, Nat.beq_refl, cond_true] at this ⊢
      simpa using this
    · rw [beq_ff hj]; exact .any _
  · refine (reb_freeze (e3 := [(k, .vs sz ((rows.drop off).take len))]) hb hf ⟨.inr ⟨off, len, sz, cap, hk, by omega, hol, rfl⟩, trivial⟩).trans reb_forget

/-- A list laid out by an encoding, as a table. -/
abbrev vT {α : Type} (sz : Nat) (enc : α → List AVal) (d : α) (l : List α) : AVal := .vt sz l.length fun i => enc (l.getD i d)
theorem tabR_map {α : Type} (enc : α → List AVal) (d : α) (l : List α) : (tabR l.length fun i => enc (l.getD i d)) = l.map enc := by
  apply List.ext_getElem?
  intro i
  unfold tabR
  by_cases h : i < l.length
  · simp [h]
  · simp [h]
theorem reb_tab [Syms] {na N : Nat} {e : Env} {H : Heap} {nx k sz n : Nat} {f : Nat → List AVal} {rows : List (List AVal)} (hk : e.get k = .vs sz rows) (h : rows = tabR n f) : Reb na N ⟨e, H, nx⟩ ⟨(k, .vt sz n f) :: e, H, nx⟩ :=
  reb_slot fun ι v hv => by rw [hk, h] at hv; exact .vt _ _ _ _ hv
theorem reb_one [Syms] {na N : Nat} {e : Env} {H : Heap} {nx k : Nat} {v : AVal} (h : e.get k = v) : Reb na N ⟨e, H, nx⟩ ⟨[(k, v)], H, nx⟩ :=
  ⟨fun h => h, fun ι a w hS => ⟨ι, ⟨hS.defers, hS.size, fun j => by
    show RelV ι (Env.get [(k, v)] j) _
    rw [Env.get_cons]
    by_cases hj : j = k
    · subst hj; rw [Nat.beq_refl, ← h]; exact hS.env j
    · rw [beq_ff hj]; exact .any _, hS.heap, hS.bound⟩, .refl ..⟩⟩
/-- A slice of the function's own, that is written no more, as a table. -/
theorem reb_own [Syms] {α : Type} {enc : α → List AVal} (d : α) {l : List α} {na N : Nat} {e : Env} {H : Heap} {nx k n len sz : Nat} {cap : Option Nat} {rows : List (List AVal)} (hk : e.get k = .slice n 0 len sz cap) (hb : H.get n = some (.cells rows false)) (hf : ∀ r ∈ rows, ∀ x ∈ r, x.flat = true)
    (hl : rows.take len = l.map enc) (hle : len ≤ rows.length) : Reb na N ⟨e, H, nx⟩ ⟨[(k, vT sz enc d l)], [], nx⟩ := by
  refine (reb_frozen (sz := sz) hk hb (by omega) hf).trans ((reb_tab (k := k) (sz := sz) (rows := (rows.drop 0).take len) (n := l.length) (f := fun i => enc (l.getD i d)) ?_ ?_).trans (reb_one ?_))
  · rw [Env.get_cons, Nat.beq_refl]; rfl
  · rw [tabR_map, List.drop_zero]; exact hl
  · rw [Env.get_cons, Nat.beq_refl]; rfl
/-- No slice at all, as a table. -/
theorem reb_nil [Syms] {α : Type} (sz : Nat) (enc : α → List AVal) (d : α) {na N : Nat} {e : Env} {H : Heap} {nx k : Nat} (hk : (e.get k).isZ sz = true) : Reb na N ⟨e, H, nx⟩ ⟨[(k, vT sz enc d [])], [], nx⟩ := by
  refine (reb_slot (y := vT sz enc d []) fun ι v hv => .vt _ _ _ _ (hv.isZ hk)).trans (reb_forget.trans (reb_one ?_))
  rw [Env.get_cons, Nat.beq_refl]; rfl

/-- Values without addresses: also several at once. -/
def AVal.imm : AVal → Bool
  | .agg cs | .tup cs => cs.all AVal.flat
  | v => v.flat
theorem RelV.imm [Syms] {ι κ : Inj} (hz : ∀ g cs, ι.fz g = some cs → κ.fz g = some cs) {x : AVal} {v : Value} (hx : x.imm = true) (h : RelV ι x v) : RelV κ.bare x v := by
  cases x with
  | agg cs =>
    obtain ⟨vs, rfl, hl⟩ := h.of_agg
    exact .mk_agg ⟨hl.1, fun i c v h1 h2 => (hl.2 i c v h1 h2).flat hz (List.all_eq_true.1 hx c (List.mem_of_getElem? h1))⟩
  | tup cs =>
    obtain ⟨vs, rfl, hl⟩ := h.of_tup
    exact .mk_tup ⟨hl.1, fun i c v h1 h2 => (hl.2 i c v h1 h2).flat hz (List.all_eq_true.1 hx c (List.mem_of_getElem? h1))⟩
  | _ => exact h.flat hz hx
/-- Slots without addresses alone; no memory. -/
theorem reb_flat [Syms] {na N : Nat} {e : Env} {H : Heap} {nx : Nat} (l : List Nat) (h : ((prune l e).all fun p => p.2.imm) = true) : Reb na N ⟨e, H, nx⟩ ⟨prune l e, [], na⟩ := by
  refine ⟨fun _ => Nat.le_refl _, fun ι a w hS => ⟨⟨fun n => if n < na then ι n else none, ι.fz⟩, ⟨hS.defers, hS.size, fun k => ?_, ⟨fun n b hb => (by rw [Heap.get_nil] at hb; cases hb), fun n m b c L M hb => (by rw [Heap.get_nil] at hb; cases hb), fun g cs hg => ⟨(hS.heap.fz g cs hg).1, fun ⟨n, b, L, h1, _⟩ => by rw [Heap.get_nil] at h1; cases h1⟩⟩, fun n L hn => ?_⟩,
    ⟨fun n L hn hL => ?_, fun _ _ h => h, rfl, rfl, rfl, Nat.le_refl _, fun _ _ _ => rfl, fun g ⟨n, b, L, h1, _⟩ => (by rw [Heap.get_nil] at h1; cases h1), fun g cs hg => .inl hg, fun n L hn hL => ?_⟩⟩⟩
  · have hv := (hS.prune l).env k
    have key : ∀ (e' : Env), (e'.all fun p => p.2.imm) = true → ∀ v, RelV ι (e'.get k) v → RelV (⟨fun n => if n < na then ι n else none, ι.fz⟩ : Inj) (e'.get k) v := by
      intro e' he v hv
      induction e' with
      | nil => rw [Env.get_nil]; exact .any _
      | cons p t ih =>
        obtain ⟨j, y⟩ := p
        simp only [List.all_cons, Bool.and_eq_true] at he
        rw [Env.get_cons] at hv ⊢
        by_cases hj : k = j
        · subst hj
          rw [Nat.beq_refl] at hv ⊢
          exact RelV.mono (ι := ι.bare) (κ := ⟨fun n => if n < na then ι n else none, ι.fz⟩) ⟨fun _ _ h => (nomatch h), fun _ _ h => h⟩ (RelV.imm (κ := ι) (fun _ _ h => h) he.1 hv)
        · rw [beq_ff hj] at hv ⊢
          exact ih he.2 hv
    exact key _ h _ hv
  · have hn : (if n < na then ι n else none) = some L := hn
    by_cases hlt : n < na
    · rw [if_pos hlt] at hn
      exact ⟨hlt, (hS.bound n L hn).2⟩
    · rw [if_neg hlt] at hn; cases hn
  · show (if n < na then ι n else none) = some L
    rw [if_pos hn]; exact hL
  · have hL : (if n < na then ι n else none) = some L := hL
    rwa [if_pos hn] at hL
def immAll : List AVal → Bool
  | [] => true
  | x :: l => x.imm && immAll l
theorem RelL.imm [Syms] {ι : Inj} : ∀ {xs : List AVal} {vs : List Value}, immAll xs = true → RelL ι xs vs → RelL ι.bare xs vs
  | [], vs, _, h => by rw [h.unnil]; exact .nil _
  | x :: xs, vs, hx, h => by
    simp only [immAll, Bool.and_eq_true] at hx
    obtain ⟨v, vs', rfl, h1, h2⟩ := h.uncons
    exact .cons (h1.imm (fun _ _ h => h) hx.1) (RelL.imm hx.2 h2)

/-- What a function answers, its arguments and its answer being without addresses. -/
abbrev SpecI := List AVal → (AVal → Prop) → Prop
def ImmOk [Syms] (P : Program) (f : FuncId) (S : SpecI) : Prop := ∀ args K, S args K → immAll args = true ∧ ∃ v, v.imm = true ∧ K v ∧ FnSem P f args [] 0 fun v' H' _ => v' = v ∧ H' = []
theorem imm_call [Syms] {P : Program} {f : FuncId} {args : List AVal} {v : AVal} (ha : immAll args = true) (hv : v.imm = true) (h : FnSem P f args [] 0 fun v' H' _ => v' = v ∧ H' = []) (H : Heap) (nx : Nat) : ACalls P f args H nx v H nx := by
  intro ι w vs hvs hH hb
  have h0 : RelH ι.bare [] w := ⟨fun n b hb => (by rw [Heap.get_nil] at hb; cases hb), fun n m b c L M hb => (by rw [Heap.get_nil] at hb; cases hb), fun g cs hg => ⟨(hH.fz g cs hg).1, fun ⟨n, b, L, h1, _⟩ => by rw [Heap.get_nil] at h1; cases h1⟩⟩
  refine (h.2 ι.bare w vs (hvs.imm ha) h0 (fun n L hn => nomatch hn)).mono ?_
  rintro e w' ⟨v', H', nx', r, κ, ⟨rfl, rfl⟩, rfl, hr, hH', hst, _⟩
  have same : ∀ g, g < w.heap.size → w'.heap[g]? = w.heap[g]? := fun g hg => hst.same g hg fun ⟨n, b, L, h1, _⟩ => by rw [Heap.get_nil] at h1; cases h1
  have noOwn : ∀ g, ¬ Own ι.bare [] g := fun g ⟨n, b, L, h1, _⟩ => by rw [Heap.get_nil] at h1; cases h1
  let μ : Inj := ⟨ι.loc, κ.fz⟩
  have hle : ι.le μ := ⟨fun _ _ h => h, fun g cs hg => hst.fzle g cs hg⟩
  refine ⟨r, μ, rfl, RelV.mono (ι := μ.bare) (Inj.bare_le μ) (hr.imm (κ := κ) (fun _ _ h => h) hv), ⟨fun n b hn => ?_, hH.inj, fun g cs hg => ⟨(hH'.fz g cs hg).1, fun ho => ?_⟩⟩, ⟨⟨hle, hst.os, hst.tape, hst.output, hst.size, fun g hg _ => same g hg, fun g hg => .inl hg, fun g cs hg => ?_⟩, Nat.le_refl _, fun n L hn => .inl hn⟩, fun n L hn => ⟨(hb n L hn).1, Nat.lt_of_lt_of_le (hb n L hn).2 hst.size⟩⟩
  · obtain ⟨L, h1, h2⟩ := hH.blk n b hn
    exact ⟨L, h1, h2.keep hle (same _ (hb n L h1).2)⟩
  · obtain ⟨n, b, L, h1, h2, h3, h4⟩ := ho
    rcases hst.fzs g cs hg with h | h | h
    · exact (hH.fz g cs h).2 ⟨n, b, L, h1, h2, h3, h4⟩
    · have := (hb n L h3).2; omega
    · exact noOwn g h
  · rcases hst.fzs g cs hg with h | h | h
    · exact .inl h
    · exact .inr (.inl h)
    · exact absurd h (noOwn g)
def immT (S : SpecI) : CallT := fun _ args H nx K => S args fun v => K v H nx
theorem pickT_imm [Syms] {P : Program} {n : Nat} {S : SpecI} {d : CallT} (hS : ImmOk P n S) (hd : d.det P) : (pickT n (immT S) d).det P := by
  intro f args H nx K h
  unfold pickT at h
  cases hf : Nat.beq f n with
  | true =>
    rw [hf] at h
    have := Nat.eq_of_beq_eq_true hf
    subst this
    obtain ⟨h1, v, h2, h3, h4⟩ := hS args _ h
    exact ⟨v, H, nx, h4.1, imm_call h1 h2 h4 H nx, h3⟩
  | false => rw [hf] at h; exact hd f args H nx K h
theorem pickT_imm_ok [Syms] {P : Program} {n : Nat} {S : SpecI} {d : CallT} (hS : ImmOk P n S) (hd : d.ok P) : (pickT n (immT S) d).ok P := by
  intro f args H nx K h
  unfold pickT at h
  cases hf : Nat.beq f n with
  | true =>
    rw [hf] at h
    have hd' : (pickT f (immT S) noneT).det P := pickT_imm (Nat.eq_of_beq_eq_true hf ▸ hS) noneT_det
    refine hd'.ok f args H nx K ?_
    unfold pickT
    rw [Nat.beq_refl]
    exact h
  | false => rw [hf] at h; exact hd f args H nx K h

/-- A call, run in its place. -/
def bodyT [Syms] (c ci : CallT) (ft : FT) (tt : TT) (pls : Nat → Nat → Pl) (fuel : Nat) : CallT := fun f args H nx K => fnT c ci ft tt pls fuel f args H nx K
theorem bodyT_ok [Syms] {P : Program} {c ci : CallT} {ft : FT} {tt : TT} {pls : Nat → Nat → Pl} {fuel : Nat} (htt : TT.ok P tt) (hft : FT.ok P ft) (hc : c.det P) (hci : ci.ok P) (hm : P.follows .mixedOrders = true) : (bodyT c ci ft tt pls fuel).ok P := by
  intro f args H nx K h
  obtain ⟨h1, h2⟩ := fnT_sound htt hft hc hci hm h
  refine ⟨h1, fun ι w vs ha hH hb => (h2 ι w vs ha hH hb).mono ?_⟩
  rintro e w' ⟨v, H', nx', r, κ, hK, rfl, hr, hH', hst, hb', hnx⟩
  exact ⟨v, H', nx', r, κ, hK, rfl, hr, hH', ⟨⟨⟨fun n L hn => hst.keep n L (hb n L hn).1 hn, hst.fzle⟩, hst.os, hst.tape, hst.output, hst.size, hst.same, hst.own, hst.fzs⟩, hnx, fun n L hn => by
    rcases Nat.lt_or_ge n nx with h | h
    · exact .inl (hst.fresh n L h hn)
    · exact .inr h⟩, hb'⟩
theorem pickT_ok [Syms] {P : Program} {n : Nat} {c d : CallT} (hc : c.ok P) (hd : d.ok P) : (pickT n c d).ok P := by
  intro f args H nx K h
  unfold pickT at h
  cases hf : Nat.beq f n with
  | true => rw [hf] at h; exact hc f args H nx K h
  | false => rw [hf] at h; exact hd f args H nx K h

/-- A function whose arguments and answer have no addresses, by its text. -/
theorem fnI [Syms] {P : Program} {c ci : CallT} {ft : FT} {tt : TT} {pls : Nat → Nat → Pl} {fuel : Nat} {f : FuncId} {args : List AVal} {v : AVal} (htt : TT.ok P tt) (hft : FT.ok P ft) (hc : c.det P) (hci : ci.ok P) (hm : P.follows .mixedOrders = true)
    (h : fnT c ci ft tt pls fuel f args [] 0 fun v' H' _ => v' = v ∧ H' = []) : FnSem P f args [] 0 fun v' H' _ => v' = v ∧ H' = [] := fnT_sound htt hft hc hci hm h

/-- A loop whose head is met once. -/
theorem loop_once [Syms] {na N : Nat} {s : St} {B : (Nat → St → Prop) → Nat → St → Prop} (h : B (fun n s' => n = 0 ∧ s' = s) 0 s) : ∃ I : Nat → St → Prop, (∃ n s1, Reb na N s s1 ∧ I n s1) ∧ ∀ n s1, I n s1 → B I n s1 :=
  ⟨fun n s' => n = 0 ∧ s' = s, ⟨0, s, .refl _ _ _, rfl, rfl⟩, by rintro _ _ ⟨rfl, rfl⟩; exact h⟩
/-! Rows without addresses have no numbers to change -/
def flatRows (rows : List (List AVal)) : Prop := ∀ r ∈ rows, ∀ x ∈ r, x.flat = true
theorem ren_flat (ρ : Nat → Nat) {x : AVal} (h : x.flat = true) : x.ren ρ = x := by
  cases x <;> first | (cases h; done) | (simp only [AVal.ren]; done)
theorem renL_flat (ρ : Nat → Nat) : ∀ {r : List AVal}, (∀ x ∈ r, x.flat = true) → AVal.renL ρ r = r
  | [], _ => by simp only [AVal.renL]
  | x :: r, h => by simp only [AVal.renL, ren_flat ρ (h x (List.mem_cons_self ..)), renL_flat ρ fun y hy => h y (List.mem_cons_of_mem _ hy)]
theorem blk_flat (ρ : Nat → Nat) {rows : List (List AVal)} {ro : Bool} (h : flatRows rows) : (Blk.cells rows ro).ren ρ = .cells rows ro := by
  simp only [Blk.ren]
  congr 1
  induction rows with
  | nil => rfl
  | cons r rows ih => rw [List.map_cons, renL_flat ρ (h r (List.mem_cons_self ..)), ih fun q hq => h q (List.mem_cons_of_mem _ hq)]
theorem wkB_flat {ρ : Nat → Nat} {rows junk : List (List AVal)} {ro : Bool} (h : flatRows rows) : WkB (.cells (rows ++ junk) ro) ((Blk.cells rows ro).ren ρ) := by
  rw [blk_flat ρ h]; exact .take _ _ _
theorem wkB_same {ρ : Nat → Nat} {rows : List (List AVal)} {ro : Bool} (h : flatRows rows) : WkB (.cells rows ro) ((Blk.cells rows ro).ren ρ) := by
  rw [blk_flat ρ h]; exact .refl _
theorem wkB_eq {ρ : Nat → Nat} {rows rows' : List (List AVal)} {ro : Bool} (h : rows' = rows) (hf : flatRows rows) : WkB (.cells rows' ro) ((Blk.cells rows ro).ren ρ) := by subst h; exact wkB_same hf
theorem flat_nil : flatRows [] := fun r hr => nomatch hr
theorem flat_map {α : Type} {enc : α → List AVal} (h : ∀ a, ∀ x ∈ enc a, x.flat = true) (l : List α) : flatRows (l.map enc) := fun r hr => by
  obtain ⟨a, _, rfl⟩ := List.mem_map.1 hr
  exact h a
theorem flat_append {a b : List (List AVal)} (h : flatRows a) (k : flatRows b) : flatRows (a ++ b) := fun r hr => (List.mem_append.1 hr).elim (h r) (k r)
theorem flat_take {a : List (List AVal)} (h : flatRows a) {n m : Nat} : flatRows ((a.drop n).take m) := fun r hr => h r (List.mem_of_mem_drop (List.mem_of_mem_take hr))
theorem flat_cons {a : List AVal} {b : List (List AVal)} (h : ∀ x ∈ a, x.flat = true) (k : flatRows b) : flatRows (a :: b) := fun r hr => (List.mem_cons.1 hr).elim (fun e => e ▸ h) (k r)
/-- A row of a list that is laid out by an encoding. -/
theorem row_at {α : Type} (enc : α → List AVal) (d : α) {l : List α} {i : Nat} (h : i < l.length) : (l.map enc).getD i [] = enc (l.getD i d) := by simp [h]

end Go.Av
