/-
  A call by what is known of a function: its blocks have numbers of their own. Over every program.
-/
import Derived.Test.YtgaacnljcnibdaaSxE
set_option linter.unusedVariables false
set_option linter.unusedSimpArgs false
noncomputable section
namespace Go.Av

/-- What a called function leaves, in the caller's numbers. -/
def renH (ρ : Nat → Nat) : Heap → Heap
  | [] => []
  | (n, some b) :: t => (ρ n, bif b.ro then none else some (b.ren ρ)) :: renH ρ t
  | (n, none) :: t => (ρ n, none) :: renH ρ t
def noneH (ρ : Nat → Nat) : Heap → Heap → Heap
  | [], H => H
  | (n, _) :: t, H => (ρ n, none) :: noneH ρ t H
def appH : Heap → Heap → Heap
  | [], H => H
  | p :: t, H => p :: appH t H
def outH (ρ : Nat → Nat) (H H3 H' : Heap) : Heap := appH (renH ρ H') (noneH ρ H3 H)

theorem appH_get : ∀ (A H : Heap) (m : Nat) (b : Blk), (appH A H).get m = some b → (∃ o, (m, o) ∈ A ∧ A.get m = some b) ∨ H.get m = some b
  | [], H, m, b, h => .inr h
  | (k, o) :: t, H, m, b, h => by
    simp only [appH] at h
    rw [Heap.get_cons] at h
    by_cases hk : m = k
    · subst hk
      rw [Nat.beq_refl] at h
      have h : o = some b := h
      exact .inl ⟨o, by simp, by rw [Heap.get_cons, Nat.beq_refl]; exact h⟩
    · rw [beq_ff hk] at h
      rcases appH_get t H m b h with ⟨o', h1, h2⟩ | h1
      · exact .inl ⟨o', by simp [h1], by rw [Heap.get_cons, beq_ff hk]; exact h2⟩
      · exact .inr h1
theorem noneH_get (ρ : Nat → Nat) : ∀ (A H : Heap) (m : Nat) (b : Blk), (noneH ρ A H).get m = some b → H.get m = some b ∧ ∀ n o, (n, o) ∈ A → m ≠ ρ n
  | [], H, m, b, h => ⟨h, by simp⟩
  | (k, o) :: t, H, m, b, h => by
    simp only [noneH] at h
    rw [Heap.get_cons] at h
    by_cases hk : m = ρ k
    · subst hk; rw [Nat.beq_refl] at h; cases h
    · rw [beq_ff hk] at h
      obtain ⟨h1, h2⟩ := noneH_get ρ t H m b h
      refine ⟨h1, fun n o' hn => ?_⟩
      rcases List.mem_cons.1 hn with h3 | h3
      · cases h3; exact hk
      · exact h2 n o' h3
theorem renH_get {ρ : Nat → Nat} (hinj : ∀ n m, ρ n = ρ m → n = m) : ∀ (A : Heap) (m : Nat) (b : Blk), (renH ρ A).get m = some b → ∃ n c, A.get n = some c ∧ c.ro = false ∧ m = ρ n ∧ b = c.ren ρ
  | [], m, b, h => by simp only [renH] at h; rw [Heap.get_nil] at h; cases h
  | (k, none) :: t, m, b, h => by
    simp only [renH] at h
    rw [Heap.get_cons] at h
    by_cases hk : m = ρ k
    · subst hk; rw [Nat.beq_refl] at h; cases h
    · rw [beq_ff hk] at h
      obtain ⟨n, c, h1, h2, h3, h4⟩ := renH_get hinj t m b h
      refine ⟨n, c, ?_, h2, h3, h4⟩
      rw [Heap.get_cons, beq_ff (fun e => hk (by rw [h3, e]))]
      exact h1
  | (k, some a) :: t, m, b, h => by
    simp only [renH] at h
    rw [Heap.get_cons] at h
    by_cases hk : m = ρ k
    · subst hk
      rw [Nat.beq_refl] at h
      have h : (bif a.ro then none else some (a.ren ρ)) = some b := h
      cases hr : a.ro with
      | true => rw [hr] at h; cases h
      | false =>
        rw [hr] at h
        have h : some (a.ren ρ) = some b := h
        exact ⟨k, a, by rw [Heap.get_cons, Nat.beq_refl]; rfl, hr, rfl, (Option.some.inj h).symm⟩
    · rw [beq_ff hk] at h
      obtain ⟨n, c, h1, h2, h3, h4⟩ := renH_get hinj t m b h
      refine ⟨n, c, ?_, h2, h3, h4⟩
      rw [Heap.get_cons, beq_ff (fun e => hk (by rw [h3, e]))]
      exact h1
theorem outH_get {ρ : Nat → Nat} (hinj : ∀ n m, ρ n = ρ m → n = m) {H H3 H' : Heap} {m : Nat} {b : Blk} (h : (outH ρ H H3 H').get m = some b) :
    (∃ n c, H'.get n = some c ∧ c.ro = false ∧ m = ρ n ∧ b = c.ren ρ) ∨ (H.get m = some b ∧ ∀ n c, H3.get n = some c → m ≠ ρ n) := by
  rcases appH_get _ _ _ _ h with ⟨_, _, h1⟩ | h1
  · exact .inl (renH_get hinj _ _ _ h1)
  · obtain ⟨h2, h3⟩ := noneH_get _ _ _ _ _ h1
    refine .inr ⟨h2, fun n c hc => ?_⟩
    have : ∃ o, (n, o) ∈ H3 := by
      clear h1 h2 h3 h
      induction H3 with
      | nil => rw [Heap.get_nil] at hc; cases hc
      | cons p t ih =>
        obtain ⟨k, o⟩ := p
        rw [Heap.get_cons] at hc
        by_cases hk : n = k
        · subst hk; exact ⟨o, by simp⟩
        · rw [beq_ff hk] at hc
          obtain ⟨o', h⟩ := ih hc
          exact ⟨o', by simp [h]⟩
    obtain ⟨o, ho⟩ := this
    exact h3 n o ho

def ArgsOk (ρ : Nat → Nat) : List AVal → List AVal → Prop
  | [], [] => True
  | x :: l, y :: r => WkV x (y.ren ρ) ∧ ArgsOk ρ l r
  | _, _ => False
theorem ArgsOk.rel [Syms] {ρ : Nat → Nat} {ι : Inj} : ∀ {l r : List AVal} {vs : List Value}, ArgsOk ρ l r → RelL ι l vs → RelL (ι.pull ρ) r vs
  | [], [], vs, _, h => by rw [h.unnil]; exact .nil _
  | x :: l, y :: r, vs, ha, h => by
    obtain ⟨v, vs', rfl, h1, h2⟩ := h.uncons
    exact .cons ((ha.1.rel h1).unren y rfl) (ArgsOk.rel ha.2 h2)
  | [], _ :: _, _, ha, _ => ha.elim
  | _ :: _, [], _, ha, _ => ha.elim

/-- What is asked of a call, and what it gives. -/
abbrev SpecT := List AVal → Heap → Nat → (AVal → Heap → Nat → Prop) → Prop
def SpecT.ok [Syms] (P : Program) (f : FuncId) (S : SpecT) : Prop := ∀ args H nx Post, S args H nx Post → FnSem P f args H nx Post

/-- A call: the caller's numbers of the blocks that are handed over. -/
def callS (S : SpecT) : List AVal → Heap → Nat → (AVal → Heap → Nat → Prop) → Prop := fun args H nx K =>
  ∃ (l : List Nat) (args3 : List AVal) (H3 : Heap), NumsOk 0 nx l = true ∧ ArgsOk (rho l nx) args args3 ∧ HeapOk (rho l nx) l.length H H3 ∧ S args3 H3 l.length fun v H' nx' => K (v.ren (rho l nx)) (outH (rho l nx) H H3 H') (nx + nx')

theorem callS_ok [Syms] {P : Program} {f : FuncId} {S : SpecT} (hS : S.ok P f) {args : List AVal} {H : Heap} {nx : Nat} {K : AVal → Heap → Nat → Prop} (h : callS S args H nx K) :
    FnOk P f ∧ ∀ (ι : Inj) (w : World) (vs : List Value), RelL ι args vs → RelH ι H w → Bound ι nx w →
    Calls P f ⟨vs⟩ w fun e w' => ∃ v H' nx' r κ, K v H' nx' ∧ e = .returned r ∧ RelV κ v r ∧ RelH κ H' w' ∧ StepN ι H nx w κ H' nx' w' ∧ Bound κ nx' w' := by
  obtain ⟨l, args3, H3, hl, ha, hh, hs⟩ := h
  obtain ⟨hok, hsem⟩ := hS _ _ _ _ hs
  refine ⟨hok, fun ι w vs hvs hH hb => ?_⟩
  simp only [NumsOk, Bool.and_eq_true, decide_eq_true_eq] at hl
  obtain ⟨⟨⟨h1, h2⟩, h3⟩, h4⟩ := hl
  have hinj : ∀ n m, rho l nx n = rho l nx m → n = m := fun n m => rho_inj h1 h2
  obtain ⟨g1, g2⟩ := pull_relH hH hh hinj
  have hltl : ∀ n, n < l.length → rho l nx n < nx := fun n hn => by
    rw [rho_lt hn]
    have := List.all_eq_true.1 h1 (l.getD n 0) (by simp [hn])
    simpa [Nat.blt_eq] using this
  have hb3 : Bound (ι.pull (rho l nx)) l.length w := by
    intro n L hn
    have hb := hb _ L hn
    refine ⟨?_, hb.2⟩
    rcases Nat.lt_or_ge n l.length with h | h
    · exact h
    · rw [rho_ge h] at hb
      omega
  refine (hsem (ι.pull (rho l nx)) w vs (ha.rel hvs) g1 hb3).mono ?_
  rintro e w' ⟨v, H', nx', r, κ, hK, rfl, hv, hH', hst, hbd, hnx⟩
  -- the caller's numbers
  let μ : Inj := ⟨fun m => if m < nx then ι m else if l.length ≤ m - nx then κ (m - nx) else none, κ.fz⟩
  have hvia : Inj.via (rho l nx) κ μ := by
    refine ⟨fun n L hn => ?_, fun _ _ h => h⟩
    rcases Nat.lt_or_ge n l.length with h | h
    · have := hst.fresh n L h hn
      show (if rho l nx n < nx then ι (rho l nx n) else _) = some L
      rw [if_pos (hltl n h)]
      exact this
    · show (if rho l nx n < nx then _ else if l.length ≤ rho l nx n - nx then κ (rho l nx n - nx) else none) = some L
      rw [rho_ge h, if_neg (by omega), show nx + n - nx = n by omega, if_pos h]
      exact hn
  have hback : ∀ n, ∀ L, μ (rho l nx n) = some L → κ n = some L := by
    intro n L hn
    rcases Nat.lt_or_ge n l.length with h | h
    · have hn : (if rho l nx n < nx then ι (rho l nx n) else _) = some L := hn
      rw [if_pos (hltl n h)] at hn
      exact hst.keep n L h hn
    · have hn : (if rho l nx n < nx then _ else if l.length ≤ rho l nx n - nx then κ (rho l nx n - nx) else none) = some L := hn
      rw [rho_ge h, if_neg (by omega), show nx + n - nx = n by omega, if_pos h] at hn
      exact hn
  have hle : ι.le μ := by
    refine ⟨fun n L hn => ?_, fun g cs hg => hst.fzle g cs hg⟩
    show (if n < nx then ι n else _) = some L
    rw [if_pos (hb n L hn).1]; exact hn
  have hold : ∀ m L, m < nx → μ m = some L → ι m = some L := by
    intro m L hm hL
    have hL : (if m < nx then ι m else _) = some L := hL
    rwa [if_pos hm] at hL
  -- a block of the caller's that was not handed over
  have hframe : ∀ m b L, H.get m = some b → (∀ n c, H3.get n = some c → m ≠ rho l nx n) → ι m = some L → b.ro = false ∨ b.ro = true → (¬ Own (ι.pull (rho l nx)) H3 L.g) := by
    rintro m b L hm hno hL _ ⟨n, c, M, k1, k2, k3, k4⟩
    obtain ⟨_, c0, k5, k6⟩ := hh.get n c k1
    rcases hH.inj m _ b _ L M hm k5 hL k3 k4.symm with h | h
    · exact hno n c k1 h
    · rw [k6.ro, Blk.ren_ro, k2] at h; cases h.2
  have hfr : ∀ m b, H.get m = some b → ∃ L, ι m = some L ∧ L.g < w.heap.size ∧ m < nx := by
    intro m b hm
    obtain ⟨L, hL, _⟩ := hH.blk m b hm
    exact ⟨L, hL, (hb m L hL).2, (hb m L hL).1⟩
  have hownOut : ∀ g, Own μ (outH (rho l nx) H H3 H') g → Own ι H g ∨ w.heap.size ≤ g := by
    rintro g ⟨m, b, L, k1, k2, k3, k4⟩
    rcases outH_get hinj k1 with ⟨n, c, c1, c2, rfl, rfl⟩ | ⟨c1, c2⟩
    · rcases hst.own g ⟨n, c, L, c1, c2, hback n L k3, k4⟩ with h | h
      · exact .inl (g2 g h)
      · exact .inr h
    · obtain ⟨L', q1, q2, q3⟩ := hfr m b c1
      exact .inl ⟨m, b, L, c1, k2, hold m L q3 k3, k4⟩
  have hsame : ∀ g, g < w.heap.size → ¬ Own ι H g → w'.heap[g]? = w.heap[g]? := fun g hg ho => hst.same g hg (fun h => ho (g2 g h))
  refine ⟨_, _, _, r, μ, hK, rfl, hv.ren hvia, ⟨fun m b hm => ?_, fun m m' b b' L L' k1 k2 k3 k4 k5 => ?_, fun g cs hg => ⟨(hH'.fz g cs hg).1, ?_⟩⟩, ⟨⟨hle, hst.os, hst.tape, hst.output, hst.size, hsame, hownOut, fun g cs hg => ?_⟩, by omega, fun n L hn => ?_⟩, fun n L hn => ?_⟩
  · rcases outH_get hinj hm with ⟨n, c, c1, c2, rfl, rfl⟩ | ⟨c1, c2⟩
    · obtain ⟨L, q1, q2⟩ := hH'.blk n c c1
      exact ⟨L, hvia.loc n L q1, q2.ren hvia⟩
    · obtain ⟨L, q1, q2⟩ := hH.blk m b c1
      refine ⟨L, hle.1 _ _ q1, q2.keep hle ?_⟩
      refine hst.same _ (hb m L q1).2 (hframe m b L c1 c2 q1 (by cases b.ro <;> simp))
  · rcases outH_get hinj k1 with ⟨n, c, c1, c2, rfl, rfl⟩ | ⟨c1, c2⟩ <;> rcases outH_get hinj k2 with ⟨n', c', c1', c2', rfl, rfl⟩ | ⟨c1', c2'⟩
    · rcases hH'.inj n n' c c' L L' c1 c1' (hback _ _ k3) (hback _ _ k4) k5 with h | h
      · exact .inl (by rw [h])
      · rw [c2] at h; cases h.1
    · obtain ⟨M, q1, q2, q3⟩ := hfr m' b' c1'
      have e : L' = M := by have := hold m' L' q3 k4; rw [q1] at this; exact (Option.some.inj this).symm
      subst e
      rcases hst.own L'.g ⟨n, c, L, c1, c2, hback n L k3, k5⟩ with h | h
      · exact absurd h (hframe m' b' L' c1' c2' q1 (by cases b'.ro <;> simp))
      · omega
    · obtain ⟨M, q1, q2, q3⟩ := hfr m b c1
      have e : L = M := by have := hold m L q3 k3; rw [q1] at this; exact (Option.some.inj this).symm
      subst e
      rcases hst.own L.g ⟨n', c', L', c1', c2', hback n' L' k4, k5.symm⟩ with h | h
      · exact absurd h (hframe m b L c1 c2 q1 (by cases b.ro <;> simp))
      · omega
    · obtain ⟨M, q1, q2, q3⟩ := hfr m b c1
      obtain ⟨M', q1', q2', q3'⟩ := hfr m' b' c1'
      exact hH.inj m m' b b' L L' c1 c1' (hold m L q3 k3) (hold m' L' q3' k4) k5
  · rintro ⟨m, b, L, k1, k2, k3, k4⟩
    rcases outH_get hinj k1 with ⟨n, c, c1, c2, rfl, rfl⟩ | ⟨c1, c2⟩
    · exact (hH'.fz g cs hg).2 ⟨n, c, L, c1, c2, hback n L k3, k4⟩
    · obtain ⟨M, q1, q2, q3⟩ := hfr m b c1
      have e : L = M := by have := hold m L q3 k3; rw [q1] at this; exact (Option.some.inj this).symm
      subst e
      rcases hst.fzs g cs hg with h | h | h
      · exact (hH.fz g cs h).2 ⟨m, b, L, c1, k2, q1, k4⟩
      · omega
      · rw [← k4] at h
        exact hframe m b L c1 c2 q1 (by cases b.ro <;> simp) h
  · rcases hst.fzs g cs hg with h | h | h
    · exact .inl h
    · exact .inr (.inl h)
    · exact .inr (.inr (g2 g h))
  · have hn' : (if n < nx then ι n else if l.length ≤ n - nx then κ (n - nx) else none) = some L := hn
    by_cases hlt : n < nx
    · rw [if_pos hlt] at hn'; exact .inl hn'
    · exact .inr (by omega)
  · have hn' : (if n < nx then ι n else if l.length ≤ n - nx then κ (n - nx) else none) = some L := hn
    by_cases hlt : n < nx
    · rw [if_pos hlt] at hn'
      have := hb n L hn'
      exact ⟨by omega, Nat.lt_of_lt_of_le this.2 hst.size⟩
    · rw [if_neg hlt] at hn'
      split at hn'
      · have := hbd _ L hn'
        exact ⟨by omega, this.2⟩
      · cases hn'

/-- What is called, by its number. -/
def pickT (n : Nat) (c d : CallT) : CallT := fun f args H nx K => @Bool.rec (fun _ => Prop) (d f args H nx K) (c f args H nx K) (Nat.beq f n)
def noneT : CallT := fun _ _ _ _ _ => False
def specT (S : SpecT) : CallT := fun _ args H nx K => callS S args H nx K
theorem noneT_ok [Syms] {P : Program} : noneT.ok P := fun _ _ _ _ _ h => h.elim
theorem noneT_det [Syms] {P : Program} : noneT.det P := fun _ _ _ _ _ h => h.elim
theorem pickT_spec [Syms] {P : Program} {n : Nat} {S : SpecT} {d : CallT} (hS : S.ok P n) (hd : d.ok P) : (pickT n (specT S) d).ok P := by
  intro f args H nx K h
  unfold pickT at h
  cases hf : Nat.beq f n with
  | true =>
    rw [hf] at h
    have := Nat.eq_of_beq_eq_true hf
    subst this
    exact callS_ok hS h
  | false => rw [hf] at h; exact hd f args H nx K h

/-- A function with one answer, of which all memory is as it was. -/
def valT (g : List AVal → (AVal → Prop) → Prop) : CallT := fun _ args H nx K => g args fun v => K v H nx
def ValOk [Syms] (P : Program) (f : FuncId) (g : List AVal → (AVal → Prop) → Prop) : Prop := ∀ args K, g args K → FnOk P f ∧ ∃ v, K v ∧ ∀ (ι : Inj) (w : World) (vs : List Value), RelL ι args vs → Calls P f ⟨vs⟩ w fun e w' => ∃ r, e = .returned r ∧ RelV ι v r ∧ w' = w
theorem pickT_val [Syms] {P : Program} {n : Nat} {g : List AVal → (AVal → Prop) → Prop} {d : CallT} (hg : ValOk P n g) (hd : d.det P) : (pickT n (valT g) d).det P := by
  intro f args H nx K h
  unfold pickT at h
  cases hf : Nat.beq f n with
  | true =>
    rw [hf] at h
    have := Nat.eq_of_beq_eq_true hf
    subst this
    obtain ⟨h1, v, h2, h3⟩ := hg args _ h
    refine ⟨v, H, nx, h1, fun ι w vs ha hH hb => (h3 ι w vs ha).mono ?_, h2⟩
    rintro e w' ⟨r, rfl, hr, rfl⟩
    exact ⟨r, ι, rfl, hr, hH, .refl .., hb⟩
  | false => rw [hf] at h; exact hd f args H nx K h
theorem pickT_val_ok [Syms] {P : Program} {n : Nat} {g : List AVal → (AVal → Prop) → Prop} {d : CallT} (hg : ValOk P n g) (hd : d.ok P) : (pickT n (valT g) d).ok P := by
  intro f args H nx K h
  unfold pickT at h
  cases hf : Nat.beq f n with
  | true =>
    rw [hf] at h
    have hd' : (pickT f (valT g) noneT).det P := pickT_val (Nat.eq_of_beq_eq_true hf ▸ hg) noneT_det
    refine hd'.ok f args H nx K ?_
    unfold pickT
    rw [Nat.beq_refl]
    exact h
  | false => rw [hf] at h; exact hd f args H nx K h

end Go.Av
