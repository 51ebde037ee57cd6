/-
  One state read as another one: other numbers for its blocks, blocks that are forgotten, blocks that are written no more. Over every program.
-/
import Derived.Test.YtgaacnljcnibdaaSxC3
set_option linter.unusedVariables false
set_option linter.unusedSimpArgs false
noncomputable section
namespace Go.Av

/-! Other numbers -/
mutual
def AVal.ren (ρ : Nat → Nat) : AVal → AVal
  | .ptr n k j => .ptr (ρ n) k j
  | .slice n off len sz cap => .slice (ρ n) off len sz cap
  | .obj n => .obj (ρ n)
  | .agg cs => .agg (AVal.renL ρ cs)
  | .tup cs => .tup (AVal.renL ρ cs)
  | .func f cs => .func f (AVal.renL ρ cs)
  | .iface t v => .iface t (v.ren ρ)
  | .any => .any
  | .bool b => .bool b
  | .int k n => .int k n
  | .str s => .str s
  | .nilp => .nilp
  | .nils => .nils
  | .nilf => .nilf
  | .nili => .nili
  | .sym n => .sym n
  | .vs sz rows => .vs sz rows
  | .vp row j => .vp row j
  | .zs sz => .zs sz
  | .vt sz n f => .vt sz n f
def AVal.renL (ρ : Nat → Nat) : List AVal → List AVal
  | [] => []
  | x :: l => x.ren ρ :: AVal.renL ρ l
end
theorem renL_map (ρ : Nat → Nat) : ∀ l : List AVal, AVal.renL ρ l = l.map (AVal.ren ρ)
  | [] => by simp only [AVal.renL, List.map_nil]
  | x :: l => by simp only [AVal.renL, List.map_cons, renL_map ρ l]

def Blk.ren (ρ : Nat → Nat) : Blk → Blk
  | .cells rows ro => .cells (rows.map (AVal.renL ρ)) ro
  | .iter s p => .iter s p
theorem Blk.ren_ro (ρ : Nat → Nat) (b : Blk) : (b.ren ρ).ro = b.ro := by cases b <;> rfl

/-- Numbers taken through a map. -/
structure Inj.via (ρ : Nat → Nat) (ι κ : Inj) : Prop where
  loc : ∀ n L, ι n = some L → κ (ρ n) = some L
  fz : ∀ g cs, ι.fz g = some cs → κ.fz g = some cs
theorem Inj.via.bare {ρ : Nat → Nat} {ι κ : Inj} (h : Inj.via ρ ι κ) : ι.bare.le κ.bare := ⟨fun _ _ h => (nomatch h), h.fz⟩
theorem RelV.ren [Syms] {ρ : Nat → Nat} {ι κ : Inj} (hv : Inj.via ρ ι κ) {x : AVal} {v : Value} (h : RelV ι x v) : RelV κ (x.ren ρ) v := by
  induction h generalizing κ with
  | any v => simp only [AVal.ren]; exact .any v
  | bool b => simp only [AVal.ren]; exact .bool b
  | int k n => simp only [AVal.ren]; exact .int k n
  | str s => simp only [AVal.ren]; exact .str s
  | nilp => simp only [AVal.ren]; exact .nilp
  | ptr n k j L h => simp only [AVal.ren]; exact .ptr _ k j L (hv.loc _ _ h)
  | nils => simp only [AVal.ren]; exact .nils
  | slice n off len sz cap L a c h hs ha hl hp hm hc => simp only [AVal.ren]; exact .slice _ off len sz cap L a c (hv.loc _ _ h) hs ha hl hp hm hc
  | agg cs vs hl h ih =>
    simp only [AVal.ren, renL_map]
    refine .agg _ vs (by simpa using hl) fun i c v h1 h2 => ?_
    rw [List.getElem?_map, Option.map_eq_some_iff] at h1
    obtain ⟨x, hx, rfl⟩ := h1
    exact ih i x v hx h2 hv
  | tup cs vs hl h ih =>
    simp only [AVal.ren, renL_map]
    refine .tup _ vs (by simpa using hl) fun i c v h1 h2 => ?_
    rw [List.getElem?_map, Option.map_eq_some_iff] at h1
    obtain ⟨x, hx, rfl⟩ := h1
    exact ih i x v hx h2 hv
  | func f cs vs hl h ih =>
    simp only [AVal.ren, renL_map]
    refine .func f _ vs (by simpa using hl) fun i c v h1 h2 => ?_
    rw [List.getElem?_map, Option.map_eq_some_iff] at h1
    obtain ⟨x, hx, rfl⟩ := h1
    exact ih i x v hx h2 hv
  | nilf => simp only [AVal.ren]; exact .nilf
  | nili => simp only [AVal.ren]; exact .nili
  | iface t x v h ih => simp only [AVal.ren]; exact .iface t _ v (ih hv)
  | obj n L h => simp only [AVal.ren]; exact .obj _ L (hv.loc _ _ h)
  | sym n => simp only [AVal.ren]; exact .sym n
  | vs sz rows g o c cs hf hl hm hp hr h1 h ih => simp only [AVal.ren]; exact .vs sz rows g o c cs (hv.fz _ _ hf) hl hm hp hr h1 fun k j row x v a b d => (h k j row x v a b d).mono hv.bare
  | vp row j g b cs hf hp h1 h ih => simp only [AVal.ren]; exact .vp row j g b cs (hv.fz _ _ hf) hp h1 fun i x v a b => (h i x v a b).mono hv.bare
  | zs sz a => simp only [AVal.ren]; exact .zs sz a
  | vz sz a c hm hc => simp only [AVal.ren]; exact .vz sz a c hm hc
  | vt sz n f v h ih => simp only [AVal.ren] at ih ⊢; exact .vt sz n f v (ih hv)

/-- The numbers' map laid ahead. -/
def Inj.pull (ι : Inj) (ρ : Nat → Nat) : Inj := ⟨fun n => ι (ρ n), ι.fz⟩
theorem RelV.unren [Syms] {ρ : Nat → Nat} {ι : Inj} {y : AVal} {v : Value} (h : RelV ι y v) : ∀ x : AVal, y = x.ren ρ → RelV (ι.pull ρ) x v := by
  induction h with
  | any v => intro x hx; cases x <;> simp only [AVal.ren] at hx <;> cases hx; exact .any v
  | bool b => intro x hx; cases x <;> simp only [AVal.ren] at hx <;> cases hx; exact .bool b
  | int k n => intro x hx; cases x <;> simp only [AVal.ren] at hx <;> cases hx; exact .int k n
  | str s => intro x hx; cases x <;> simp only [AVal.ren] at hx <;> cases hx; exact .str s
  | nilp => intro x hx; cases x <;> simp only [AVal.ren] at hx <;> cases hx; exact .nilp
  | ptr n k j L h => intro x hx; cases x <;> simp only [AVal.ren] at hx <;> cases hx; exact .ptr _ k j L h
  | nils => intro x hx; cases x <;> simp only [AVal.ren] at hx <;> cases hx; exact .nils
  | slice n off len sz cap L a c h hs ha hl hp hm hc => intro x hx; cases x <;> simp only [AVal.ren] at hx <;> cases hx; exact .slice _ off len sz cap L a c h hs ha hl hp hm hc
  | agg cs vs hl h ih =>
    intro x hx; cases x <;> simp only [AVal.ren] at hx <;> cases hx
    simp only [renL_map] at hl ih
    exact .agg _ vs (by simpa using hl) fun i c v h1 h2 => ih i (c.ren ρ) v (by rw [List.getElem?_map, h1]; rfl) h2 c rfl
  | tup cs vs hl h ih =>
    intro x hx; cases x <;> simp only [AVal.ren] at hx <;> cases hx
    simp only [renL_map] at hl ih
    exact .tup _ vs (by simpa using hl) fun i c v h1 h2 => ih i (c.ren ρ) v (by rw [List.getElem?_map, h1]; rfl) h2 c rfl
  | func f cs vs hl h ih =>
    intro x hx; cases x <;> simp only [AVal.ren] at hx <;> cases hx
    simp only [renL_map] at hl ih
    exact .func f _ vs (by simpa using hl) fun i c v h1 h2 => ih i (c.ren ρ) v (by rw [List.getElem?_map, h1]; rfl) h2 c rfl
  | nilf => intro x hx; cases x <;> simp only [AVal.ren] at hx <;> cases hx; exact .nilf
  | nili => intro x hx; cases x <;> simp only [AVal.ren] at hx <;> cases hx; exact .nili
  | iface t y v h ih => intro x hx; cases x <;> simp only [AVal.ren] at hx <;> cases hx; exact .iface t _ v (ih _ rfl)
  | obj n L h => intro x hx; cases x <;> simp only [AVal.ren] at hx <;> cases hx; exact .obj _ L h
  | sym n => intro x hx; cases x <;> simp only [AVal.ren] at hx <;> cases hx; exact .sym n
  | vs sz rows g o c cs hf hl hm hp hr h1 h ih => intro x hx; cases x <;> simp only [AVal.ren] at hx <;> cases hx; exact .vs sz rows g o c cs hf hl hm hp hr h1 h
  | vp row j g b cs hf hp h1 h ih => intro x hx; cases x <;> simp only [AVal.ren] at hx <;> cases hx; exact .vp row j g b cs hf hp h1 h
  | zs sz a => intro x hx; cases x <;> simp only [AVal.ren] at hx <;> cases hx; exact .zs sz a
  | vz sz a c hm hc => intro x hx; cases x <;> simp only [AVal.ren] at hx <;> cases hx; exact .vz sz a c hm hc
  | vt sz n f v h ih => intro x hx; cases x <;> simp only [AVal.ren] at hx <;> cases hx; exact .vt sz n f v (ih (.vs _ _) (by simp only [AVal.ren]))

theorem RelB.ren [Syms] {ρ : Nat → Nat} {ι κ : Inj} (hv : Inj.via ρ ι κ) {w : World} {L : Loc} {b : Blk} (h : RelB ι w L b) : RelB κ w L (b.ren ρ) := by
  cases b with
  | iter s p => exact h
  | cells rows ro =>
    obtain ⟨cs, e, fz, h1, h2, h3, h4, h5⟩ := h.rows
    refine RelB.mk h1 h2 (by simpa using h3) (fun k row hr => ?_) h5
    rw [List.getElem?_map, Option.map_eq_some_iff] at hr
    obtain ⟨r, hr, rfl⟩ := hr
    obtain ⟨g1, g2⟩ := h4 k r hr
    rw [renL_map]
    refine ⟨by simpa using g1, fun j x hx => ?_⟩
    rw [List.getElem?_map, Option.map_eq_some_iff] at hx
    obtain ⟨y, hy, rfl⟩ := hx
    obtain ⟨v, v1, v2, v3⟩ := g2 j y hy
    exact ⟨v, v1, v2, v3.ren hv⟩
theorem RelB.unren [Syms] {ρ : Nat → Nat} {ι : Inj} {w : World} {L : Loc} {b : Blk} (h : RelB ι w L (b.ren ρ)) : RelB (ι.pull ρ) w L b := by
  cases b with
  | iter s p => exact h
  | cells rows ro =>
    obtain ⟨cs, e, fz, h1, h2, h3, h4, h5⟩ := h.rows
    refine RelB.mk h1 h2 (by simpa using h3) (fun k row hr => ?_) h5
    obtain ⟨g1, g2⟩ := h4 k (AVal.renL ρ row) (by rw [List.getElem?_map, hr]; rfl)
    rw [renL_map] at g1 g2
    refine ⟨by simpa using g1, fun j x hx => ?_⟩
    obtain ⟨v, v1, v2, v3⟩ := g2 j (x.ren ρ) (by rw [List.getElem?_map, hx]; rfl)
    exact ⟨v, v1, v2, v3.unren x rfl⟩

/-! What has become of the world, but for the numbers -/
structure StepL (na : Nat) (ι : Inj) (H : Heap) (w : World) (κ : Inj) (H' : Heap) (w' : World) : Prop where
  keep : ∀ n L, n < na → ι n = some L → κ n = some L
  fzle : ∀ g cs, ι.fz g = some cs → κ.fz g = some cs
  os : w'.os = w.os
  tape : w'.tape = w.tape
  output : w'.output = w.output
  size : w.heap.size ≤ w'.heap.size
  same : ∀ g, g < w.heap.size → ¬ Own ι H g → w'.heap[g]? = w.heap[g]?
  own : ∀ g, Own κ H' g → Own ι H g ∨ w.heap.size ≤ g
  fzs : ∀ g cs, κ.fz g = some cs → ι.fz g = some cs ∨ w.heap.size ≤ g ∨ Own ι H g
  fresh : ∀ n L, n < na → κ n = some L → ι n = some L
theorem StepL.refl [Syms] (na : Nat) (ι : Inj) (H : Heap) (w : World) : StepL na ι H w ι H w := ⟨fun _ _ _ h => h, fun _ _ h => h, rfl, rfl, rfl, Nat.le_refl _, fun _ _ _ => rfl, fun _ h => .inl h, fun _ _ h => .inl h, fun _ _ _ h => h⟩
theorem StepL.trans [Syms] {na : Nat} {ι κ μ : Inj} {H H' H'' : Heap} {w w' w'' : World} (h : StepL na ι H w κ H' w') (k : StepL na κ H' w' μ H'' w'') : StepL na ι H w μ H'' w'' where
  keep n L hn hL := k.keep n L hn (h.keep n L hn hL)
  fzle g cs hg := k.fzle g cs (h.fzle g cs hg)
  os := k.os.trans h.os
  tape := k.tape.trans h.tape
  output := k.output.trans h.output
  size := Nat.le_trans h.size k.size
  same g hg ho := by
    rw [k.same g (Nat.lt_of_lt_of_le hg h.size) (fun ho' => (h.own g ho').elim ho (fun hge => by omega)), h.same g hg ho]
  own g ho := by
    rcases k.own g ho with h1 | h1
    · exact h.own g h1
    · exact .inr (Nat.le_trans h.size h1)
  fzs g cs hg := by
    rcases k.fzs g cs hg with h1 | h1 | h1
    · exact h.fzs g cs h1
    · exact .inr (.inl (Nat.le_trans h.size h1))
    · rcases h.own g h1 with h2 | h2
      · exact .inr (.inr h2)
      · exact .inr (.inl h2)
  fresh n L hn hL := h.fresh n L hn (k.fresh n L hn hL)
theorem StepN.l [Syms] {na : Nat} {ι κ : Inj} {H H' : Heap} {nx nx' : Nat} {w w' : World} (h : StepN ι H nx w κ H' nx' w') (hna : na ≤ nx) : StepL na ι H w κ H' w' :=
  ⟨fun n L _ hL => h.st.le.1 n L hL, h.st.le.2, h.st.os, h.st.tape, h.st.output, h.st.size, h.st.same, h.st.own, h.st.fzs, fun n L hn hL => (h.fresh n L hL).resolve_right (by omega)⟩

/-- One state may be read as another one. -/
def Reb [Syms] (na N : Nat) (s s' : St) : Prop :=
  (na ≤ s.nx → na ≤ s'.nx) ∧ ∀ (ι : Inj) (a : Act) (w : World), RelS N ι s a w → ∃ κ, RelS N κ s' a w ∧ StepL na ι s.heap w κ s'.heap w
theorem Reb.refl [Syms] (na N : Nat) (s : St) : Reb na N s s := ⟨fun h => h, fun ι a w h => ⟨ι, h, .refl ..⟩⟩
theorem Reb.trans [Syms] {na N : Nat} {s s' s'' : St} (h : Reb na N s s') (k : Reb na N s' s'') : Reb na N s s'' := ⟨fun x => k.1 (h.1 x), fun ι a w hS =>
  let ⟨κ, h1, h2⟩ := h.2 ι a w hS
  let ⟨μ, h3, h4⟩ := k.2 κ a w h1
  ⟨μ, h3, h2.trans h4⟩⟩

/-- The numbers of a list; the others beyond. -/
def rho (l : List Nat) (nx n : Nat) : Nat := bif Nat.blt n l.length then l.getD n 0 else nx + n
theorem rho_lt {l : List Nat} {nx n : Nat} (h : n < l.length) : rho l nx n = l.getD n 0 := by
  unfold rho; rw [show Nat.blt n l.length = true from by simpa [Nat.blt_eq] using h]; rfl
theorem rho_ge {l : List Nat} {nx n : Nat} (h : l.length ≤ n) : rho l nx n = nx + n := by
  unfold rho
  have : Nat.blt n l.length = false := by
    cases hb : Nat.blt n l.length with
    | false => rfl
    | true => rw [Nat.blt_eq] at hb; omega
  rw [this]; rfl

/-- What is known may be less. -/
inductive WkV : AVal → AVal → Prop
  | refl (x : AVal) : WkV x x
  | any (x : AVal) : WkV x .any
  | cap (n off len sz : Nat) (cap : Option Nat) : WkV (.slice n off len sz cap) (.slice n off len sz none)
inductive WkB : Blk → Blk → Prop
  | refl (b : Blk) : WkB b b
  | take (rows junk : List (List AVal)) (ro : Bool) : WkB (.cells (rows ++ junk) ro) (.cells rows ro)
theorem WkV.rel [Syms] {ι : Inj} {x y : AVal} {v : Value} (h : WkV x y) (hr : RelV ι x v) : RelV ι y v := by
  cases h with
  | refl => exact hr
  | any => exact .any _
  | cap n off len sz cap =>
    cases hr with
    | slice _ _ _ _ _ L a c h hs ha hl hp hm hc => exact .slice _ _ _ _ _ L a c h hs ha hl hp hm (fun _ h => nomatch h)
theorem WkB.ro {x y : Blk} (h : WkB x y) : x.ro = y.ro := by cases h <;> rfl
theorem WkB.rel [Syms] {ι : Inj} {w : World} {L : Loc} {x y : Blk} (h : WkB x y) (hr : RelB ι w L x) : RelB ι w L y := by
  cases h with
  | refl => exact hr
  | take rows junk ro =>
    obtain ⟨cs, e, fz, h1, h2, h3, h4, h5⟩ := hr.rows
    refine RelB.mk h1 h2 ?_ (fun k row hk => h4 k row ?_) h5
    · have : rows.length * L.size ≤ (rows ++ junk).length * L.size := Nat.mul_le_mul_right _ (by simp)
      omega
    · rw [List.getElem?_append_left (List.getElem?_eq_some_iff.1 hk).1]; exact hk

/-- Is an environment another one's, but for numbers? -/
def EnvOk (ρ : Nat → Nat) (e : Env) : Env → Prop
  | [] => True
  | (k, v) :: t => WkV (e.get k) (v.ren ρ) ∧ EnvOk ρ e t
def HeapOk (ρ : Nat → Nat) (n3 : Nat) (H : Heap) : Heap → Prop
  | [] => True
  | (n, some b) :: t => (n < n3 ∧ ∃ b0, H.get (ρ n) = some b0 ∧ WkB b0 (b.ren ρ)) ∧ HeapOk ρ n3 H t
  | (_, none) :: t => HeapOk ρ n3 H t
/-- A list of numbers below a bound, none twice, the first ones by themselves. -/
def NumsOk (na nx : Nat) (l : List Nat) : Bool := l.all (fun n => Nat.blt n nx) && decide l.Nodup && Nat.ble na l.length && (List.range na).all (fun n => Nat.beq (l.getD n 0) n)

theorem EnvOk.get {ρ : Nat → Nat} {e : Env} : ∀ {e3 : Env}, EnvOk ρ e e3 → ∀ k, (e3.get k = .any) ∨ WkV (e.get k) ((e3.get k).ren ρ)
  | [], _, k => .inl (Env.get_nil k)
  | (j, v) :: t, h, k => by
    rw [Env.get_cons]
    by_cases hk : k = j
    · subst hk; rw [Nat.beq_refl]; exact .inr h.1
    · rw [beq_ff hk]; exact EnvOk.get h.2 k
theorem HeapOk.get [Syms] {ρ : Nat → Nat} {n3 : Nat} {H : Heap} : ∀ {H3 : Heap}, HeapOk ρ n3 H H3 → ∀ n b, H3.get n = some b → n < n3 ∧ ∃ b0, H.get (ρ n) = some b0 ∧ WkB b0 (b.ren ρ)
  | [], _, n, b, hb => by rw [Heap.get_nil] at hb; cases hb
  | (m, c) :: t, h, n, b, hb => by
    rw [Heap.get_cons] at hb
    by_cases hk : n = m
    · subst hk
      rw [Nat.beq_refl] at hb
      have hb : c = some b := hb
      subst hb
      exact h.1
    · rw [beq_ff hk] at hb
      cases c with
      | none => exact HeapOk.get (H3 := t) h n b hb
      | some c => exact HeapOk.get (H3 := t) h.2 n b hb

theorem nodup_at {l : List Nat} (h : l.Nodup) {n m : Nat} (hn : n < l.length) (hm : m < l.length) (e : l[n] = l[m]) : n = m := by
  have hp := List.pairwise_iff_getElem.1 h
  rcases Nat.lt_trichotomy n m with h1 | h1 | h1
  · exact absurd e (hp n m hn hm h1)
  · exact h1
  · exact absurd e.symm (hp m n hm hn h1)
theorem rho_inj {l : List Nat} {nx n m : Nat} (h1 : l.all (fun n => Nat.blt n nx) = true) (h2 : l.Nodup) (h : rho l nx n = rho l nx m) : n = m := by
  have hl : ∀ i, i < l.length → l.getD i 0 < nx := fun i hi => by
    have := List.all_eq_true.1 h1 (l.getD i 0) (by simp [hi])
    simpa [Nat.blt_eq] using this
  rcases Nat.lt_or_ge n l.length with hn | hn <;> rcases Nat.lt_or_ge m l.length with hm | hm
  · rw [rho_lt hn, rho_lt hm] at h
    simp [hn, hm] at h
    exact nodup_at h2 hn hm h
  · rw [rho_lt hn, rho_ge hm] at h
    have := hl n hn
    omega
  · rw [rho_ge hn, rho_lt hm] at h
    have := hl m hm
    omega
  · rw [rho_ge hn, rho_ge hm] at h
    omega

theorem pull_relH [Syms] {ρ : Nat → Nat} {ι : Inj} {n3 : Nat} {H H3 : Heap} {w : World} (hH : RelH ι H w) (hok : HeapOk ρ n3 H H3) (hinj : ∀ n m, ρ n = ρ m → n = m) : RelH (ι.pull ρ) H3 w ∧ ∀ g, Own (ι.pull ρ) H3 g → Own ι H g := by
  have hown : ∀ g, Own (ι.pull ρ) H3 g → Own ι H g := by
    rintro g ⟨n, b, L, h1, h2, h3, h4⟩
    obtain ⟨b0, k1, k2⟩ := (hok.get n b h1).2
    exact ⟨ρ n, b0, L, k1, by rw [k2.ro, Blk.ren_ro]; exact h2, h3, h4⟩
  refine ⟨⟨fun n b hb => ?_, fun n m b c L M hb hc hL hM hg => ?_, fun g cs hg => ⟨(hH.fz g cs hg).1, fun ho => (hH.fz g cs hg).2 (hown g ho)⟩⟩, hown⟩
  · obtain ⟨b0, k1, k2⟩ := (hok.get n b hb).2
    obtain ⟨L, h1, h2⟩ := hH.blk _ _ k1
    exact ⟨L, h1, (k2.rel h2).unren⟩
  · obtain ⟨b0, k1, k2⟩ := (hok.get n b hb).2
    obtain ⟨c0, k3, k4⟩ := (hok.get m c hc).2
    rcases hH.inj _ _ _ _ L M k1 k3 hL hM hg with h | h
    · exact .inl (hinj _ _ h)
    · rw [k2.ro, k4.ro, Blk.ren_ro, Blk.ren_ro] at h
      exact .inr h

/-- Other numbers. -/
theorem reb_num [Syms] {na N : Nat} {s : St} {e3 : Env} {H3 : Heap} (l : List Nat) (hl : NumsOk na s.nx l = true) (he : EnvOk (rho l s.nx) s.env e3) (hh : HeapOk (rho l s.nx) l.length s.heap H3) : Reb na N s ⟨e3, H3, l.length⟩ := by
  refine ⟨fun _ => ?_, ?_⟩
  · simp only [NumsOk, Bool.and_eq_true] at hl
    exact Nat.le_of_ble_eq_true hl.1.2
  intro ι a w hS
  simp only [NumsOk, Bool.and_eq_true, decide_eq_true_eq] at hl
  obtain ⟨⟨⟨h1, h2⟩, h3⟩, h4⟩ := hl
  have h3 : na ≤ l.length := Nat.le_of_ble_eq_true h3
  obtain ⟨g1, g2⟩ := pull_relH hS.heap hh (fun n m => rho_inj h1 h2)
  have hna : ∀ n, n < na → rho l s.nx n = n := fun n hn => by
    rw [rho_lt (by omega)]
    have := List.all_eq_true.1 h4 n (by simpa using hn)
    exact Nat.eq_of_beq_eq_true this
  refine ⟨ι.pull (rho l s.nx), ⟨hS.defers, hS.size, fun k => ?_, g1, fun n L hn => ?_⟩, ⟨fun n L hn hL => ?_, fun _ _ h => h, rfl, rfl, rfl, Nat.le_refl _, fun _ _ _ => rfl, fun g hg => .inl (g2 g hg), fun g cs hg => .inl hg, fun n L hn hL => ?_⟩⟩
  · rcases he.get k with h | h
    · show RelV _ (e3.get k) _
      rw [h]; exact .any _
    · exact (h.rel (hS.env k)).unren (e3.get k) rfl
  · have hb := hS.bound _ L hn
    refine ⟨?_, hb.2⟩
    rcases Nat.lt_or_ge n l.length with h | h
    · exact h
    · rw [rho_ge h] at hb
      omega
  · show ι (rho l s.nx n) = some L
    rw [hna n hn]; exact hL
  · have : ι (rho l s.nx n) = some L := hL
    rwa [hna n hn] at this

/-! What is written no more -/
def AVal.flat : AVal → Bool
  | .vs _ _ | .vp _ _ | .zs _ | .vt _ _ _ => true
  | v => v.closed1
theorem RelV.flat [Syms] {ι κ : Inj} (hz : ∀ g cs, ι.fz g = some cs → κ.fz g = some cs) {x : AVal} {v : Value} (hx : x.flat = true) (h : RelV ι x v) : RelV κ.bare x v := by
  have hb : ι.bare.le κ.bare := ⟨fun _ _ h => (nomatch h), hz⟩
  cases h with
  | vs sz rows g o c cs hf hl hm hp hr h1 h => exact .vs _ _ _ _ _ _ (hz _ _ hf) hl hm hp hr h1 fun k j row x v a b d => (h k j row x v a b d).mono hb
  | vp row j g b cs hf hp h1 h => exact .vp _ _ _ _ _ (hz _ _ hf) hp h1 fun i x v a b => (h i x v a b).mono hb
  | bool b => exact .bool b
  | int k n => exact .int k n
  | str s => exact .str s
  | nilp => exact .nilp
  | nils => exact .nils
  | nilf => exact .nilf
  | nili => exact .nili
  | sym n => exact .sym n
  | zs sz a => exact .zs sz a
  | vz sz a c hm hc => exact .vz sz a c hm hc
  | vt sz n f v h =>
    refine .vt sz n f v ?_
    generalize tabR n f = rows at h ⊢
    cases h with
    | vs _ _ g o c cs hf hl hm hp hr h1 h => exact .vs _ _ _ _ _ _ (hz _ _ hf) hl hm hp hr h1 fun k j row x v a b d => (h k j row x v a b d).mono hb
    | vz _ a c hm hc => exact .vz _ a c hm hc
  | _ => cases hx

def FzEnv (e : Env) (n : Nat) (rows : List (List AVal)) : Env → Prop
  | [] => True
  | (k, v) :: t => (e.get k = v ∨ ∃ off len sz cap, e.get k = .slice n off len sz cap ∧ 0 < len ∧ off + len ≤ rows.length ∧ v = .vs sz ((rows.drop off).take len)) ∧ FzEnv e n rows t
theorem FzEnv.get {e : Env} {n : Nat} {rows : List (List AVal)} : ∀ {e3 : Env}, FzEnv e n rows e3 → ∀ k, e3.get k = .any ∨ e.get k = e3.get k ∨ ∃ off len sz cap, e.get k = .slice n off len sz cap ∧ 0 < len ∧ off + len ≤ rows.length ∧ e3.get k = .vs sz ((rows.drop off).take len)
  | [], _, k => .inl (Env.get_nil k)
  | (j, v) :: t, h, k => by
    rw [Env.get_cons]
    by_cases hk : k = j
    · subst hk; rw [Nat.beq_refl]; exact .inr h.1
    · rw [beq_ff hk]; exact FzEnv.get h.2 k

/-- A block that is written no more. -/
theorem reb_freeze [Syms] {na N : Nat} {s : St} {n : Nat} {rows : List (List AVal)} {e3 : Env} (hb : s.heap.get n = some (.cells rows false)) (hf : ∀ r ∈ rows, ∀ x ∈ r, x.flat = true) (he : FzEnv s.env n rows e3) :
    Reb na N s ⟨e3, s.heap.set n none, s.nx⟩ := by
  refine ⟨fun h => h, ?_⟩
  intro ι a w hS
  obtain ⟨L, hL, hB⟩ := hS.heap.blk n _ hb
  obtain ⟨cs, e, fz, c1, c2, c3, c4, c5⟩ := hB.rows
  have hown : Own ι s.heap L.g := ⟨n, _, L, hb, rfl, hL, rfl⟩
  let κ : Inj := ⟨ι.loc, fun g => if g = L.g then some cs else ι.fz g⟩
  have hz : ∀ g ds, ι.fz g = some ds → κ.fz g = some ds := by
    intro g ds hg
    show (if g = L.g then some cs else ι.fz g) = some ds
    by_cases h : g = L.g
    · subst h; exact absurd hown (hS.heap.fz _ _ hg).2
    · rw [if_neg h]; exact hg
  have hle : ι.le κ := ⟨fun _ _ h => h, hz⟩
  have hsub : (s.heap.set n none).sub s.heap := by
    intro m b hm
    rw [Heap.get_set] at hm
    split at hm
    · cases hm
    · exact hm
  have hnot : ¬ Own κ (s.heap.set n none) L.g := by
    rintro ⟨m, b, M, h1, h2, h3, h4⟩
    have hmn : m ≠ n := fun e => by rw [e, Heap.get_set_same] at h1; cases h1
    rcases hS.heap.inj m n b _ M L (hsub _ _ h1) hb h3 hL h4 with h | h
    · exact hmn h
    · rw [h2] at h; cases h.1
  have hsz : ∀ x off len sz cap, RelV ι (.slice n off len sz cap) x → 0 < len → off + len ≤ rows.length → RelV κ (.vs sz ((rows.drop off).take len)) x := by
    intro x off len sz cap hx hlen hol
    cases hx with
    | slice _ _ _ _ _ L' a c h hs ha hl hp hm hc =>
      have : L' = L := by rw [hL] at h; exact (Option.some.inj h).symm
      subst this
      have ha := ha.resolve_left (by omega)
      subst ha
      have hrl : ((rows.drop off).take len).length = len := by simp; omega
      have hk : κ.fz L'.g = some cs := if_pos rfl
      have : Value.slice (some ⟨L'.g, L'.base + off * L'.size, none⟩) len c = Value.slice (some ⟨L'.g, L'.base + off * L'.size, none⟩) ((rows.drop off).take len).length c := by rw [hrl]
      rw [this]
      subst hs
      have hat : ∀ k row, ((rows.drop off).take len)[k]? = some row → k < len ∧ rows[off + k]? = some row := by
        intro k row hr
        have : k < len := by
          have := (List.getElem?_eq_some_iff.1 hr).1
          omega
        rw [List.getElem?_take_of_lt this, List.getElem?_drop] at hr
        exact ⟨this, hr⟩
      have hidx : ∀ k j, L'.base + off * L'.size + k * L'.size + j = L'.base + (off + k) * L'.size + j := fun k j => by rw [Nat.add_mul]; omega
      refine .vs _ _ _ _ _ cs hk (by omega) hm ?_ (fun k row hr => (c4 _ _ (hat k row hr).2).1) (fun k j v hk hj hv => ?_) (fun k j row x v hr hj hv => ?_)
      · rw [hrl, c2]
        have : (off + len) * L'.size ≤ rows.length * L'.size := Nat.mul_le_mul_right _ hol
        rw [Nat.add_mul] at this
        omega
      · rw [hrl] at hk
        have hlt : off + k < rows.length := by omega
        obtain ⟨g1, g2⟩ := c4 (off + k) (rows[off + k]) (by simp [hlt])
        have hj' : j < (rows[off + k]).length := by omega
        obtain ⟨v', v1, v2, v3⟩ := g2 j _ (List.getElem?_eq_getElem hj')
        rw [hidx] at hv
        rw [v1] at hv
        cases hv
        exact v2
      · obtain ⟨_, hr'⟩ := hat k row hr
        obtain ⟨g1, g2⟩ := c4 _ row hr'
        obtain ⟨v', v1, v2, v3⟩ := g2 j x hj
        rw [hidx] at hv
        rw [v1] at hv
        cases hv
        exact v3.flat hz (hf row (List.mem_of_getElem? hr') x (List.mem_of_getElem? hj))
  refine ⟨κ, ⟨hS.defers, hS.size, fun k => ?_, ⟨fun m b hm => ?_, fun m m' b b' M M' h1 h2 h3 h4 h5 => hS.heap.inj m m' b b' M M' (hsub _ _ h1) (hsub _ _ h2) h3 h4 h5, fun g ds hg => ?_⟩, hS.bound⟩, ⟨fun _ _ _ h => h, hz, rfl, rfl, rfl, Nat.le_refl _, fun _ _ _ => rfl, fun g hg => .inl ?_, fun g ds hg => ?_, fun _ _ _ h => h⟩⟩
  · rcases he.get k with h | h | ⟨off, len, sz, cap, h1, h2, h3, h4⟩
    · show RelV _ (e3.get k) _
      rw [h]; exact .any _
    · show RelV _ (e3.get k) _
      rw [← h]; exact (hS.env k).mono hle
    · show RelV _ (e3.get k) _
      rw [h4]
      have := hS.env k
      rw [h1] at this
      exact hsz _ _ _ _ _ this h2 h3
  · obtain ⟨M, h1, h2⟩ := hS.heap.blk m b (hsub _ _ hm)
    exact ⟨M, h1, h2.keep hle rfl⟩
  · by_cases h : g = L.g
    · subst h
      have hg : some cs = some ds := by rw [← hg]; exact (if_pos rfl).symm
      cases hg
      exact ⟨⟨e, fz, c1⟩, hnot⟩
    · have hg : ι.fz g = some ds := by rw [← hg]; exact (if_neg h).symm
      refine ⟨(hS.heap.fz g ds hg).1, fun ho => (hS.heap.fz g ds hg).2 ?_⟩
      obtain ⟨m, b, M, h1, h2, h3, h4⟩ := ho
      exact ⟨m, b, M, hsub _ _ h1, h2, h3, h4⟩
  · obtain ⟨m, b, M, h1, h2, h3, h4⟩ := hg
    exact ⟨m, b, M, hsub _ _ h1, h2, h3, h4⟩
  · by_cases h : g = L.g
    · subst h; exact .inr (.inr hown)
    · exact .inl (by rw [← hg]; exact (if_neg h).symm)

end Go.Av
