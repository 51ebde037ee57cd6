/-
  The abstract state of a Go function: values, blocks by number, and how a real world is read as one. Over every program.
-/
import Derived.Orders
import Derived.ScopeJumps
import Derived.Laws.AppendOwn
import Derived.Below
noncomputable section
namespace Go.Av

/-- A value, read without addresses: a block has a number of the proof's own. -/
inductive AVal where
  | any
  | bool (b : Bool)
  | int (k : IntKind) (n : Int)
  | str (s : List UInt8)
  | nilp
  | ptr (n k j : Nat)
  | nils
  | slice (n off len sz : Nat) (cap : Option Nat)
  | agg (cs : List AVal)
  | tup (vs : List AVal)
  | func (f : FuncId) (caps : List AVal)
  | nilf
  | nili
  | iface (t : TypeId) (v : AVal)
  | obj (n : Nat)
  | sym (n : Nat)
  | vs (sz : Nat) (rows : List (List AVal))
  | vp (row : List AVal) (j : Nat)
  | zs (sz : Nat)
  | vt (sz n : Nat) (f : Nat → List AVal)
  deriving Inhabited
/-- A table's rows. -/
def tabR (n : Nat) (f : Nat → List AVal) : List (List AVal) := (List.range n).map f

/-- Values that are given, each by a number. -/
class Syms where
  val : Nat → Value
  one : ∀ n, (val n).oneCell' = true ∧ (val n).cells = #[val n]

/-- Where a block lies. -/
structure Loc where
  g : Nat
  base : Nat
  size : Nat
  phys : Nat

/-- Where the blocks lie; and memory that is written no more, with what it holds. -/
structure Inj where
  loc : Nat → Option Loc
  fz : Nat → Option (Array Value)
instance : CoeFun Inj fun _ => Nat → Option Loc := ⟨Inj.loc⟩
/-- The memory alone that is written no more. -/
def Inj.bare (ι : Inj) : Inj := ⟨fun _ => none, ι.fz⟩

inductive RelV [Syms] : Inj → AVal → Value → Prop
  | any {ι : Inj} (v : Value) : RelV ι .any v
  | bool {ι : Inj} (b : Bool) : RelV ι (.bool b) (.bool b)
  | int {ι : Inj} (k : IntKind) (n : Int) : RelV ι (.int k n) (.int k n)
  | str {ι : Inj} (s : List UInt8) : RelV ι (.str s) (.string ⟨⟨s⟩⟩)
  | nilp {ι : Inj} : RelV ι .nilp (.pointer none)
  | ptr {ι : Inj} (n k j : Nat) (L : Loc) (h : ι n = some L) : RelV ι (.ptr n k j) (.pointer (some ⟨L.g, L.base + k * L.size + j, none⟩))
  | nils {ι : Inj} : RelV ι .nils (.slice none 0 0)
  | slice {ι : Inj} (n off len sz : Nat) (cap : Option Nat) (L : Loc) (a : Addr) (c : Nat) (h : ι n = some L) (hs : L.size = sz) (ha : c = 0 ∨ a = ⟨L.g, L.base + off * L.size, none⟩) (hl : len ≤ c)
      (hp : L.base + (off + c) * L.size ≤ L.phys) (hm : c ≤ maxLen) (hc : ∀ k, cap = some k → c = k) : RelV ι (.slice n off len sz cap) (.slice (some a) len c)
  | agg {ι : Inj} (cs : List AVal) (vs : List Value) (hl : cs.length = vs.length) (h : ∀ (i : Nat) (c : AVal) (v : Value), cs[i]? = some c → vs[i]? = some v → RelV ι c v) : RelV ι (.agg cs) (.agg ⟨vs⟩)
  | tup {ι : Inj} (cs : List AVal) (vs : List Value) (hl : cs.length = vs.length) (h : ∀ (i : Nat) (c : AVal) (v : Value), cs[i]? = some c → vs[i]? = some v → RelV ι c v) : RelV ι (.tup cs) (.tuple ⟨vs⟩)
  | func {ι : Inj} (f : FuncId) (cs : List AVal) (vs : List Value) (hl : cs.length = vs.length) (h : ∀ (i : Nat) (c : AVal) (v : Value), cs[i]? = some c → vs[i]? = some v → RelV ι c v) :
      RelV ι (.func f cs) (.func (.func f) #[] ⟨vs⟩)
  | nilf {ι : Inj} : RelV ι .nilf .nilFunc
  | nili {ι : Inj} : RelV ι .nili .nilIface
  | iface {ι : Inj} (t : TypeId) (x : AVal) (v : Value) (h : RelV ι x v) : RelV ι (.iface t x) (.iface t v)
  | obj {ι : Inj} (n : Nat) (L : Loc) (h : ι n = some L) : RelV ι (.obj n) (.pointer (some ⟨L.g, 0, none⟩))
  | sym {ι : Inj} (n : Nat) : RelV ι (.sym n) (Syms.val n)
  | vs {ι : Inj} (sz : Nat) (rows : List (List AVal)) (g o c : Nat) (cs : Array Value) (hf : ι.fz g = some cs) (hl : rows.length ≤ c) (hm : c ≤ maxLen) (hp : o + rows.length * sz ≤ cs.size)
      (hr : ∀ (k : Nat) (row : List AVal), rows[k]? = some row → row.length = sz) (h1 : ∀ (k j : Nat) (v : Value), k < rows.length → j < sz → cs[o + k * sz + j]? = some v → v.oneCell' = true)
      (h : ∀ (k j : Nat) (row : List AVal) (x : AVal) (v : Value), rows[k]? = some row → row[j]? = some x → cs[o + k * sz + j]? = some v → RelV ι.bare x v) : RelV ι (.vs sz rows) (.slice (some ⟨g, o, none⟩) rows.length c)
  | vp {ι : Inj} (row : List AVal) (j g b : Nat) (cs : Array Value) (hf : ι.fz g = some cs) (hp : b + row.length ≤ cs.size) (h1 : ∀ (i : Nat) (v : Value), i < row.length → cs[b + i]? = some v → v.oneCell' = true)
      (h : ∀ (i : Nat) (x : AVal) (v : Value), row[i]? = some x → cs[b + i]? = some v → RelV ι.bare x v) : RelV ι (.vp row j) (.pointer (some ⟨g, b + j, none⟩))
  | zs {ι : Inj} (sz : Nat) (a : Option Addr) : RelV ι (.zs sz) (.slice a 0 0)
  | vz {ι : Inj} (sz : Nat) (a : Option Addr) (c : Nat) (hm : c ≤ maxLen) (hc : a = none → c = 0) : RelV ι (.vs sz []) (.slice a 0 c)
  | vt {ι : Inj} (sz n : Nat) (f : Nat → List AVal) (v : Value) (h : RelV ι (.vs sz (tabR n f)) v) : RelV ι (.vt sz n f) v

/-- Two lists, value by value. -/
def RelL [Syms] (ι : Inj) (cs : List AVal) (vs : List Value) : Prop := cs.length = vs.length ∧ ∀ (i : Nat) (c : AVal) (v : Value), cs[i]? = some c → vs[i]? = some v → RelV ι c v

theorem RelL.nil [Syms] (ι : Inj) : RelL ι [] [] := ⟨rfl, fun i c v h => by simp at h⟩
theorem RelL.cons [Syms] {ι : Inj} {c : AVal} {v : Value} {cs : List AVal} {vs : List Value} (h : RelV ι c v) (hs : RelL ι cs vs) : RelL ι (c :: cs) (v :: vs) := by
  refine ⟨by simp [hs.1], fun i c' v' h1 h2 => ?_⟩
  cases i with
  | zero => simp at h1 h2; subst h1; subst h2; exact h
  | succ i => simp at h1 h2; exact hs.2 i c' v' h1 h2
theorem RelL.uncons [Syms] {ι : Inj} {c : AVal} {cs : List AVal} {vs : List Value} (h : RelL ι (c :: cs) vs) : ∃ v vs', vs = v :: vs' ∧ RelV ι c v ∧ RelL ι cs vs' := by
  cases vs with
  | nil => have := h.1; simp at this
  | cons v vs' =>
    refine ⟨v, vs', rfl, h.2 0 c v rfl rfl, by have := h.1; simpa using this, fun i c' v' h1 h2 => h.2 (i + 1) c' v' (by simpa using h1) (by simpa using h2)⟩
theorem RelL.unnil [Syms] {ι : Inj} {vs : List Value} (h : RelL ι [] vs) : vs = [] := by
  have := h.1
  cases vs with
  | nil => rfl
  | cons v vs' => simp at this
theorem RelL.get [Syms] {ι : Inj} {cs : List AVal} {vs : List Value} (h : RelL ι cs vs) {i : Nat} {c : AVal} (hi : cs[i]? = some c) : ∃ v, vs[i]? = some v ∧ RelV ι c v := by
  have hlt : i < cs.length := (List.getElem?_eq_some_iff.1 hi).1
  have hv : vs[i]? = some (vs[i]'(by rw [← h.1]; exact hlt)) := List.getElem?_eq_getElem _
  exact ⟨_, hv, h.2 i c _ hi hv⟩
theorem RelL.append [Syms] {ι : Inj} {cs ds : List AVal} {vs us : List Value} (h : RelL ι cs vs) (k : RelL ι ds us) : RelL ι (cs ++ ds) (vs ++ us) := by
  refine ⟨by simp [h.1, k.1], fun i c v h1 h2 => ?_⟩
  by_cases hi : i < cs.length
  · rw [List.getElem?_append_left hi] at h1
    rw [List.getElem?_append_left (by rw [← h.1]; exact hi)] at h2
    exact h.2 i c v h1 h2
  · rw [List.getElem?_append_right (by omega)] at h1
    rw [List.getElem?_append_right (by rw [← h.1]; omega)] at h2
    rw [← h.1] at h2
    exact k.2 _ c v h1 h2
theorem RelL.take [Syms] {ι : Inj} {cs : List AVal} {vs : List Value} (h : RelL ι cs vs) (n : Nat) : RelL ι (cs.take n) (vs.take n) := by
  refine ⟨by simp [h.1], fun i c v h1 h2 => ?_⟩
  by_cases hi : i < n
  · rw [List.getElem?_take_of_lt hi] at h1 h2
    exact h.2 i c v h1 h2
  · rw [List.getElem?_eq_none (by simp; omega)] at h1
    cases h1
theorem RelL.drop [Syms] {ι : Inj} {cs : List AVal} {vs : List Value} (h : RelL ι cs vs) (n : Nat) : RelL ι (cs.drop n) (vs.drop n) := by
  refine ⟨by simp [h.1], fun i c v h1 h2 => ?_⟩
  rw [List.getElem?_drop] at h1 h2
  exact h.2 _ c v h1 h2

theorem RelV.of_agg [Syms] {ι : Inj} {cs : List AVal} {v : Value} (h : RelV ι (.agg cs) v) : ∃ vs, v = .agg ⟨vs⟩ ∧ RelL ι cs vs := by
  cases h with
  | agg _ vs hl h => exact ⟨vs, rfl, hl, h⟩
theorem RelV.mk_agg [Syms] {ι : Inj} {cs : List AVal} {vs : List Value} (h : RelL ι cs vs) : RelV ι (.agg cs) (.agg ⟨vs⟩) := .agg cs vs h.1 h.2
theorem RelV.of_tup [Syms] {ι : Inj} {cs : List AVal} {v : Value} (h : RelV ι (.tup cs) v) : ∃ vs, v = .tuple ⟨vs⟩ ∧ RelL ι cs vs := by
  cases h with
  | tup _ vs hl h => exact ⟨vs, rfl, hl, h⟩
theorem RelV.mk_tup [Syms] {ι : Inj} {cs : List AVal} {vs : List Value} (h : RelL ι cs vs) : RelV ι (.tup cs) (.tuple ⟨vs⟩) := .tup cs vs h.1 h.2

def Inj.le (ι κ : Inj) : Prop := (∀ n L, ι n = some L → κ n = some L) ∧ ∀ g cs, ι.fz g = some cs → κ.fz g = some cs
theorem Inj.bare_le (ι : Inj) : ι.bare.le ι := ⟨fun _ _ h => (nomatch h), fun _ _ h => h⟩
theorem Inj.le_refl (ι : Inj) : ι.le ι := ⟨fun _ _ h => h, fun _ _ h => h⟩
theorem Inj.le_trans {ι κ μ : Inj} (h : ι.le κ) (k : κ.le μ) : ι.le μ := ⟨fun n L e => k.1 n L (h.1 n L e), fun n L e => k.2 n L (h.2 n L e)⟩

theorem RelV.mono [Syms] {ι κ : Inj} (hle : ι.le κ) {x : AVal} {v : Value} (h : RelV ι x v) : RelV κ x v := by
  induction h generalizing κ with
  | any v => exact .any v
  | bool b => exact .bool b
  | int k n => exact .int k n
  | str s => exact .str s
  | nilp => exact .nilp
  | ptr n k j L h => exact .ptr n k j L (hle.1 _ _ h)
  | nils => exact .nils
  | slice n off len sz cap L a c h hs ha hl hp hm hc => exact .slice n off len sz cap L a c (hle.1 _ _ h) hs ha hl hp hm hc
  | agg cs vs hl h ih => exact .agg cs vs hl fun i c v h1 h2 => ih i c v h1 h2 hle
  | tup cs vs hl h ih => exact .tup cs vs hl fun i c v h1 h2 => ih i c v h1 h2 hle
  | func f cs vs hl h ih => exact .func f cs vs hl fun i c v h1 h2 => ih i c v h1 h2 hle
  | nilf => exact .nilf
  | nili => exact .nili
  | iface t x v h ih => exact .iface t x v (ih hle)
  | obj n L h => exact .obj n L (hle.1 _ _ h)
  | sym n => exact .sym n
  | vs sz rows g o c cs hf hl hm hp hr h1 h ih => exact .vs sz rows g o c cs (hle.2 _ _ hf) hl hm hp hr h1 fun k j row x v a b c => ih k j row x v a b c ⟨fun _ _ h => (nomatch h), hle.2⟩
  | vp row j g b cs hf hp h1 h ih => exact .vp row j g b cs (hle.2 _ _ hf) hp h1 fun i x v a b => ih i x v a b ⟨fun _ _ h => (nomatch h), hle.2⟩
  | zs sz a => exact .zs sz a
  | vz sz a c hm hc => exact .vz sz a c hm hc
  | vt sz n f v h ih => exact .vt sz n f v (ih hle)
theorem RelL.mono [Syms] {ι κ : Inj} (hle : ι.le κ) {cs : List AVal} {vs : List Value} (h : RelL ι cs vs) : RelL κ cs vs := ⟨h.1, fun i c v h1 h2 => (h.2 i c v h1 h2).mono hle⟩

/-- The cells of a value. -/
def AVal.cells : AVal → List AVal
  | .agg cs => cs
  | v => [v]
/-- Is it a value of one cell, and known? -/
def AVal.leaf : AVal → Bool
  | .any | .agg _ | .tup _ => false
  | _ => true

theorem RelV.leaf_one [Syms] {ι : Inj} {x : AVal} {v : Value} (h : RelV ι x v) (hx : x.leaf = true) : v.oneCell' = true ∧ v.cells = #[v] := by
  cases h <;> first | (simp [AVal.leaf] at hx; done) | exact ⟨rfl, rfl⟩ | exact Syms.one _ | (rename_i h; generalize tabR _ _ = rows at h; cases h <;> exact ⟨rfl, rfl⟩)
theorem RelV.cells [Syms] {ι : Inj} {x : AVal} {v : Value} (h : RelV ι x v) (hx : ∀ c ∈ x.cells, c.leaf = true) : RelL ι x.cells v.cells.toList ∧ ∀ u ∈ v.cells.toList, u.oneCell' = true := by
  cases x with
  | agg cs =>
    obtain ⟨vs, rfl, hl⟩ := h.of_agg
    refine ⟨hl, fun u hu => ?_⟩
    obtain ⟨i, hi⟩ := List.mem_iff_getElem?.1 hu
    simp only [Value.cells] at hi
    have hlt : i < cs.length := by rw [hl.1]; exact (List.getElem?_eq_some_iff.1 hi).1
    have hc : cs[i]? = some cs[i] := List.getElem?_eq_getElem hlt
    exact ((hl.2 i _ u hc hi).leaf_one (hx _ (List.mem_of_getElem? hc))).1
  | any => simp [AVal.cells, AVal.leaf] at hx
  | tup vs => simp [AVal.cells, AVal.leaf] at hx
  | _ =>
    have := h.leaf_one rfl
    rw [this.2]
    exact ⟨.cons h (.nil ι), by simpa using this.1⟩

/-- A block: rows of cells (one variable: one row), or a walk over a string. -/
inductive Blk where
  | cells (rows : List (List AVal)) (ro : Bool)
  | iter (s : List UInt8) (pos : Nat)
  deriving Inhabited

def Blk.ro : Blk → Bool
  | .cells _ ro => ro
  | .iter _ _ => false

abbrev Heap := List (Nat × Option Blk)

-- by the recursor: the kernel runs it, again and again
def Heap.get (h : Heap) (n : Nat) : Option Blk := @List.rec (Nat × Option Blk) (fun _ => Option Blk) none (fun p _ ih => @Bool.rec (fun _ => Option Blk) ih p.2 (Nat.beq n p.1)) h
def Heap.set (h : Heap) (n : Nat) (b : Option Blk) : Heap := @List.rec (Nat × Option Blk) (fun _ => Heap) [(n, b)] (fun p t ih => @Bool.rec (fun _ => Heap) (p :: ih) ((n, b) :: t) (Nat.beq n p.1)) h
theorem Heap.get_nil (n : Nat) : Heap.get [] n = none := rfl
theorem Heap.get_cons (m : Nat) (b : Option Blk) (h : Heap) (n : Nat) : Heap.get ((m, b) :: h) n = bif Nat.beq n m then b else Heap.get h n := by
  show @Bool.rec (fun _ => Option Blk) (Heap.get h n) b (Nat.beq n m) = _
  cases Nat.beq n m <;> rfl
theorem Heap.set_nil (n : Nat) (b : Option Blk) : Heap.set [] n b = [(n, b)] := rfl
theorem Heap.set_cons (m : Nat) (c : Option Blk) (h : Heap) (n : Nat) (b : Option Blk) : Heap.set ((m, c) :: h) n b = bif Nat.beq n m then (n, b) :: h else (m, c) :: Heap.set h n b := by
  show @Bool.rec (fun _ => Heap) ((m, c) :: Heap.set h n b) ((n, b) :: h) (Nat.beq n m) = _
  cases Nat.beq n m <;> rfl

theorem beq_ff {a b : Nat} (h : a ≠ b) : Nat.beq a b = false := by
  cases hb : Nat.beq a b with
  | false => rfl
  | true => exact absurd (Nat.eq_of_beq_eq_true hb) h

theorem Heap.get_set [Syms] (h : Heap) (n : Nat) (b : Option Blk) (k : Nat) : (h.set n b).get k = if k = n then b else h.get k := by
  induction h with
  | nil =>
    simp only [Heap.set_nil, Heap.set_cons, Heap.get_nil, Heap.get_cons]
    by_cases hk : k = n
    · simp [hk]
    · have : Nat.beq k n = false := beq_ff hk
      simp [this, hk]
  | cons x h ih =>
    obtain ⟨m, c⟩ := x
    simp only [Heap.set_nil, Heap.set_cons]
    by_cases hm : n = m
    · subst hm
      simp only [Nat.beq_refl, cond_true, Heap.get_nil, Heap.get_cons]
      by_cases hk : k = n
      · simp [hk]
      · have : Nat.beq k n = false := beq_ff hk
        simp [this, hk]
    · have hb : Nat.beq n m = false := beq_ff hm
      simp only [hb, cond_false, Heap.get_nil, Heap.get_cons, ih]
      by_cases hk : k = m
      · subst hk
        have : ¬ k = n := fun e => hm e.symm
        simp [this]
      · have : Nat.beq k m = false := beq_ff hk
        simp [this]
theorem Heap.get_set_same [Syms] (h : Heap) (n : Nat) (b : Option Blk) : (h.set n b).get n = b := by rw [Heap.get_set, if_pos rfl]
theorem Heap.get_set_ne [Syms] (h : Heap) {n k : Nat} (b : Option Blk) (hne : k ≠ n) : (h.set n b).get k = h.get k := by rw [Heap.get_set, if_neg hne]

/-- What a block is in the world. -/
def RelB [Syms] (ι : Inj) (w : World) (L : Loc) : Blk → Prop
  | .cells rows ro => ∃ (cs : Array Value) (e : TypeId) (fz : Nat × Nat), w.heap[L.g]? = some (.cells cs e fz) ∧ cs.size = L.phys ∧ L.base + rows.length * L.size ≤ L.phys ∧
      (∀ (k : Nat) (row : List AVal), rows[k]? = some row → row.length = L.size ∧ ∀ (j : Nat) (x : AVal), row[j]? = some x → ∃ v, cs[L.base + k * L.size + j]? = some v ∧ v.oneCell' = true ∧ RelV ι x v) ∧
      (ro = false → ∀ o, o < L.phys → w.frozen? ⟨L.g, o, none⟩ = false)
  | .iter s pos => w.heap[L.g]? = some (.stringIter ⟨⟨s⟩⟩ pos)

/-- Is real block g one that the abstract heap may write? -/
def Own (ι : Inj) (H : Heap) (g : Nat) : Prop := ∃ n b L, H.get n = some b ∧ b.ro = false ∧ ι n = some L ∧ L.g = g

structure RelH [Syms] (ι : Inj) (H : Heap) (w : World) : Prop where
  blk : ∀ n b, H.get n = some b → ∃ L, ι n = some L ∧ RelB ι w L b
  inj : ∀ n m b c L M, H.get n = some b → H.get m = some c → ι n = some L → ι m = some M → L.g = M.g → n = m ∨ (b.ro = true ∧ c.ro = true)
  fz : ∀ g cs, ι.fz g = some cs → (∃ e z, w.heap[g]? = some (.cells cs e z)) ∧ ¬ Own ι H g

/-- All numbers in use are below nx, and lie in blocks that are there. -/
def Bound (ι : Inj) (nx : Nat) (w : World) : Prop := ∀ n L, ι n = some L → n < nx ∧ L.g < w.heap.size

/-- What has become of the world, seen from an abstract heap. -/
structure Step (ι : Inj) (H : Heap) (w : World) (κ : Inj) (H' : Heap) (w' : World) : Prop where
  le : ι.le κ
  os : w'.os = w.os
  tape : w'.tape = w.tape
  output : w'.output = w.output
  size : w.heap.size ≤ w'.heap.size
  same : ∀ g, g < w.heap.size → ¬ Own ι H g → w'.heap[g]? = w.heap[g]?
  own : ∀ g, Own κ H' g → Own ι H g ∨ w.heap.size ≤ g
  fzs : ∀ g cs, κ.fz g = some cs → ι.fz g = some cs ∨ w.heap.size ≤ g ∨ Own ι H g

theorem Step.refl [Syms] (ι : Inj) (H : Heap) (w : World) : Step ι H w ι H w := ⟨Inj.le_refl ι, rfl, rfl, rfl, Nat.le_refl _, fun _ _ _ => rfl, fun _ h => .inl h, fun _ _ h => .inl h⟩
theorem Step.trans [Syms] {ι κ μ : Inj} {H H' H'' : Heap} {w w' w'' : World} (h : Step ι H w κ H' w') (k : Step κ H' w' μ H'' w'') : Step ι H w μ H'' w'' where
  le := Inj.le_trans h.le k.le
  os := k.os.trans h.os
  tape := k.tape.trans h.tape
  output := k.output.trans h.output
  size := Nat.le_trans h.size k.size
  same g hg ho := by
    rw [k.same g (Nat.lt_of_lt_of_le hg h.size) (fun ho' => (h.own g ho').elim ho (fun hge => by omega)), h.same g hg ho]
  own g ho := by
    rcases k.own g ho with h1 | h1
    · exact h.own g h1
    · exact .inr (Nat.le_trans h.size h1)
  fzs g cs hg := by
    rcases k.fzs g cs hg with h1 | h1 | h1
    · exact h.fzs g cs h1
    · exact .inr (.inl (Nat.le_trans h.size h1))
    · rcases h.own g h1 with h2 | h2
      · exact .inr (.inr h2)
      · exact .inr (.inl h2)
theorem Step.drew [Syms] (ι : Inj) (H : Heap) (w : World) (n : Nat) : Step ι H w ι H { w with drawn := n } := ⟨Inj.le_refl ι, rfl, rfl, rfl, Nat.le_refl _, fun _ _ _ => rfl, fun _ h => .inl h, fun _ _ h => .inl h⟩

/-- Blocks may be forgotten. -/
def Heap.sub (H K : Heap) : Prop := ∀ n b, H.get n = some b → K.get n = some b
theorem Heap.sub_refl (H : Heap) : H.sub H := fun _ _ h => h
theorem Heap.sub_trans {H K M : Heap} (h : H.sub K) (k : K.sub M) : H.sub M := fun n b e => k n b (h n b e)
theorem Own.sub {ι : Inj} {H K : Heap} {g : Nat} (h : Own ι H g) (hs : H.sub K) : Own ι K g :=
  let ⟨n, b, L, h1, h2, h3, h4⟩ := h
  ⟨n, b, L, hs _ _ h1, h2, h3, h4⟩
theorem RelH.sub [Syms] {ι : Inj} {H K : Heap} {w : World} (h : RelH ι K w) (hs : H.sub K) : RelH ι H w :=
  ⟨fun n b hb => h.blk n b (hs n b hb), fun n m b c L M h1 h2 h3 h4 h5 => h.inj n m b c L M (hs _ _ h1) (hs _ _ h2) h3 h4 h5, fun g cs hg => ⟨(h.fz g cs hg).1, fun ho => (h.fz g cs hg).2 (ho.sub hs)⟩⟩
/-- What is written no more stays so. -/
theorem RelH.fz_keep [Syms] {ι κ : Inj} {H H' : Heap} {w w' : World} (h : RelH ι H w) (hst : Step ι H w κ H' w') (hκ : κ.fz = ι.fz) : ∀ g cs, κ.fz g = some cs → (∃ e z, w'.heap[g]? = some (.cells cs e z)) ∧ ¬ Own κ H' g := by
  intro g cs hg
  rw [hκ] at hg
  obtain ⟨⟨e, z, h1⟩, h2⟩ := h.fz g cs hg
  have hlt : g < w.heap.size := by
    rcases Nat.lt_or_ge g w.heap.size with h' | h'
    · exact h'
    · rw [Array.getElem?_eq_none h'] at h1; cases h1
  exact ⟨⟨e, z, by rw [hst.same g hlt h2]; exact h1⟩, fun ho => (hst.own g ho).elim h2 (fun h' => by omega)⟩
theorem Step.sub_right [Syms] {ι κ : Inj} {H H' K : Heap} {w w' : World} (h : Step ι H w κ H' w') (hs : K.sub H') : Step ι H w κ K w' :=
  ⟨h.le, h.os, h.tape, h.output, h.size, h.same, fun g hg => h.own g (hg.sub hs), h.fzs⟩

end Go.Av
