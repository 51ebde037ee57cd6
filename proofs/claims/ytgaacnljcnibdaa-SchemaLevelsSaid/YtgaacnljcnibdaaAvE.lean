/-
  Rows of cells, and what loads, stores and fills do to them. Over every program.
-/
import Derived.Test.YtgaacnljcnibdaaAvD
import Derived.Laws.CopyRow
import Derived.Laws.Append
set_option linter.unusedVariables false
noncomputable section
namespace Go.Av

def RowsAt [Syms] (ι : Inj) (cs : Array Value) (base size : Nat) (rows : List (List AVal)) : Prop :=
  ∀ (k : Nat) (row : List AVal), rows[k]? = some row → row.length = size ∧ ∀ (j : Nat) (x : AVal), row[j]? = some x → ∃ v, cs[base + k * size + j]? = some v ∧ v.oneCell' = true ∧ RelV ι x v

theorem succ_mul_le {a b s : Nat} (h : a < b) : a * s + s ≤ b * s := by
  have := Nat.mul_le_mul_right s (Nat.succ_le_of_lt h)
  rwa [Nat.succ_mul] at this

theorem RowsAt.mono [Syms] {ι κ : Inj} {cs : Array Value} {base size : Nat} {rows : List (List AVal)} (h : RowsAt ι cs base size rows) (hle : ι.le κ) : RowsAt κ cs base size rows :=
  fun k row hr => ⟨(h k row hr).1, fun j x hx => let ⟨v, h1, h2, h3⟩ := (h k row hr).2 j x hx; ⟨v, h1, h2, h3.mono hle⟩⟩
theorem RowsAt.keep [Syms] {ι : Inj} {cs cs' : Array Value} {base size : Nat} {rows : List (List AVal)} (h : RowsAt ι cs base size rows)
    (hk : ∀ i, base ≤ i → i < base + rows.length * size → cs'[i]? = cs[i]?) : RowsAt ι cs' base size rows := by
  intro k row hr
  obtain ⟨h1, h2⟩ := h k row hr
  refine ⟨h1, fun j x hx => ?_⟩
  obtain ⟨v, h3, h4⟩ := h2 j x hx
  have hj : j < row.length := (List.getElem?_eq_some_iff.1 hx).1
  have hkl : k < rows.length := (List.getElem?_eq_some_iff.1 hr).1
  have := succ_mul_le (s := size) hkl
  exact ⟨v, by rw [hk _ (by omega) (by omega)]; exact h3, h4⟩
theorem RowsAt.append [Syms] {ι : Inj} {cs : Array Value} {base size : Nat} {r1 r2 : List (List AVal)} (h1 : RowsAt ι cs base size r1) (h2 : RowsAt ι cs (base + r1.length * size) size r2) :
    RowsAt ι cs base size (r1 ++ r2) := by
  intro k row hr
  by_cases hk : k < r1.length
  · rw [List.getElem?_append_left hk] at hr
    exact h1 k row hr
  · rw [List.getElem?_append_right (by omega)] at hr
    obtain ⟨h3, h4⟩ := h2 _ row hr
    refine ⟨h3, fun j x hx => ?_⟩
    obtain ⟨v, h5, h6⟩ := h4 j x hx
    refine ⟨v, ?_, h6⟩
    rw [← h5]
    congr 1
    have : k * size = r1.length * size + (k - r1.length) * size := by rw [← Nat.add_mul]; congr 1; omega
    omega
theorem RowsAt.drop [Syms] {ι : Inj} {cs : Array Value} {base size : Nat} {rows : List (List AVal)} (h : RowsAt ι cs base size rows) (n : Nat) : RowsAt ι cs (base + n * size) size (rows.drop n) := by
  intro k row hr
  rw [List.getElem?_drop] at hr
  obtain ⟨h1, h2⟩ := h _ row hr
  refine ⟨h1, fun j x hx => ?_⟩
  obtain ⟨v, h3, h4⟩ := h2 j x hx
  refine ⟨v, ?_, h4⟩
  rw [← h3, Nat.add_mul, ← Nat.add_assoc]
theorem RowsAt.take [Syms] {ι : Inj} {cs : Array Value} {base size : Nat} {rows : List (List AVal)} (h : RowsAt ι cs base size rows) (n : Nat) : RowsAt ι cs base size (rows.take n) := by
  intro k row hr
  by_cases hk : k < n
  · rw [List.getElem?_take_of_lt hk] at hr
    exact h k row hr
  · rw [List.getElem?_eq_none (by simp; omega)] at hr
    cases hr

theorem pick_list [Syms] {ι : Inj} {Pr : Nat → Value → Prop} : ∀ (xs : List AVal) (o : Nat), (∀ j x, xs[j]? = some x → ∃ v, Pr (o + j) v ∧ RelV ι x v) → ∃ us, RelL ι xs us ∧ ∀ j u, us[j]? = some u → Pr (o + j) u
  | [], o, _ => ⟨[], .nil ι, by simp⟩
  | x :: xs, o, h => by
    obtain ⟨v, h1, h2⟩ := h 0 x rfl
    obtain ⟨us, h3, h4⟩ := pick_list xs (o + 1) (fun j y hy => by
      have := h (j + 1) y (by simpa using hy)
      rwa [show o + (j + 1) = o + 1 + j by omega] at this)
    refine ⟨v :: us, .cons h2 h3, fun j u hu => ?_⟩
    cases j with
    | zero => simp at hu; subst hu; exact h1
    | succ j =>
      simp at hu
      rw [show o + (j + 1) = o + 1 + j by omega]
      exact h4 j u hu

/-- Rows as one flat list of real cells. -/
theorem RowsAt.flat [Syms] {ι : Inj} {cs : Array Value} {size : Nat} : ∀ {rows : List (List AVal)} {base : Nat}, RowsAt ι cs base size rows →
    ∃ us, RelL ι rows.flatten us ∧ us.length = rows.length * size ∧ ∀ i u, us[i]? = some u → cs[base + i]? = some u ∧ u.oneCell' = true
  | [], base, _ => ⟨[], .nil ι, by simp, by simp⟩
  | row :: rows, base, h => by
    obtain ⟨h1, h2⟩ := h 0 row rfl
    obtain ⟨us, h3, h4⟩ := pick_list (ι := ι) (Pr := fun j v => cs[base + j]? = some v ∧ v.oneCell' = true) row 0 (fun j x hx => by
      obtain ⟨v, h5, h6, h7⟩ := h2 j x hx
      exact ⟨v, ⟨by rw [← h5]; congr 1; omega, h6⟩, h7⟩)
    have hd := RowsAt.drop h 1
    simp only [Nat.one_mul, List.drop_one, List.tail_cons] at hd
    obtain ⟨vs, h5, h6, h7⟩ := RowsAt.flat hd
    have hus : us.length = size := by rw [← h3.1, h1]
    refine ⟨us ++ vs, by simpa using h3.append h5, by simp [hus, h6, Nat.add_mul, Nat.add_comm], fun i u hu => ?_⟩
    by_cases hi : i < us.length
    · rw [List.getElem?_append_left hi] at hu
      have := h4 i u hu
      simpa using this
    · rw [List.getElem?_append_right (by omega)] at hu
      have := h7 _ u hu
      rw [hus] at this
      rwa [show base + size + (i - size) = base + i by omega] at this

/-- And back. -/
theorem RowsAt.of_flat [Syms] {ι : Inj} {cs : Array Value} {size : Nat} : ∀ {rows : List (List AVal)} {base : Nat} {us : List Value}, (∀ r ∈ rows, r.length = size) → RelL ι rows.flatten us →
    (∀ i u, us[i]? = some u → cs[base + i]? = some u ∧ u.oneCell' = true) → RowsAt ι cs base size rows
  | [], base, us, _, _, _ => by intro k row h; simp at h
  | row :: rows, base, us, hl, hr, hc => by
    have hrow : row.length = size := hl row (by simp)
    have h1 : RelL ι row (us.take size) := by
      have := hr.take size
      simp only [List.flatten_cons] at this
      rwa [List.take_append_of_le_length (by omega), List.take_of_length_le (by omega)] at this
    have h2 : RelL ι rows.flatten (us.drop size) := by
      have := hr.drop size
      simp only [List.flatten_cons] at this
      rwa [List.drop_append_of_le_length (by omega), List.drop_of_length_le (by omega), List.nil_append] at this
    have ih := RowsAt.of_flat (base := base + size) (fun r hr' => hl r (by simp [hr'])) h2 (fun i u hu => by
      rw [List.getElem?_drop] at hu
      have := hc _ u hu
      rwa [← Nat.add_assoc] at this)
    intro k r hk
    cases k with
    | zero =>
      simp at hk
      subst hk
      refine ⟨hrow, fun j x hx => ?_⟩
      obtain ⟨v, hv, hx'⟩ := h1.get hx
      have hj : j < row.length := (List.getElem?_eq_some_iff.1 hx).1
      rw [List.getElem?_take_of_lt (by omega)] at hv
      have := hc _ v hv
      exact ⟨v, by simpa using this.1, this.2, hx'⟩
    | succ k =>
      simp at hk
      obtain ⟨h3, h4⟩ := ih k r hk
      refine ⟨h3, fun j x hx => ?_⟩
      obtain ⟨v, h5, h6⟩ := h4 j x hx
      exact ⟨v, by rw [← h5]; congr 1; rw [Nat.add_mul]; omega, h6⟩

theorem RelB.rows [Syms] {ι : Inj} {w : World} {L : Loc} {rows : List (List AVal)} {ro : Bool} (h : RelB ι w L (.cells rows ro)) :
    ∃ (cs : Array Value) (e : TypeId) (fz : Nat × Nat), w.heap[L.g]? = some (.cells cs e fz) ∧ cs.size = L.phys ∧ L.base + rows.length * L.size ≤ L.phys ∧ RowsAt ι cs L.base L.size rows ∧
      (ro = false → ∀ o, o < L.phys → w.frozen? ⟨L.g, o, none⟩ = false) := h
theorem RelB.mk [Syms] {ι : Inj} {w : World} {L : Loc} {rows : List (List AVal)} {ro : Bool} {cs : Array Value} {e : TypeId} {fz : Nat × Nat} (h1 : w.heap[L.g]? = some (.cells cs e fz)) (h2 : cs.size = L.phys)
    (h3 : L.base + rows.length * L.size ≤ L.phys) (h4 : RowsAt ι cs L.base L.size rows) (h5 : ro = false → ∀ o, o < L.phys → w.frozen? ⟨L.g, o, none⟩ = false) : RelB ι w L (.cells rows ro) := ⟨cs, e, fz, h1, h2, h3, h4, h5⟩

theorem addr_add (g o n : Nat) : (⟨g, o, none⟩ : Addr).add n = ⟨g, o + n, none⟩ := by unfold Addr.add; split <;> simp_all

theorem run_storeCells_fz [Syms] {P : Program} (g o : Nat) (t : TypeId) (fz : Nat × Nat) : ∀ (vs : List Value) (i : Nat) (cur : Array Value) (w : World), w.heap[g]? = some (.cells cur t fz) →
    (∀ k, k < cur.size → w.frozen? ⟨g, k, none⟩ = false) → o + i + vs.length ≤ cur.size → (∀ v ∈ vs, v.oneCell' = true) →
    (storeCells ⟨g, o, none⟩ vs i).run P w = .ok () (w.setRow g (cur.toList.take (o + i) ++ vs ++ cur.toList.drop (o + i + vs.length)).toArray)
  | [], i, cur, w, hg, _, _, _ => by
    simp only [storeCells, List.append_nil, List.length_nil, Nat.add_zero, List.take_append_drop, Array.toArray_toList]
    rw [setRow_self w g cur t fz hg]
    rfl
  | v :: rest, i, cur, w, hg, hf, hl, h1 => by
    have hi : o + i < cur.size := by simp at hl; omega
    have hadd : (⟨g, o, none⟩ : Addr).add i = ⟨g, o + i, none⟩ := addr_add g o i
    have hcell : w.cell? ⟨g, o + i, none⟩ = some cur[o + i] := by simp [World.cell?, hg, hi]
    have hfro : w.frozen? ⟨g, o + i, none⟩ = false := hf _ hi
    have hst : (store ((⟨g, o, none⟩ : Addr).add i) v).run P w = .ok () (w.setRow g (cur.setIfInBounds (o + i) v)) := by
      rw [hadd, run_store P w _ v _ (h1 v (by simp)), hcell]
      simp [hfro, setCell_eq_setRow w g (o + i) cur t fz v hg]
    have hg' := setRow_heap w g cur (cur.setIfInBounds (o + i) v) t fz hg
    have ih := run_storeCells_fz (P := P) g o t fz rest (i + 1) (cur.setIfInBounds (o + i) v) (w.setRow g (cur.setIfInBounds (o + i) v)) hg'
      (fun k hk => by
        have := hf k (by simpa using hk)
        simp only [World.frozen?, hg] at this
        simp only [World.frozen?, hg']
        exact this) (by simp at hl ⊢; omega) (fun x hx => h1 x (by simp [hx]))
    simp only [storeCells, Sem.run_bind, hst, Result.andThen_ok, ih, setRow_setRow]
    congr 3
    have e := list_seg_step cur.toList (o + i) v rest (by simp at hl ⊢; omega)
    simpa [Array.toList_setIfInBounds, Nat.add_assoc] using e

/-- A piece laid over an array. -/
theorem seg_get (l : List Value) (p : Nat) (vs : List Value) (h : p + vs.length ≤ l.length) (q : Nat) :
    (l.take p ++ vs ++ l.drop (p + vs.length))[q]? = if p ≤ q ∧ q < p + vs.length then vs[q - p]? else l[q]? := by
  have hp : (l.take p).length = p := by simp; omega
  rw [List.append_assoc, List.getElem?_append]
  by_cases h1 : q < p
  · rw [if_pos (by omega), if_neg (by omega), List.getElem?_take_of_lt h1]
  · rw [if_neg (by omega), hp, List.getElem?_append]
    by_cases h2 : q - p < vs.length
    · rw [if_pos h2, if_pos (by omega)]
    · rw [if_neg h2, if_neg (by omega), List.getElem?_drop]
      congr 1
      omega

theorem splice_get (row cs : List AVal) (off : Nat) (h : off + cs.length ≤ row.length) (q : Nat) :
    (splice row off cs)[q]? = if off ≤ q ∧ q < off + cs.length then cs[q - off]? else row[q]? := by
  unfold splice
  have hp : (row.take off).length = off := by simp; omega
  rw [List.append_assoc, List.getElem?_append]
  by_cases h1 : q < off
  · rw [if_pos (by omega), if_neg (by omega), List.getElem?_take_of_lt h1]
  · rw [if_neg (by omega), hp, List.getElem?_append]
    by_cases h2 : q - off < cs.length
    · rw [if_pos h2, if_pos (by omega)]
    · rw [if_neg h2, if_neg (by omega), List.getElem?_drop]
      congr 1
      omega
theorem splice_length (row cs : List AVal) (off : Nat) (h : off + cs.length ≤ row.length) : (splice row off cs).length = row.length := by
  simp [splice]; omega

/-- A row is written in part. -/
theorem RowsAt.store [Syms] {ι : Inj} {cs : Array Value} {base size : Nat} {rows : List (List AVal)} {k j : Nat} {row xs : List AVal} {us : List Value} (h : RowsAt ι cs base size rows) (hk : rows[k]? = some row)
    (hj : j + xs.length ≤ row.length) (hus : RelL ι xs us) (hone : ∀ u ∈ us, u.oneCell' = true) (hsz : base + rows.length * size ≤ cs.size) :
    RowsAt ι (cs.toList.take (base + k * size + j) ++ us ++ cs.toList.drop (base + k * size + j + us.length)).toArray base size (rows.set k (splice row j xs)) := by
  have hrow := (h k row hk).1
  have hkl : k < rows.length := (List.getElem?_eq_some_iff.1 hk).1
  have hks := succ_mul_le (s := size) hkl
  have hlen := hus.1
  have hget := seg_get cs.toList (base + k * size + j) us (by simp; omega)
  intro k' row' hr'
  rw [List.getElem?_set] at hr'
  by_cases hkk : k = k'
  · subst hkk
    rw [if_pos rfl, if_pos hkl] at hr'
    cases hr'
    refine ⟨by rw [splice_length _ _ _ hj, hrow], fun q x hx => ?_⟩
    rw [splice_get _ _ _ hj] at hx
    by_cases hq : j ≤ q ∧ q < j + xs.length
    · rw [if_pos hq] at hx
      obtain ⟨v, hv, hxv⟩ := hus.get hx
      refine ⟨v, ?_, hone v (List.mem_of_getElem? hv), hxv⟩
      rw [List.getElem?_toArray, hget, if_pos (by omega), ← hv]
      congr 1
      omega
    · rw [if_neg hq] at hx
      obtain ⟨v, hv, h1⟩ := (h k row hk).2 q x hx
      refine ⟨v, ?_, h1⟩
      rw [List.getElem?_toArray, hget, if_neg (by omega), Array.getElem?_toList, hv]
  · rw [if_neg hkk] at hr'
    obtain ⟨h1, h2⟩ := h k' row' hr'
    refine ⟨h1, fun q x hx => ?_⟩
    obtain ⟨v, hv, h3⟩ := h2 q x hx
    refine ⟨v, ?_, h3⟩
    have hq : q < row'.length := (List.getElem?_eq_some_iff.1 hx).1
    have hcase : ¬ (base + k * size + j ≤ base + k' * size + q ∧ base + k' * size + q < base + k * size + j + us.length) := by
      rcases Nat.lt_or_gt_of_ne hkk with hlt | hgt
      · have := succ_mul_le (s := size) hlt
        omega
      · have := succ_mul_le (s := size) hgt
        omega
    rw [List.getElem?_toArray, hget, if_neg hcase, Array.getElem?_toList, hv]

/-- The fill of a literal: the model's, and ours. -/
theorem foldl_seg : ∀ (vs : List Value) (o i : Nat) (cells : Array Value), o + i + vs.length ≤ cells.size →
    (vs.zipIdx i).foldl (fun cs (x : Value × Nat) => cs.setIfInBounds (o + x.2) x.1) cells = (cells.toList.take (o + i) ++ vs ++ cells.toList.drop (o + i + vs.length)).toArray
  | [], o, i, cells, _ => by simp
  | v :: vs, o, i, cells, h => by
    simp only [List.zipIdx_cons, List.foldl_cons]
    have ih := foldl_seg vs o (i + 1) (cells.setIfInBounds (o + i) v) (by simp at h ⊢; omega)
    rw [ih]
    have e := list_seg_step cells.toList (o + i) v vs (by simp at h ⊢; omega)
    simpa [Array.toList_setIfInBounds, Nat.add_assoc] using e

theorem fill_rel [Syms] {ι : Inj} (place : Nat → Option (Nat × Nat)) : ∀ (parts : List (Nat × AVal)) (vals : List (Nat × Value)) (row row' : List AVal) (us : List Value),
    parts.length = vals.length → (∀ (i : Nat) (p : Nat × AVal) (q : Nat × Value), parts[i]? = some p → vals[i]? = some q → p.1 = q.1 ∧ RelV ι p.2 q.2) →
    RelL ι row us → (∀ u ∈ us, u.oneCell' = true) → afill place row parts = some row' → ∃ us', Instr.fill place us.toArray vals = some us'.toArray ∧ RelL ι row' us' ∧ ∀ u ∈ us', u.oneCell' = true
  | [], [], row, row', us, _, _, hr, ho, h => by
    simp only [afill, Option.some.injEq] at h
    subst h
    exact ⟨us, rfl, hr, ho⟩
  | (i, x) :: parts, (i', v) :: vals, row, row', us, hl, hp, hr, ho, h => by
    obtain ⟨h1, h2⟩ := hp 0 _ _ rfl rfl
    simp only at h1 h2
    subst h1
    simp only [afill] at h
    cases hpl : place i with
    | none => rw [hpl] at h; cases h
    | some os =>
      obtain ⟨off, size⟩ := os
      rw [hpl] at h
      simp only at h
      split at h
      · rename_i hc
        obtain ⟨hc1, hc2, hc3⟩ := hc
        obtain ⟨hc4, hc5⟩ := h2.cells (by simpa [allLeaf] using hc3)
        have hvs : v.cells.size = size := by have := hc4.1; simp at this; omega
        have hus : us.length = row.length := hr.1.symm
        have hseg := foldl_seg v.cells.toList off 0 us.toArray (by simp [hus, hvs]; omega)
        have hrel : RelL ι (splice row off x.cells) (us.take off ++ v.cells.toList ++ us.drop (off + v.cells.toList.length)) := by
          have := ((hr.take off).append hc4).append (hr.drop (off + x.cells.length))
          rw [show v.cells.toList.length = x.cells.length from hc4.1.symm]
          exact this
        obtain ⟨us', h3, h4, h5⟩ := fill_rel place parts vals _ _ _ (by simpa using hl) (fun k p q hp1 hq1 => hp (k + 1) p q (by simpa using hp1) (by simpa using hq1)) hrel (fun u hu => by
          simp only [List.mem_append] at hu
          rcases hu with (hu | hu) | hu
          · exact ho u (List.mem_of_mem_take hu)
          · exact hc5 u hu
          · exact ho u (List.mem_of_mem_drop hu)) h
        refine ⟨us', ?_, h4, h5⟩
        rw [← h3]
        simp only [Instr.fill, hpl]
        rw [if_neg (by simp [hvs, hus]; omega)]
        congr 1
        have hz : v.cells.zipIdx = (v.cells.toList.zipIdx 0).toArray := by
          apply Array.ext'
          rw [Array.toList_zipIdx]
        rw [hz]
        simpa using hseg
      · cases h
  | [], _ :: _, _, _, _, hl, _, _, _, _ => by simp at hl
  | _ :: _, [], _, _, _, hl, _, _, _, _ => by simp at hl

theorem chop_flatten (size : Nat) : ∀ (n : Nat) (l : List AVal), l.length = n * size → (chop size n l).flatten = l ∧ (∀ r ∈ chop size n l, r.length = size) ∧ (chop size n l).length = n
  | 0, l, h => by
    have : l = [] := List.eq_nil_of_length_eq_zero (by simpa using h)
    subst this
    simp [chop]
  | n + 1, l, h => by
    have h1 : size ≤ l.length := by rw [h, Nat.add_mul]; omega
    obtain ⟨i1, i2, i3⟩ := chop_flatten size n (l.drop size) (by simp [h, Nat.add_mul])
    refine ⟨by simp [chop, i1], fun r hr => ?_, by simp [chop, i3]⟩
    simp only [chop, List.mem_cons] at hr
    rcases hr with rfl | hr
    · simp; omega
    · exact i2 r hr

theorem afill_length [Syms] (place : Nat → Option (Nat × Nat)) : ∀ (parts : List (Nat × AVal)) (row row' : List AVal), afill place row parts = some row' → row'.length = row.length
  | [], row, row', h => by simp only [afill, Option.some.injEq] at h; subst h; rfl
  | (i, x) :: parts, row, row', h => by
    simp only [afill] at h
    cases hpl : place i with
    | none => rw [hpl] at h; cases h
    | some os =>
      obtain ⟨off, size⟩ := os
      rw [hpl] at h
      simp only at h
      split at h
      · rename_i hc
        rw [afill_length place parts _ _ h, splice_length _ _ _ (by omega)]
      · cases h

end Go.Av
