/-
  The abstract step is sound: stores, new blocks, conversions, walks over texts. Over every program.
-/
import Derived.Test.YtgaacnljcnibdaaAvI
set_option linter.unusedVariables false
set_option linter.unusedSimpArgs false
noncomputable section
namespace Go.Av

section
variable {P : Program} {tt : TT} {ι : Inj} {w : World} {H : Heap} {m : Nat}

theorem frozen_row {w : World} {g : Nat} {cs : Array Value} {e : TypeId} {fz : Nat × Nat} (h : w.heap[g]? = some (.cells cs e fz)) (o : Nat) : w.frozen? ⟨g, o, none⟩ = (decide (fz.1 ≤ o) && decide (o < fz.2)) := by
  simp [World.frozen?, h]

theorem astore_sound [Syms] (htt : TT.ok P tt) (hH : RelH ι H w) {t : TypeId} {x y : AVal} {v u : Value} {H' : Heap} (hx : RelV ι x v) (hy : RelV ι y u) (h : astore tt H t x y = some H') :
    ∃ w', (Instr.storeAt t v u).run P w = .ok () w' ∧ RelH ι H' w' ∧ Step ι H w ι H' w' := by
  unfold astore at h
  split at h
  · rename_i n k j
    split at h
    · rename_i rows ty hb hty
      obtain ⟨d, i, hd, hi, hk, hsz, _⟩ := tt_at htt hty
      split at h
      · rename_i row hrow
        split at h
        · rename_i hc
          obtain ⟨c1, c2, c3⟩ := hc
          cases h
          obtain ⟨L, hL, rfl⟩ := hx.of_ptr
          obtain ⟨L', hL', hB⟩ := hH.blk n _ hb
          obtain rfl : L = L' := by rw [hL] at hL'; exact Option.some.inj hL'
          obtain ⟨cs, e, fz, h1, h2, h3, h4, h5⟩ := hB.rows
          obtain ⟨hus, hone⟩ := hy.cells (by simpa [allLeaf] using c2)
          have hlen : u.cells.toList.length = y.cells.length := hus.1.symm
          have hlen2 : u.cells.size = y.cells.length := by simpa using hlen
          have hkl : k < rows.length := (List.getElem?_eq_some_iff.1 hrow).1
          have hks := succ_mul_le (s := L.size) hkl
          have hrl := (h4 k row hrow).1
          have hf := h5 rfl
          have hst := run_storeCells_fz (P := P) L.g (L.base + k * L.size + j) e fz u.cells.toList 0 cs w h1 (fun q hq => hf q (by omega)) (by omega) hone
          simp only [Nat.add_zero] at hst
          have hg' := setRow_heap w L.g cs (cs.toList.take (L.base + k * L.size + j) ++ u.cells.toList ++ cs.toList.drop (L.base + k * L.size + j + u.cells.toList.length)).toArray e fz h1
          refine ⟨_, ?_, set_block (w' := w.setRow L.g (cs.toList.take (L.base + k * L.size + j) ++ u.cells.toList ++ cs.toList.drop (L.base + k * L.size + j + u.cells.toList.length)).toArray) hH hb rfl hL (by simp) (fun g hg => setRow_other w L.g g _ hg) rfl rfl rfl (RelB.mk hg' ?_ ?_ ?_ ?_) rfl⟩
          · have hcs : u.cells.size = i.size := by rw [hsz, ← c1, ← hlen]; simp
            simp only [Instr.storeAt, Instr.sureAddr, Sem.run_bind, Sem.run_pure, Result.andThen_ok, storeVar, size_of hi, hcs, ne_eq, not_true_eq_false, if_false]
            exact hst
          · simp; omega
          · simpa using h3
          · exact h4.store hrow (by omega) hus hone (by omega)
          · intro _ o ho
            have := hf o ho
            rw [frozen_row h1] at this
            rw [frozen_row hg']; exact this
        · cases h
      · cases h
    · cases h
  · cases h

/-- A new block of rows. -/
theorem relb_new [Syms] {κ : Inj} {w w' : World} {rows : List (List AVal)} {us : List Value} {cs : Array Value} {e : TypeId} {size : Nat} (hr : RelL κ rows.flatten us) (hl : ∀ r ∈ rows, r.length = size)
    (ho : ∀ u ∈ us, u.oneCell' = true) (hc : us <+: cs.toList) (hw : w'.heap = w.heap.push (.cells cs e)) : RelB κ w' ⟨w.heap.size, 0, size, cs.size⟩ (.cells rows false) := by
  have hg : w'.heap[w.heap.size]? = some (.cells cs e (0, 0)) := by rw [hw]; simp
  have hfl : rows.flatten.length = rows.length * size := by
    clear hr
    induction rows with
    | nil => simp
    | cons r rs ih =>
      simp only [List.flatten_cons, List.length_append, List.length_cons, Nat.add_mul, Nat.one_mul]
      rw [ih (fun x hx => hl x (by simp [hx])), hl r (by simp)]
      omega
  have hul : us.length ≤ cs.size := by simpa using hc.length_le
  refine RelB.mk hg rfl ?_ ?_ ?_
  · have := hr.1
    simp only [Nat.zero_add]
    omega
  · refine RowsAt.of_flat hl hr (fun i u hu => ⟨?_, ho u (List.mem_of_getElem? hu)⟩)
    have hi : i < us.length := (List.getElem?_eq_some_iff.1 hu).1
    rw [Nat.zero_add, ← Array.getElem?_toList, ← hu]
    obtain ⟨r, hr'⟩ := hc
    rw [← hr', List.getElem?_append_left hi]
  · intro _ o _
    rw [frozen_row hg]
    simp

theorem new_row [Syms] {r : Result Next} {x : AVal} {v : Value} {rows : List (List AVal)} {us : List Value} {cs : Array Value} {e : TypeId} {size : Nat} {w' : World} (hH : RelH ι H w) (hl : Lies ι w) (hm : ι m = none)
    (hr : RelL ι rows.flatten us) (hls : ∀ r ∈ rows, r.length = size) (ho : ∀ u ∈ us, u.oneCell' = true) (hc : us <+: cs.toList)
    (hw : w'.heap = w.heap.push (.cells cs e)) (hos : w'.os = w.os) (htape : w'.tape = w.tape) (hout : w'.output = w.output)
    (hrun : r = .ok (.value v) w') (hv : RelV (ι.put m ⟨w.heap.size, 0, size, cs.size⟩) x v) : Out ι H w m (.new (.cells rows false) x) r :=
  Out.new hH hl hm hrun hw hos htape hout rfl (relb_new (hr.mono (Inj.le_put _ hm)) hls ho hc hw) hv

theorem box_sound [Syms] (hH : RelH ι H w) (hl : Lies ι w) (hm : ι m = none) {x : AVal} {v : Value} {e : TypeId} (hx : RelL ι x.cells v.cells.toList ∧ ∀ u ∈ v.cells.toList, u.oneCell' = true) {r : Result Next}
    (hr : r = .ok (.value (.pointer (some ⟨w.heap.size, 0, none⟩))) { w with heap := w.heap.push (.cells v.cells e) }) : Out ι H w m (.new (.cells [x.cells] false) (.ptr m 0 0)) r := by
  refine new_row (size := x.cells.length) (us := v.cells.toList) (cs := v.cells) (w' := { w with heap := w.heap.push (.cells v.cells e) }) hH hl hm (by simpa using hx.1) (by simp) hx.2 (List.prefix_refl _) rfl rfl rfl rfl hr ?_
  have := RelV.ptr (ι := ι.put m ⟨w.heap.size, 0, x.cells.length, v.cells.size⟩) m 0 0 _ (Inj.put_same _ _ _)
  simpa using this

theorem repeatCells_length (z : List AVal) : ∀ n, (repeatCells z n).length = n * z.length
  | 0 => by simp [repeatCells]
  | n + 1 => by simp [repeatCells, repeatCells_length z n, Nat.add_mul, Nat.add_comm]

theorem cyc_rel [Syms] {zs : List AVal} {vs : List Value} (hz : RelL ι zs vs) (hpos : 0 < vs.length) : ∀ n, RelL ι (repeatCells zs n) ((List.range (n * vs.length)).map fun i => vs[i % vs.length]!)
  | 0 => by simpa [repeatCells] using RelL.nil ι
  | n + 1 => by
    have ih := cyc_rel hz hpos n
    have e : (List.range ((n + 1) * vs.length)).map (fun i => vs[i % vs.length]!) = vs ++ (List.range (n * vs.length)).map fun i => vs[i % vs.length]! := by
      rw [show (n + 1) * vs.length = vs.length + n * vs.length by rw [Nat.add_mul]; omega, List.range_add, List.map_append]
      congr 1
      · apply List.ext_getElem?
        intro i
        rw [List.getElem?_map]
        by_cases hi : i < vs.length
        · rw [List.getElem?_range hi, List.getElem?_eq_getElem hi]
          simp [Nat.mod_eq_of_lt hi, hi]
        · rw [List.getElem?_eq_none (by simp; omega), List.getElem?_eq_none (by omega)]
          rfl
      · rw [List.map_map]
        apply List.map_congr_left
        intro i _
        simp
    rw [e]
    exact hz.append ih

theorem cyc_one {vs : List Value} (hpos : 0 < vs.length) (h : ∀ u ∈ vs, u.oneCell' = true) (n : Nat) : ∀ u ∈ (List.range n).map (fun i => vs[i % vs.length]!), u.oneCell' = true := by
  intro u hu
  obtain ⟨i, _, rfl⟩ := List.mem_map.1 hu
  have : i % vs.length < vs.length := Nat.mod_lt _ hpos
  rw [getElem!_pos vs _ this]
  exact h _ (List.getElem_mem _)

theorem parts_rel [Syms] {ρ : Operand → AVal} {σ : Operand → Value} (hev : ∀ x, RelV ι (ρ x) (σ x)) (parts : List (Nat × Operand)) :
    (parts.map fun p => (p.1, ρ p.2)).length = (parts.map fun p => (p.1, σ p.2)).length ∧ ∀ (i : Nat) (p : Nat × AVal) (q : Nat × Value), (parts.map fun p => (p.1, ρ p.2))[i]? = some p → (parts.map fun p => (p.1, σ p.2))[i]? = some q → p.1 = q.1 ∧ RelV ι p.2 q.2 := by
  refine ⟨by simp, fun i p q hp hq => ?_⟩
  rw [List.getElem?_map, Option.map_eq_some_iff] at hp hq
  obtain ⟨a, ha, rfl⟩ := hp
  obtain ⟨b, hb, rfl⟩ := hq
  rw [ha] at hb
  cases hb
  exact ⟨rfl, hev _⟩

end
end Go.Av
