/-
  The abstract step is sound: slice literals, make. Over every program.
-/
import Derived.Test.YtgaacnljcnibdaaAvK
set_option linter.unusedVariables false
set_option linter.unusedSimpArgs false
noncomputable section
namespace Go.Av

section
variable {P : Program} {tt : TT} {ι : Inj} {w : World} {H : Heap} {m : Nat}

theorem cyc_arr (z : Array Value) (n s : Nat) : (Array.range n).map (z[· % s]!) = ((List.range n).map fun i => z.toList[i % s]!).toArray := by
  apply Array.ext'
  simp only [Array.toList_map, Array.toList_range]
  apply List.map_congr_left
  intro i _
  obtain ⟨l⟩ := z
  rw [List.getElem!_eq_getElem?_getD, Array.getElem!_eq_getD, Array.getD_eq_getD_getElem?]
  simp
theorem range_none (n : Nat) (hn : n = 0) (f : Nat → Value) : (Array.range n).map f = #[] := by
  subst hn
  apply Array.ext'
  simp

theorem abuildSlice_sound [Syms] (htt : TT.ok P tt) (hH : RelH ι H w) (hl : Lies ι w) (hm : ι m = none) {ρ : Operand → AVal} {σ : Operand → Value} (hev : ∀ x, RelV ι (ρ x) (σ x)) {t : TypeId} {len : Nat} {parts : Array (Nat × Operand)} {r : Res}
    (h : abuildSlice tt m t len (parts.toList.map fun p => (p.1, ρ p.2)) = some r) :
    Out ι H w m r ((do let v ← Instr.buildSlice t len (parts.map fun (i, x) => (i, σ x)); pure (.value v) : Sem Next).run P w) := by
  have hp := parts_rel hev parts.toList
  have hmap : (parts.map fun (i, x) => (i, σ x)).toList = parts.toList.map fun p => (p.1, σ p.2) := by simp
  unfold abuildSlice at h
  split at h
  · rename_i e sz by' zz hty
    obtain ⟨d, i, hd, hi, hk, hsz, _, hz, _⟩ := tt_at htt hty
    obtain rfl := (fits_of hk).2.2.2.1 _ rfl
    split at h
    · rename_i ety hety
      obtain ⟨ed, ei, hed, hei, hek, hes, _, hez, _⟩ := tt_at htt hety
      split at h
      · rename_i hc
        obtain ⟨c1, c2, c3, c4⟩ := hc
        rw [Option.map_eq_some_iff] at h
        obtain ⟨row, hrow, rfl⟩ := h
        obtain ⟨z, hz1, hz2⟩ := hez.resolve_right (fun e => by rw [e] at c3; simp [AVal.cells, allLeaf, AVal.leaf] at c3)
        obtain ⟨hrel, hone⟩ := valFits_cells hz2 c3 ι
        have hzl : z.cells.toList.length = ety.size := by rw [← hrel.1, c2]
        have hzs : z.cells.size = ety.size := by simpa using hzl
        have hcyc := cyc_rel hrel (by omega) len
        have hcone := cyc_one (by omega) hone (len * z.cells.toList.length)
        rw [hzl] at hcyc hcone
        obtain ⟨us', h1, h2, h3⟩ := fill_rel (ι := ι) (fun i => some (i * ety.size, ety.size)) _ _ _ row _ hp.1 hp.2 hcyc hcone hrow
        have hrl : row.length = len * ety.size := by rw [afill_length _ _ _ _ hrow, repeatCells_length, c2]
        obtain ⟨f1, f2, f3⟩ := chop_flatten ety.size len row hrl
        have hfill : Instr.fill (fun i => some (i * ei.size, ei.size)) ((Array.range (len * ei.size)).map (z.cells[· % z.cells.size]!)) (parts.map fun (i, x) => (i, σ x)).toList = some us'.toArray := by
          rw [hmap, hes, ← h1, cyc_arr, hzs]
        have hus : us'.length = len * ety.size := by rw [← h2.1, hrl]
        have hrun : (Instr.buildSlice t len (parts.map fun (i, x) => (i, σ x))).run P w = .ok (.slice (some ⟨w.heap.size, 0, none⟩) len len) { w with heap := w.heap.push (.cells us'.toArray e) } := by
          by_cases h0 : len * ei.size = 0
          · have hlen : len = 0 := by
              rcases Nat.eq_zero_or_pos len with h | h
              · exact h
              · have := Nat.mul_pos h (by omega : 0 < ei.size); omega
            rw [range_none _ h0] at hfill
            simp only [Instr.buildSlice, Sem.run_bind, run_underlying hd, Result.andThen_ok, size_of hei, h0, show ¬ (0 : Nat) > 2 ^ 24 from by decide, if_false, if_true, Sem.run_pure, range_none 0 rfl, hfill, newRow, run_newObj]
          · have hsmall : ¬ len * ei.size > 2 ^ 24 := by rw [hes]; omega
            simp only [Instr.buildSlice, Sem.run_bind, run_underlying hd, Result.andThen_ok, size_of hei, hsmall, if_false, h0, zero_of hei hz1, Sem.run_pure, hfill, newRow, run_newObj]
        refine new_row (size := ety.size) (us := us') (cs := us'.toArray) (e := e) (w' := { w with heap := w.heap.push (.cells us'.toArray e) }) hH hl hm (by rw [f1]; exact h2) f2 h3 (List.prefix_refl _) rfl rfl rfl rfl
          (v := .slice (some ⟨w.heap.size, 0, none⟩) len len) (by simp only [Sem.run_bind, hrun, Result.andThen_ok, Sem.run_pure]) ?_
        refine .slice m 0 len ety.size (some len) _ _ len (Inj.put_same _ _ _) rfl (.inr (by simp)) (Nat.le_refl _) (by simp [hus]) ?_ (fun k hk => by cases hk; rfl)
        have : len ≤ len * ety.size := Nat.le_mul_of_pos_right _ c1
        simp only [maxLen]; omega
      · cases h
    · cases h
  · cases h

theorem amakeSlice_sound [Syms] (htt : TT.ok P tt) (hH : RelH ι H w) (hl : Lies ι w) (hm : ι m = none) {t : TypeId} {x y : AVal} {v u : Value} {r : Res} (hx : RelV ι x v) (hy : RelV ι y u)
    (h : amakeSlice tt m t x y = some r) : Out ι H w m r ((do let v ← Instr.makeSlice t v u; pure (.value v) : Sem Next).run P w) := by
  unfold amakeSlice at h
  split at h
  · rename_i e _ _ _ k1 l k2 c hty
    obtain ⟨d, i, hd, hi, hk, hsz, _, hz, _⟩ := tt_at htt hty
    obtain rfl := (fits_of hk).2.2.2.1 _ rfl
    split at h
    · rename_i ety hety
      obtain ⟨ed, ei, hed, hei, hek, hes, heb, hez, _⟩ := tt_at htt hety
      split at h
      · rename_i hc
        obtain ⟨c1, c2, c3, c4, c5, c6, c7⟩ := hc
        cases h
        obtain rfl := hx.of_int
        obtain rfl := hy.of_int
        obtain ⟨z, hz1, hz2⟩ := hez.resolve_right (fun e => by rw [e] at c3; simp [AVal.cells, allLeaf, AVal.leaf] at c3)
        obtain ⟨hrel, hone⟩ := valFits_cells hz2 c3 ι
        have hzl : z.cells.toList.length = ety.size := by rw [← hrel.1, c2]
        have hzs : z.cells.size = ety.size := by simpa using hzl
        have hcyc := cyc_rel hrel (by omega) c.toNat
        have hcone := cyc_one (by omega) hone (c.toNat * z.cells.toList.length)
        rw [hzl] at hcyc hcone
        have hrep : (List.replicate c.toNat ety.zero.cells).flatten = repeatCells ety.zero.cells c.toNat := by
          generalize c.toNat = n
          induction n with
          | zero => rfl
          | succ n ih => simp [List.replicate_succ, repeatCells, ih]
        have hwl : IntKind.i64.wrap l = l := IntWalk.i64_in l (by omega)
        have hwc : IntKind.i64.wrap c = c := IntWalk.i64_in c (by omega)
        have hcs : (((Array.range (c.toNat * ei.size)).map (z.cells[· % z.cells.size]!)) : Array Value) = ((List.range (c.toNat * ety.size)).map fun i => z.cells.toList[i % ety.size]!).toArray := by
          rw [cyc_arr, hzs, hes]
        have hrun : (Instr.makeSlice t (.int k1 l) (.int k2 c)).run P w = .ok (.slice (some ⟨w.heap.size, 0, none⟩) l.toNat c.toNat) { w with heap := w.heap.push (.cells ((List.range (c.toNat * ety.size)).map fun i => z.cells.toList[i % ety.size]!).toArray e) } := by
          have t1 : ¬ c < 0 := by omega
          have t2 : ¬ l < 0 := by omega
          have t3 : ¬ l > c := by omega
          have t4 : ¬ ((ety.bytes : Int) * c > 2 ^ 48) := by rw [Int.mul_comm]; omega
          by_cases h0 : c.toNat * ei.size = 0
          · have hc0 : c.toNat = 0 := by
              rcases Nat.eq_zero_or_pos c.toNat with h | h
              · exact h
              · have := Nat.mul_pos h (by omega : 0 < ei.size); omega
            have e1 : ((List.range (c.toNat * ety.size)).map fun i => z.cells.toList[i % ety.size]!).toArray = #[] := by rw [hc0, Nat.zero_mul]; rfl
            rw [e1]
            simp only [Instr.makeSlice, Sem.run_bind, run_underlying hd, Result.andThen_ok, asInt, asIntOf, Sem.run_pure, info_of hei, hwl, hwc, heb, t1, t2, t3, t4, decide_false, Bool.or_false, Bool.false_eq_true, if_false, run_askRoom, size_of hei, h0, if_true, range_none 0 rfl, newRow, run_newObj]
          · simp only [Instr.makeSlice, Sem.run_bind, run_underlying hd, Result.andThen_ok, asInt, asIntOf, Sem.run_pure, info_of hei, hwl, hwc, heb, t1, t2, t3, t4, decide_false, Bool.or_false, Bool.false_eq_true, if_false, run_askRoom, size_of hei, h0, zero_of hei hz1, hcs, newRow, run_newObj]
        refine new_row (size := ety.size) (us := (List.range (c.toNat * ety.size)).map fun i => z.cells.toList[i % ety.size]!) (cs := ((List.range (c.toNat * ety.size)).map fun i => z.cells.toList[i % ety.size]!).toArray) (e := e) (w' := { w with heap := w.heap.push (.cells ((List.range (c.toNat * ety.size)).map fun i => z.cells.toList[i % ety.size]!).toArray e) }) hH hl hm (by rw [hrep]; exact hcyc) (fun r hr => by rw [(List.mem_replicate.1 hr).2, c2]) hcone (List.prefix_refl _) rfl rfl rfl rfl
          (v := .slice (some ⟨w.heap.size, 0, none⟩) l.toNat c.toNat) (by simp only [Sem.run_bind, hrun, Result.andThen_ok, Sem.run_pure]) ?_
        refine .slice m 0 l.toNat ety.size (some c.toNat) _ _ c.toNat (Inj.put_same _ _ _) rfl (.inr (by simp)) (by omega) (by simp) ?_ (fun k hk => by cases hk; rfl)
        simp only [maxLen]; omega
      · cases h
    · cases h
  · cases h

end
end Go.Av
