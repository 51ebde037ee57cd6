/-
  The abstract step is sound: literals, make, conversions, walks over texts. Over every program.
-/
import Derived.Test.YtgaacnljcnibdaaAvJ
set_option linter.unusedVariables false
set_option linter.unusedSimpArgs false
noncomputable section
namespace Go.Av

section
variable {P : Program} {tt : TT} {ι : Inj} {w : World} {H : Heap} {m : Nat}

theorem places_some [Syms] (htt : TT.ok P tt) : ∀ (fs : List Field), ((fs.map fun f => (f.offset, f.type)).all fun f => (tt f.2).isSome) = true →
    ∃ ps, fs.mapM (fun f => (P.info? f.type).map fun i => (f.offset, i.size)) = some ps ∧ ∀ i : Nat, ps[i]? = fieldPlaces tt (fs.map fun f => (f.offset, f.type)) i
  | [], _ => ⟨[], rfl, fun i => by simp [fieldPlaces]⟩
  | f :: fs, h => by
    simp only [List.map_cons, List.all_cons, Bool.and_eq_true] at h
    obtain ⟨ps, h1, h2⟩ := places_some htt fs h.2
    obtain ⟨ty, hty⟩ := Option.isSome_iff_exists.1 h.1
    obtain ⟨d, i, hd, hi, hk, hsz, _⟩ := tt_at htt hty
    refine ⟨(f.offset, i.size) :: ps, by simp [List.mapM_cons, hi, h1], fun k => ?_⟩
    cases k with
    | zero => simp [fieldPlaces, hty, hsz]
    | succ k => simpa [fieldPlaces] using h2 k

theorem abuild_sound [Syms] (htt : TT.ok P tt) {ρ : Operand → AVal} {σ : Operand → Value} (hev : ∀ x, RelV ι (ρ x) (σ x)) {t : TypeId} {parts : Array (Nat × Operand)} {z : AVal}
    (h : abuild tt t (parts.toList.map fun p => (p.1, ρ p.2)) = some z) : ∃ r, (Instr.build t (parts.map fun (i, x) => (i, σ x))).run P w = .ok r w ∧ RelV ι z r := by
  have hp := parts_rel hev parts.toList
  have hmap : (parts.map fun (i, x) => (i, σ x)).toList = parts.toList.map fun p => (p.1, σ p.2) := by simp
  unfold abuild at h
  split at h
  · rename_i fs sz by' zs hty
    obtain ⟨d, i, hd, hi, hk, hsz, _, hz, _⟩ := tt_at htt hty
    obtain ⟨gs, rfl, rfl⟩ := (fits_of hk).2.2.2.2.2.2 _ rfl
    split at h
    · rename_i hc
      obtain ⟨c1, c2⟩ := hc
      rw [Option.map_eq_some_iff] at h
      obtain ⟨row, hrow, rfl⟩ := h
      obtain ⟨z, hz1, hz2⟩ := hz.resolve_right (by simp)
      obtain ⟨hrel, hone⟩ := valFits_cells (x := .agg zs) hz2 c2 ι
      obtain ⟨ps, hps, hpl⟩ := places_some htt gs.toList c1
      obtain ⟨us', h1, h2, h3⟩ := fill_rel (ι := ι) (fieldPlaces tt (gs.toList.map fun f => (f.offset, f.type))) _ _ zs row z.cells.toList hp.1 hp.2 hrel hone hrow
      refine ⟨.agg ⟨us'⟩, ?_, .mk_agg h2⟩
      have hfun : (fun (i : Nat) => ps.toArray[i]?) = fieldPlaces tt (gs.toList.map fun f => (f.offset, f.type)) := funext fun i => by simpa using hpl i
      refine run_build w t _ _ ?_
      simp only [Program.built, hi, hd, hz1, hps, hfun, hmap]
      exact h1
    · cases h
  · rename_i n e sz by' zs hty
    obtain ⟨d, i, hd, hi, hk, hsz, _, hz, _⟩ := tt_at htt hty
    obtain rfl := (fits_of hk).2.2.2.2.1 _ _ rfl
    split at h
    · rename_i ety hety
      obtain ⟨ed, ei, hed, hei, hek, hes, _⟩ := tt_at htt hety
      split at h
      · rename_i c2
        rw [Option.map_eq_some_iff] at h
        obtain ⟨row, hrow, rfl⟩ := h
        obtain ⟨z, hz1, hz2⟩ := hz.resolve_right (by simp)
        obtain ⟨hrel, hone⟩ := valFits_cells (x := .agg zs) hz2 c2 ι
        obtain ⟨us', h1, h2, h3⟩ := fill_rel (ι := ι) (fun i => some (i * ety.size, ety.size)) _ _ zs row z.cells.toList hp.1 hp.2 hrel hone hrow
        refine ⟨.agg ⟨us'⟩, ?_, .mk_agg h2⟩
        refine run_build w t _ _ ?_
        simp only [Program.built, hi, hd, hz1, hei, hmap, hes]
        exact h1
      · cases h
    · cases h
  · cases h

end
end Go.Av
