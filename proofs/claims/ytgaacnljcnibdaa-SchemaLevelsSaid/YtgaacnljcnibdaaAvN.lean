/-
  The abstract step is sound: append and the other builtins. Over every program.
-/
import Derived.Test.YtgaacnljcnibdaaAvM
set_option linter.unusedVariables false
set_option linter.unusedSimpArgs false
noncomputable section
namespace Go.Av

section
variable {P : Program} {tt : TT} {ι : Inj} {w : World} {H : Heap} {m : Nat}

/-- What is appended: how much, and the real cells. -/
theorem news_cells [Syms] (hH : RelH ι H w) {x : AVal} {v : Value} {rows : List (List AVal)} {size : Nat} (hx : RelV ι x v) (h : sliceRows H x = some rows) (hl : ∀ r ∈ rows, r.length = size) :
    ∃ us, (Builtin.lenOf v).run P w = .ok rows.length w ∧ (Builtin.firstCells size rows.length v).run P w = .ok us.toArray w ∧ RelL ι rows.flatten us ∧ us.length = rows.length * size ∧ ∀ u ∈ us, u.oneCell' = true := by
  cases x with
  | nils =>
    simp only [sliceRows, Option.some.injEq] at h
    subst h
    cases hx
    exact ⟨[], by simp [Builtin.lenOf], by simp [Builtin.firstCells], .nil ι, by simp, by simp⟩
  | slice n off len sz cap =>
    obtain ⟨h1, h2, a, c, us, rfl, h3, h4, h5, h6⟩ := slice_cells hH hx h
    have hsz : us.length = rows.length * size := by
      rw [h4, h1]
      rcases Nat.eq_zero_or_pos len with e | e
      · simp [e]
      · have hr : rows[0]'(by omega) ∈ rows := List.getElem_mem _
        rw [← h2 _ hr, hl _ hr]
    refine ⟨us, by simp [Builtin.lenOf, h1], ?_, h3, hsz, h5⟩
    exact run_firstCells_some (P := P) w size rows.length a len c us hsz h6
  | str s =>
    simp only [sliceRows, Option.some.injEq] at h
    subst h
    cases hx
    refine ⟨s.map fun b => .int .u8 b.toNat, by simp [Builtin.lenOf, ba_size], ?_, ?_, ?_, by simp [Value.oneCell']⟩
    · simp only [Builtin.firstCells, List.length_map, ba_extract, Sem.run_pure]
      congr 1
      apply Array.ext'
      simp
    · clear hl
      induction s with
      | nil => exact .nil ι
      | cons b s ih => exact .cons (.int _ _) ih
    · rcases s with _ | ⟨b, s⟩
      · simp
      · have := hl [.int .u8 b.toNat] (by simp)
        simp at this
        simp [← this]
  | vs sz all =>
    simp only [sliceRows, Option.some.injEq] at h
    subst h
    by_cases hne : all = []
    · subst hne
      obtain ⟨a, c, hm, hac, rfl⟩ := hx.of_vz
      refine ⟨[], by simp [Builtin.lenOf], ?_, .nil ι, by simp, by simp⟩
      cases a with
      | none => simp [Builtin.firstCells]
      | some a => exact run_firstCells_some (P := P) w size 0 a 0 c [] (by simp) (by simp)
    obtain ⟨h2, a, c, us, rfl, h3, h4, h5, h6⟩ := vs_cells hH hx hne
    have hsz : us.length = all.length * size := by
      rw [h4]
      rcases Nat.eq_zero_or_pos all.length with e | e
      · simp [e]
      · have hr : all[0]'(by omega) ∈ all := List.getElem_mem _
        rw [← h2 _ hr, hl _ hr]
    refine ⟨us, by simp [Builtin.lenOf], ?_, h3, hsz, h5⟩
    exact run_firstCells_some (P := P) w size all.length a all.length c us hsz h6
  | zs sz =>
    simp only [sliceRows, Option.some.injEq] at h
    subst h
    obtain ⟨a, rfl⟩ := hx.of_zs
    refine ⟨[], by simp [Builtin.lenOf], ?_, .nil ι, by simp, by simp⟩
    cases a with
    | none => simp [Builtin.firstCells]
    | some a => exact run_firstCells_some (P := P) w size 0 a 0 0 [] (by simp) (by simp)
  | _ => simp [sliceRows] at h

structure App (P : Program) (argTypes : Array TypeId) (t e xt : TypeId) (i : TypeInfo) (z : Value) : Prop where
  a0 : argTypes[0]? = some t
  a1 : argTypes[1]? = some xt
  ht : P.underlying t = some (.slice e)
  hxt : (∃ e', P.underlying xt = some (.slice e')) ∨ P.underlying xt = some .string
  hi : P.info? e = some i
  hz : i.zero = some z

theorem append_grow {argTypes : Array TypeId} {ty t e xt : TypeId} {i : TypeInfo} {z : Value} (A : App P argTypes t e xt i z) {base : Option Addr} {sLen sCap n : Nat} {vx : Value} {olds news : List Value}
    (hlen : (Builtin.lenOf vx).run P w = .ok n w) (hold : (Builtin.firstCells i.size sLen (.slice base sLen sCap)).run P w.drew = .ok olds.toArray w.drew) (hnew : (Builtin.firstCells i.size n vx).run P w.drew = .ok news.toArray w.drew)
    (h1 : sCap < sLen + n) (h2 : (sLen + n) * i.bytes ≤ 140737488355328) (h3 : sLen + n ≤ 140737488355328) :
    (Builtin.append_ argTypes ty #[.slice base sLen sCap, vx]).run P w = .ok (.slice (some ⟨w.heap.size, 0, none⟩) (sLen + n) (grownCap w (sLen + n) sCap e))
      { w with drawn := w.drawn + 1, heap := w.heap.push (.cells (olds.toArray ++ news.toArray ++ Builtin.zeroCells z.cells (grownCap w (sLen + n) sCap e - (sLen + n))) e) } := by
  have hn : ¬ (sLen + n ≤ sCap) := by omega
  have h63' : ¬ (9223372036854775807 < ((sLen : Int) + (n : Int))) := by omega
  have h48 := growslice_fits (bytes := i.bytes) h1 h2
  have h48' : ¬ (281474976710656 < Builtin.nextslicecap (sLen + n) sCap * i.bytes) := by omega
  have hfin : w.drew.alloc (.cells (olds.toArray ++ news.toArray ++ Builtin.zeroCells z.cells (grownCap w (sLen + n) sCap e - (sLen + n))) e) =
      { w with drawn := w.drawn + 1, heap := w.heap.push (.cells (olds.toArray ++ news.toArray ++ Builtin.zeroCells z.cells (grownCap w (sLen + n) sCap e - (sLen + n))) e) } := rfl
  rw [← hfin]
  rcases A.hxt with ⟨e', hx⟩ | hx
  · simp [Builtin.append_, A.a0, A.a1, run_underlying A.ht, run_underlying hx, sizeOf, typeInfo, zeroValue, A.hi, A.hz, hlen, hn, h63', h48', Question.forced, hold, hnew, newRow, grownCap]
    congr 2
    apply Array.ext'
    simp [List.append_assoc]
  · simp [Builtin.append_, A.a0, A.a1, run_underlying A.ht, run_underlying hx, sizeOf, typeInfo, zeroValue, A.hi, A.hz, hlen, hn, h63', h48', Question.forced, hold, hnew, newRow, grownCap]
    congr 2
    apply Array.ext'
    simp [List.append_assoc]

theorem append_room {argTypes : Array TypeId} {ty t e xt : TypeId} {i : TypeInfo} {z : Value} (A : App P argTypes t e xt i z) {base : Option Addr} {sLen sCap n : Nat} {vx : Value} {news : List Value} {w' : World}
    (hlen : (Builtin.lenOf vx).run P w = .ok n w) (hnew : (Builtin.firstCells i.size n vx).run P w = .ok news.toArray w)
    (h1 : sLen + n ≤ sCap) (hst : ∀ a, base = some a → (storeCells (a.add (sLen * i.size)) news).run P w = .ok () w') (hno : base = none → w' = w) :
    (Builtin.append_ argTypes ty #[.slice base sLen sCap, vx]).run P w = .ok (.slice base (sLen + n) sCap) w' := by
  rcases A.hxt with ⟨e', hx⟩ | hx
  · cases base with
    | none => obtain rfl := hno rfl; simp [Builtin.append_, A.a0, A.a1, run_underlying A.ht, run_underlying hx, sizeOf, typeInfo, A.hi, hlen, h1, hnew]
    | some a => simp [Builtin.append_, A.a0, A.a1, run_underlying A.ht, run_underlying hx, sizeOf, typeInfo, A.hi, hlen, h1, hnew, hst a rfl]
  · cases base with
    | none => obtain rfl := hno rfl; simp [Builtin.append_, A.a0, A.a1, run_underlying A.ht, run_underlying hx, sizeOf, typeInfo, A.hi, hlen, h1, hnew]
    | some a => simp [Builtin.append_, A.a0, A.a1, run_underlying A.ht, run_underlying hx, sizeOf, typeInfo, A.hi, hlen, h1, hnew, hst a rfl]

theorem RelH.drew [Syms] (h : RelH ι H w) : RelH ι H w.drew := ⟨fun n b hb => let ⟨L, h1, h2⟩ := h.blk n b hb; ⟨L, h1, h2.keep (Inj.le_refl ι) rfl⟩, h.inj, h.fz⟩

end
end Go.Av
