/-
  strings.Repeat and strings.Join as calls, out of the contracts laid at this program.
-/
import Derived.Test.YtjffmehcbaechaaTxtPrint
import Derived.Test.YtjffmehcbaechaaShelf
set_option linter.unusedVariables false
set_option linter.unusedSimpArgs false
namespace Go.Proofs.Ytjffmehcbaechaa
open Go Go.Av Go.RowKit
set_option maxRecDepth 100000
set_option maxHeartbeats 200000
/-- A call that leaves what was there: as the abstract heap sees it. -/
theorem acalls_below [Syms] {P : Program} {f : FuncId} {args : List AVal} {H : Heap} {nx : Nat} {v : AVal}
    (h : ∀ (ι : Inj) (w : World) (vs : List Value), RelL ι args vs → RelH ι H w → Bound ι nx w → Calls P f ⟨vs⟩ w fun e w' => ∃ r, e = .returned r ∧ RelV ι v r ∧ Below w.heap.size w w') : ACalls P f args H nx v H nx := by
  intro ι w vs hvs hH hb
  refine (h ι w vs hvs hH hb).mono ?_
  rintro e w' ⟨r, rfl, hr, hB⟩
  have same : ∀ g, g < w.heap.size → w'.heap[g]? = w.heap[g]? := hB.block
  refine ⟨r, ι, rfl, hr, ⟨fun n b hn => ?_, hH.inj, fun g cs hg => ⟨?_, (hH.fz g cs hg).2⟩⟩, ⟨⟨Inj.le_refl ι, hB.os, hB.tape, hB.output, hB.size, fun g hg _ => same g hg, fun g hg => .inl hg, fun g cs hg => .inl hg⟩, Nat.le_refl _, fun n L hn => .inl hn⟩, fun n L hn => ⟨(hb n L hn).1, Nat.lt_of_lt_of_le (hb n L hn).2 hB.size⟩⟩
  · obtain ⟨L, h1, h2⟩ := hH.blk n b hn
    exact ⟨L, h1, h2.keep (Inj.le_refl ι) (same _ (hb n L h1).2)⟩
  · obtain ⟨e, z, h⟩ := (hH.fz g cs hg).1
    exact ⟨e, z, by rw [same g (Array.getElem?_eq_some_iff.mp h).1]; exact h⟩
/-- What a call has to be so that its answer is one. -/
def OneOk [Syms] (P : Program) (n : FuncId) (c : CallT) : Prop := ∀ args H nx K, c n args H nx K → ∃ v H' nx', FnOk P n ∧ ACalls P n args H nx v H' nx' ∧ K v H' nx'
theorem pickT_one [Syms] {P : Program} {n : Nat} {c d : CallT} (hc : OneOk P n c) (hd : d.det P) : (pickT n c d).det P := by
  intro f args H nx K h
  unfold pickT at h
  cases hf : Nat.beq f n with
  | true =>
    rw [hf] at h
    have e := Nat.eq_of_beq_eq_true hf
    subst e
    exact hc args H nx K h
  | false =>
    rw [hf] at h
    exact hd f args H nx K h
def repT : CallT := fun _ args H nx K => ∃ (s : List UInt8) (c : Nat), args = [.str s, .int .i64 c] ∧ c ≤ 1000 ∧ s.length ≤ 1000 ∧ K (.str (Lib.repeatL s c)) H nx
theorem rep_one [Syms] : OneOk Try.prog 63 repT := by
  rintro args H nx K ⟨s, c, rfl, hc, hs, hK⟩
  refine ⟨_, _, _, ⟨_, Try.lays105.f105, by decide, rfl⟩, acalls_below ?_, hK⟩
  intro ι w vs hvs hH hb
  obtain ⟨x, y, rfl⟩ : ∃ x y, vs = [x, y] := by
    match vs, hvs.1 with
    | [x, y], _ => exact ⟨x, y, rfl⟩
  have hx := hvs.2 0 _ _ rfl rfl
  have hy := hvs.2 1 _ _ rfl rfl
  cases hx
  cases hy
  refine (Try.strings_Repeat ⟨⟨s⟩⟩ c w (by omega) ?_).mono ?_
  · have h1 : s.length * c ≤ 1000 * 1000 := Nat.mul_le_mul hs hc
    have h2 : s.length * c ≤ 140737488355328 := by omega
    exact h2
  · rintro e w' ⟨rfl, hB⟩
    exact ⟨_, rfl, .str _, hB⟩
def joinT : CallT := fun _ args H nx K => ∃ (n : Nat) (cap : Option Nat) (rows : List (List AVal)) (ro : Bool) (xs : List (List UInt8)) (sep : List UInt8),
  args = [.slice n 0 xs.length 1 cap, .str sep] ∧ H.get n = some (.cells rows ro) ∧ xs ≠ [] ∧ (∀ (k : Nat) (x : List UInt8), xs[k]? = some x → rows[k]? = some [.str x]) ∧ xs.length ≤ 1000 ∧ (Lib.join xs sep).length ≤ 100000 ∧ K (.str (Lib.join xs sep)) H nx
theorem join_one [Syms] : OneOk Try.prog 64 joinT := by
  rintro args H nx K ⟨n, cap, rows, ro, xs, sep, rfl, hn, hne, hr, hl, hj, hK⟩
  refine ⟨_, _, _, ⟨_, Try.lays156.f156, by decide, rfl⟩, acalls_below ?_, hK⟩
  intro ι w vs hvs hH hb
  obtain ⟨x, y, rfl⟩ : ∃ x y, vs = [x, y] := by
    match vs, hvs.1 with
    | [x, y], _ => exact ⟨x, y, rfl⟩
  have hx := hvs.2 0 _ _ rfl rfl
  have hy := hvs.2 1 _ _ rfl rfl
  cases hy
  cases hx with
  | slice _ _ _ _ _ L a c h hs ha hl2 hp hm hcc =>
    have hpos : 0 < xs.length := List.length_pos_iff.mpr hne
    have ha : a = ⟨L.g, L.base + 0 * L.size, none⟩ := by
      rcases ha with h0 | h0
      · omega
      · exact h0
    subst ha
    obtain ⟨L', h1, h2⟩ := hH.blk n _ hn
    have e : L' = L := by rw [h] at h1; exact (Option.some.inj h1).symm
    subst e
    obtain ⟨cs, ty, fz, g1, g2, g3, g4, _⟩ := h2
    have hlt := (hb n L' h).2
    have hmm : (xs.map fun x => (⟨⟨x⟩⟩ : ByteArray)).map (·.data.toList) = xs := by
      rw [List.map_map]
      exact (List.map_congr_left (g := id) fun _ _ => rfl).trans (List.map_id xs)
    have hcl : ∀ (j : Nat) x, (xs.map fun x => (⟨⟨x⟩⟩ : ByteArray))[j]? = some x → w.cell? ⟨L'.g, L'.base + 0 * L'.size + j, none⟩ = some (.string x) := by
      intro j x hx
      rw [List.getElem?_map] at hx
      cases hxs : xs[j]? with
      | none => rw [hxs] at hx; cases hx
      | some z =>
        rw [hxs] at hx
        cases hx
        obtain ⟨hlen, hv⟩ := g4 j _ (hr j z hxs)
        obtain ⟨v, k1, _, k3⟩ := hv 0 _ rfl
        cases k3
        rw [Lib.cell_of_heap g1, ← k1, hs]
        have e : L'.base + 0 * 1 + j = L'.base + j * 1 + 0 := by omega
        rw [e]
    have hj2 : (Lib.join ((xs.map fun x => (⟨⟨x⟩⟩ : ByteArray)).map (·.data.toList)) sep).length ≤ 140737488355328 := by rw [hmm]; omega
    have hJ := Try.strings_Join L'.g (L'.base + 0 * L'.size) c (xs.map fun x => (⟨⟨x⟩⟩ : ByteArray)) ⟨⟨sep⟩⟩ w hcl hlt (by rw [List.length_map]; omega) (by rw [List.length_map]; omega) hj2
    rw [List.length_map, hmm] at hJ
    refine hJ.mono ?_
    rintro e w' ⟨rfl, hB⟩
    exact ⟨_, rfl, .str _, hB⟩
end Go.Proofs.Ytjffmehcbaechaa
