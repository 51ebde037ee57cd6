/-
  From a function's contract to the statement's form: all that lies there when the call begins is written no more. Over every program.
-/
import Derived.Test.YtgaacnljcnibdaaSxG
import Derived.Test.YtgaacnljcnibdaaAvLaw
set_option linter.unusedVariables false
set_option linter.unusedSimpArgs false
noncomputable section
namespace Go.Av
open Go.ChangeShapes Go.WideShapes Go.ChangeAt Go.RowKit

/-- All that lies there is written no more. -/
def fzAll (w : World) : Inj := ⟨fun _ => none, fun g => match w.heap[g]? with | some (.cells cs _ _) => some cs | _ => none⟩
theorem fzAll_some {w : World} {g : Nat} {cs : Array Value} (h : (fzAll w).fz g = some cs) : ∃ e z, w.heap[g]? = some (.cells cs e z) := by
  simp only [fzAll] at h
  split at h
  · rename_i c e z hg
    cases h
    exact ⟨e, z, hg⟩
  · cases h
theorem fzAll_of {w : World} {g : Nat} {cs : Array Value} {e : TypeId} {z : Nat × Nat} (h : w.heap[g]? = some (.cells cs e z)) : (fzAll w).fz g = some cs := by
  simp only [fzAll, h]
theorem relH_all [Syms] (w : World) : RelH (fzAll w) [] w :=
  ⟨fun n b hb => (nomatch hb), fun n m b c L M hb => (nomatch hb), fun g cs hg => ⟨fzAll_some hg, fun ⟨n, b, L, h1, _⟩ => (nomatch h1)⟩⟩
theorem bound_all (w : World) : Bound (fzAll w) 0 w := fun n L hn => nomatch hn

theorem FnSem.true_calls [Syms] {P : Program} {f : FuncId} {args : List AVal} {vs : List Value} {w : World} (h : FnSem P f args [] 0 fun v H _ => v = .bool true ∧ H = []) (hv : RelL (fzAll w) args vs) :
    Calls P f ⟨vs⟩ w fun e w' => e = .returned (.bool true) ∧ Below w.heap.size w w' := by
  refine (h.2 (fzAll w) w vs hv (relH_all w) (bound_all w)).mono ?_
  rintro e w' ⟨v, H', nx', r, κ, ⟨rfl, rfl⟩, rfl, hr, _, hst, _⟩
  obtain rfl := hr.of_bool
  exact ⟨rfl, hst.os, hst.tape, hst.output, hst.size, fun g hg => hst.same g hg (fun ⟨n, b, L, h1, _⟩ => (nomatch h1))⟩

/-- A row of numbers that came in. -/
theorem ints_all [Syms] {k : IntKind} {w : World} {a : Option Addr} {len cap : Nat} {zs : List Int}
    (h : (a = none ∧ len = 0 ∧ cap = 0 ∧ zs = []) ∨ ∃ x, a = some x ∧ len ≤ cap ∧ cap ≤ maxLen ∧ zs.length = cap ∧ (∀ i, i < zs.length → w.cell? (x.add i) = some (.int k (zs.getD i 0))) ∧ ∀ n ∈ zs, (Lit.int k n).wf = true) :
    RelV (fzAll w) (vT 1 (fun p => [.int k p]) 0 (zs.take len)) (.slice a len cap) ∧ (zs.take len).length ≤ 9223372036854775807 ∧ ∀ n ∈ zs.take len, (Lit.int k n).wf = true := by
  rcases h with ⟨rfl, rfl, rfl, rfl⟩ | ⟨x, rfl, hl, hm, hz, hc, hwf⟩
  · exact ⟨.vt _ _ _ _ (.vz 1 none 0 (Nat.zero_le _) (fun _ => rfl)), by simp, by simp⟩
  · have hlen : (zs.take len).length = len := by simp; omega
    have hm' : cap ≤ 9223372036854775807 := hm
    refine ⟨.vt _ _ _ _ ?_, by omega, fun n hn => hwf n (List.mem_of_mem_take hn)⟩
    rw [tabR_map (fun p => [AVal.int k p]) 0 (zs.take len)]
    rcases Nat.eq_zero_or_pos len with h0 | h0
    · subst h0
      exact .vz 1 (some x) cap hm (fun h => by cases h)
    · have h1 := hc 0 (by omega)
      rw [show x.add 0 = x from by simp [Addr.add]] at h1
      unfold World.cell? at h1
      split at h1
      · rename_i cs e z hg
        cases hs : x.spot with
        | some s => rw [hs] at h1; simp at h1
        | none =>
          obtain ⟨g, o, sp⟩ := x
          simp only at hs hg h1
          subst hs
          have hcell : ∀ i, i < zs.length → cs[o + i]? = some (.int k (zs.getD i 0)) := by
            intro i hi
            have := hc i hi
            unfold World.cell? at this
            have hb : ((⟨g, o, none⟩ : Addr).add i).block = g := by unfold Addr.add; split <;> rfl
            have ho : ((⟨g, o, none⟩ : Addr).add i).off = o + i := by unfold Addr.add; split <;> simp_all
            have hsp : ((⟨g, o, none⟩ : Addr).add i).spot = none := by unfold Addr.add; split <;> rfl
            rw [hb, hg] at this
            simp only [hsp, ho] at this
            simpa using this
          have hmap : ((zs.take len).map fun p => [AVal.int k p]).length = len := by simp; omega
          have hv : RelV (fzAll w) (.vs 1 ((zs.take len).map fun p => [AVal.int k p])) (.slice (some ⟨g, o, none⟩) ((zs.take len).map fun p => [AVal.int k p]).length cap) := by
            have row : ∀ (q : Nat) (r : List AVal), ((zs.take len).map fun p => [AVal.int k p])[q]? = some r → r = [.int k (zs.getD q 0)] ∧ q < len := by
              intro q r hq
              rw [List.getElem?_map] at hq
              obtain ⟨y, hy, rfl⟩ := Option.map_eq_some_iff.1 hq
              have hlt : q < (zs.take len).length := (List.getElem?_eq_some_iff.1 hy).1
              rw [List.getElem?_take_of_lt (by omega)] at hy
              exact ⟨by simp [List.getD_eq_getElem?_getD, hy], by omega⟩
            refine .vs 1 _ g o cap cs (fzAll_of hg) (by omega) hm ?_ ?_ ?_ ?_
            · have := hcell (len - 1) (by omega)
              have := (Array.getElem?_eq_some_iff.1 this).1
              omega
            · intro q r hq
              rw [(row q r hq).1]; rfl
            · intro q j v hq hj hv
              obtain rfl : j = 0 := by omega
              rw [hmap] at hq
              rw [show o + q * 1 + 0 = o + q by omega, hcell q (by omega)] at hv
              cases hv; rfl
            · intro q j r x v hr hx hv
              obtain ⟨rfl, hq⟩ := row q r hr
              have hj : j = 0 := by
                have := (List.getElem?_eq_some_iff.1 hx).1
                simp at this; omega
              subst hj
              simp at hx; subst hx
              rw [show o + q * 1 + 0 = o + q by omega, hcell q (by omega)] at hv
              cases hv
              exact .int _ _
          rw [hmap] at hv
          exact hv
      · cases h1
end Go.Av
