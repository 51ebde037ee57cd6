/-
  strings.Builder within a printer: its copy check, as a call.
-/
import Derived.Test.YtjffmehcbaechaaTxtShelf
import Derived.Lib.Builder
set_option linter.unusedVariables false
set_option linter.unusedSimpArgs false
namespace Go.Proofs.Ytjffmehcbaechaa
open Go Go.Av Go.RowKit
set_option maxRecDepth 100000
set_option maxHeartbeats 1000000
theorem copy_fresh (g : Nat) (cs : Array Value) (fz : Nat × Nat) (w : World) (hg : w.heap[g]? = some (.cells cs 70 fz)) (hs : cs.size = 3) (h0 : cs[1]? = some (.pointer none)) (hfz : w.frozen? ⟨g, 1, none⟩ = false) :
    Calls Try.prog 65 #[.pointer (some ⟨g, 1, none⟩)] w fun e w' => e = .returned (.tuple #[]) ∧ w' = w.setCell ⟨g, 1, none⟩ (.pointer (some ⟨g, 1, none⟩)) := by
  have hsh : w.shape? g = some (70, 3) := by simp [World.shape?, hg, hs]
  have h0 : w.cell? ⟨g, 1, none⟩ = some (.pointer none) := by rw [Lib.cell_of_heap hg]; exact h0
  obtain ⟨j, hj, hjs⟩ : ∃ j, Try.prog.info? 68 = some j ∧ j.size = 2 := Option.map_eq_some_iff.1 (show (Try.prog.info? 68).map (·.size) = some 2 by kernel_rfl)
  have hli : liesAt Try.prog Try.prog.depth 70 (3 / Try.prog.cellsOf 70) 1 68 1 = true := by kernel_rfl
  have mixed : Try.prog.follows .mixedOrders = true := by kernel_rfl
  have t68 := Try.underlying68; have a68 := Try.isAgg68; have z68 := Try.sizeOf68; have v68 := Try.zeroValue68; have u68 := run_underlying Try.underlying68
  have t66 := Try.underlying66; have a66 := Try.isAgg66; have z66 := Try.sizeOf66; have v66 := Try.zeroValue66; have u66 := run_underlying Try.underlying66
  have t106 := Try.underlying106; have a106 := Try.isAgg106; have z106 := Try.sizeOf106; have v106 := Try.zeroValue106; have u106 := run_underlying Try.underlying106
  go_enter Try.func65, Try.ntmps65
  go_wp2
  rw [Lib.run_to_unsafe w ⟨g, 1, none⟩ t66 t106 hj (by rw [hjs]; decide) hsh (show 1 < 3 by decide)]
  simp only [Result.andThen]
  rw [Oper.upon_value]
  go_wp2
  rw [run_callFunc_extern Try.func70 (by kernel_rfl) (by kernel_rfl) (by kernel_rfl) (e := Extern.AbiNoEscape.same) (by kernel_rfl)]
  rw [Lib.run_noEscape]
  simp only [Result.andThen]
  rw [Oper.upon_value]
  go_wp2
  rw [Lib.run_from_unsafe w ⟨g, 1, none⟩ t106 t66 hj hsh hli]
  simp only [Result.andThen]
  rw [Oper.upon_value]
  go_wp2
  go_end0
  exact ⟨rfl, rfl⟩
theorem copy_used (a : Addr) (w : World) (h0 : w.cell? a = some (.pointer (some a))) (ha : a.spot = none) :
    Calls Try.prog 65 #[.pointer (some a)] w fun e w' => e = .returned (.tuple #[]) ∧ w' = w := by
  obtain ⟨g, o, s⟩ := a
  cases ha
  obtain ⟨j, hj, hjs⟩ : ∃ j, Try.prog.info? 68 = some j ∧ j.size = 2 := Option.map_eq_some_iff.1 (show (Try.prog.info? 68).map (·.size) = some 2 by kernel_rfl)
  have mixed : Try.prog.follows .mixedOrders = true := by kernel_rfl
  have t68 := Try.underlying68; have a68 := Try.isAgg68; have z68 := Try.sizeOf68; have v68 := Try.zeroValue68; have u68 := run_underlying Try.underlying68
  have t66 := Try.underlying66; have a66 := Try.isAgg66; have z66 := Try.sizeOf66; have v66 := Try.zeroValue66; have u66 := run_underlying Try.underlying66
  have t106 := Try.underlying106; have a106 := Try.isAgg106; have z106 := Try.sizeOf106; have v106 := Try.zeroValue106; have u106 := run_underlying Try.underlying106
  go_enter Try.func65, Try.ntmps65
  go_wp2
  rw [Lib.run_neq_ptr_same w _ t66 hj]
  go_wp2
  go_end0
  exact ⟨rfl, rfl⟩
/-- A call that changes one block. -/
theorem acalls_set [Syms] {P : Program} {f : FuncId} {args : List AVal} {H : Heap} {nx : Nat} {v : AVal} {n : Nat} {b b' : Blk} (hn : H.get n = some b) (hro : b.ro = false) (hro' : b'.ro = false)
    (h : ∀ (ι : Inj) (w : World) (vs : List Value) (L : Av.Loc), RelL ι args vs → RelH ι H w → Bound ι nx w → ι n = some L → RelB ι w L b → Calls P f ⟨vs⟩ w fun e w' => ∃ r, e = .returned r ∧ RelV ι v r ∧ RelB ι w' L b' ∧
      w'.heap.size = w.heap.size ∧ (∀ g, g ≠ L.g → w'.heap[g]? = w.heap[g]?) ∧ w'.os = w.os ∧ w'.tape = w.tape ∧ w'.output = w.output) : ACalls P f args H nx v (H.set n (some b')) nx := by
  intro ι w vs hvs hH hb
  obtain ⟨L, hL, hB⟩ := hH.blk n b hn
  refine (h ι w vs L hvs hH hb hL hB).mono ?_
  rintro e w' ⟨r, rfl, hr, hB', hsz, hold, hos, htp, hout⟩
  obtain ⟨s1, s2⟩ := set_block (w' := w') hH hn hro hL hsz hold hos htp hout hB' hro'
  exact ⟨r, ι, rfl, hr, s1, ⟨s2, Nat.le_refl _, fun n L hn => .inl hn⟩, fun n L hn => ⟨(hb n L hn).1, by rw [hsz]; exact (hb n L hn).2⟩⟩
def isAddr (b : Nat) (x : AVal) : Prop := x = .tagp b 70 ∨ x = .ptr b 0 1
def copyT : CallT := fun _ args H nx K => ∃ (b : Nat) (s x u : AVal), args = [.ptr b 0 1] ∧ H.get b = some (.cells [[s, x, u]] false) ∧ isAddr b x ∧ K (.tup []) (H.set b (some (.cells [[s, .ptr b 0 1, u]] false))) nx
theorem copy_one [Syms] : OneOk Try.prog 65 copyT := by
  rintro args H nx K ⟨b, s, x, u, rfl, hb, hx, hK⟩
  refine ⟨_, _, _, ⟨_, Try.func65, by kernel_rfl, by kernel_rfl⟩, acalls_set hb rfl rfl ?_, hK⟩
  intro ι w vs L hvs hH hbd hL hB
  obtain ⟨p, rfl⟩ : ∃ p, vs = [p] := by
    match vs, hvs.1 with
    | [p], _ => exact ⟨p, rfl⟩
  have hp := hvs.2 0 _ _ rfl rfl
  obtain ⟨L', hL', rfl⟩ := hp.of_ptr
  obtain rfl : L = L' := by rw [hL] at hL'; exact Option.some.inj hL'
  have hty := fun cs e fz hg => hB.ty (cs := cs) (e := e) (fz := fz) hg
  obtain ⟨cs, e, fz, h1, h2, h3, h4, h5⟩ := hB.rows
  obtain ⟨r1, r2⟩ := h4 0 _ rfl
  have hsz : L.size = 3 := r1.symm
  obtain ⟨v0, c0, o0, e0⟩ := r2 0 _ rfl
  obtain ⟨v1, c1, o1, e1⟩ := r2 1 _ rfl
  obtain ⟨v2, c2, o2, e2⟩ := r2 2 _ rfl
  rcases hx with rfl | rfl
  · cases e1 with
    | tagp _ _ M hM ht =>
      obtain rfl : L = M := by rw [hL] at hM; exact Option.some.inj hM
      obtain ⟨ht, hba, hph⟩ := ht
      have he : (70 : Nat) = e := hty _ _ _ h1 _ ht
      subst he
      have hcs : cs.size = 3 := by rw [h2, hph, hsz]
      rw [hba] at c1 ⊢
      simp only [hsz] at c1 ⊢
      refine (copy_fresh L.g cs fz w h1 hcs c1 (h5 rfl 1 (by rw [hph, hsz]; decide))).mono ?_
      rintro e w' ⟨rfl, rfl⟩
      have hset : w.setCell ⟨L.g, 1, none⟩ (.pointer (some ⟨L.g, 1, none⟩)) = w.setRow L.g (cs.setIfInBounds 1 (.pointer (some ⟨L.g, 1, none⟩))) := setCell_eq_setRow w L.g 1 cs 70 fz _ h1
      have hg' := setRow_heap w L.g cs (cs.setIfInBounds 1 (.pointer (some ⟨L.g, 1, none⟩))) 70 fz h1
      rw [hset]
      refine ⟨_, rfl, .tup [] [] rfl (fun i c v h => by simp at h), RelB.mk hg' (by rw [Array.size_setIfInBounds, h2]) h3 ?_ ?_ (hty _ _ _ h1), by simp, fun g hg => setRow_other w L.g g _ hg, rfl, rfl, rfl⟩
      · intro k row hk
        cases k with
        | succ k => simp at hk
        | zero =>
          simp at hk
          subst hk
          refine ⟨by rw [hsz]; rfl, fun j x hx => ?_⟩
          rw [hba] at c0 c2 ⊢
          match j, hx with
          | 0, hx => cases hx; exact ⟨v0, by rw [Array.getElem?_setIfInBounds_ne (by omega)]; exact c0, o0, e0⟩
          | 1, hx => cases hx; exact ⟨.pointer (some ⟨L.g, 1, none⟩), by simp [hcs], rfl, by have := RelV.ptr (ι := ι) b 0 1 L hL; rw [hba] at this; simpa using this⟩
          | 2, hx => cases hx; exact ⟨v2, by rw [Array.getElem?_setIfInBounds_ne (by omega)]; exact c2, o2, e2⟩
          | j + 3, hx => simp at hx
      · intro _ o ho
        have := h5 rfl o ho
        rw [frozen_row h1] at this
        rw [frozen_row hg']; exact this
  · obtain ⟨M, hM, rfl⟩ := e1.of_ptr
    obtain rfl : L = M := by rw [hL] at hM; exact Option.some.inj hM
    refine (copy_used ⟨L.g, L.base + 0 * L.size + 1, none⟩ w (by rw [Lib.cell_of_heap h1]; exact c1) rfl).mono ?_
    rintro e w' ⟨rfl, rfl⟩
    exact ⟨_, rfl, .tup [] [] rfl (fun i c v h => by simp at h), hB, rfl, fun _ _ => rfl, rfl, rfl, rfl⟩
end Go.Proofs.Ytjffmehcbaechaa
