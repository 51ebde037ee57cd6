/-
  strings.Builder within a printer: its text, as a call; a word among some.
-/
import Derived.Test.YtjffmehcbaechaaTxtCopy
import Derived.Test.YtjffmehcbaechaaTxtNext
import Derived.Lib.UnsafeStr
set_option linter.unusedVariables false
set_option linter.unusedSimpArgs false
namespace Go.Proofs.Ytjffmehcbaechaa
open Go Go.Av Go.RowKit
set_option maxRecDepth 100000
set_option maxHeartbeats 2000000
/-- A call that changes one block, which is forgotten. -/
theorem acalls_drop [Syms] {P : Program} {f : FuncId} {args : List AVal} {H : Heap} {nx : Nat} {v : AVal} {n : Nat} {b : Blk} (hn : H.get n = some b) (hro : b.ro = false)
    (h : ∀ (ι : Inj) (w : World) (vs : List Value) (L : Av.Loc), RelL ι args vs → RelH ι H w → Bound ι nx w → ι n = some L → RelB ι w L b → Calls P f ⟨vs⟩ w fun e w' => ∃ r, e = .returned r ∧ RelV ι v r ∧
      w'.heap.size = w.heap.size ∧ (∀ g, g ≠ L.g → w'.heap[g]? = w.heap[g]?) ∧ w'.os = w.os ∧ w'.tape = w.tape ∧ w'.output = w.output) : ACalls P f args H nx v (H.set n none) nx := by
  intro ι w vs hvs hH hb
  obtain ⟨L, hL, hB⟩ := hH.blk n b hn
  refine (h ι w vs L hvs hH hb hL hB).mono ?_
  rintro e w' ⟨r, rfl, hr, hsz, hold, hos, htp, hout⟩
  have hsub : (H.set n none).sub H := by
    intro m c hm
    rw [Heap.get_set] at hm
    by_cases e : m = n
    · rw [if_pos e] at hm; cases hm
    · rw [if_neg e] at hm; exact hm
  have hown : Own ι H L.g := ⟨n, b, L, hn, hro, hL, rfl⟩
  refine ⟨r, ι, rfl, hr, ⟨fun m c hm => ?_, fun x y c d M M' h1 h2 h3 h4 h5 => hH.inj x y c d M M' (hsub _ _ h1) (hsub _ _ h2) h3 h4 h5, fun g cs hg => ⟨?_, fun ho => (hH.fz g cs hg).2 (ho.sub hsub)⟩⟩,
    ⟨⟨Inj.le_refl ι, hos, htp, hout, by omega, fun g hg ho => hold g (fun e => ho (e ▸ hown)), fun g hg => .inl (hg.sub hsub), fun g cs hg => .inl hg⟩, Nat.le_refl _, fun n L hn => .inl hn⟩, fun n L hn => ⟨(hb n L hn).1, by rw [hsz]; exact (hb n L hn).2⟩⟩
  · have hm0 := hsub _ _ hm
    obtain ⟨M, hM, hBM⟩ := hH.blk m c hm0
    refine ⟨M, hM, hBM.keep (Inj.le_refl ι) (hold _ fun e => ?_)⟩
    rcases hH.inj m n c b M L hm0 hn hM hL e with h | h
    · rw [h, Heap.get_set, if_pos rfl] at hm; cases hm
    · rw [hro] at h; cases h.2
  · have hne : g ≠ L.g := fun e => (hH.fz g cs hg).2 (e ▸ hown)
    rw [hold g hne]
    exact (hH.fz g cs hg).1
theorem str_call (g o g' cap : Nat) (cs cur : Array Value) (e : TypeId) (fz fz' : Nat × Nat) (l : List UInt8) (w : World) (hg : w.heap[g]? = some (.cells cs e fz)) (hs : cs[o + 1]? = some (.slice (some ⟨g', 0, none⟩) l.length cap))
    (h0 : l ≠ []) (hc : l.length ≤ cap) (hcm : cap ≤ maxLen) (hcur : w.heap[g']? = some (.cells cur 5 fz')) (hcs : cap ≤ cur.size) (hcell : ∀ (j : Nat) (x : UInt8), l[j]? = some x → cur[j]? = some (.int .u8 x.toNat)) :
    Calls Try.prog 35 #[.pointer (some ⟨g, o, none⟩)] w fun e w' => e = .returned (.string ⟨l.toArray⟩) ∧ w' = w.drew.freeze ⟨g', 0, none⟩ l.length := by
  have hl0 : l.length ≠ 0 := by simpa using h0
  have c1 : w.drew.cell? ⟨g, o + 1, none⟩ = some (.slice (some ⟨g', 0, none⟩) l.length cap) := by
    have : w.drew.heap[g]? = some (.cells cs e fz) := hg
    rw [Lib.cell_of_heap this]; exact hs
  have hSD : (Builtin.unsafeSliceData_ #[23] 88 #[.slice (some ⟨g', 0, none⟩) l.length cap]).run Try.prog w.drew = .ok (.pointer (some ⟨g', 0, none⟩)) w.drew :=
    Lib.run_unsafeSliceData_row _ _ _ _ _ _ (by omega)
  have hcb : Try.prog.cellsOf 5 = 1 := by kernel_rfl
  have hUS : (Builtin.unsafeString_ #[88, 3] 9 #[.pointer (some ⟨g', 0, none⟩), .int .i64 l.length]).run Try.prog w.drew = .ok (.string ⟨l.toArray⟩) (w.drew.freeze ⟨g', 0, none⟩ l.length) := by
    refine Lib.run_unsafeString_row w.drew 88 3 9 5 Try.underlying88 hcb g' cur.size (by have hg' : w.drew.heap[g']? = some (.cells cur 5 fz') := hcur; simp [World.shape?, hg']) l h0 (by omega) (by unfold maxLen at hcm; omega) ?_
    intro j x hx
    have hg' : w.drew.heap[g']? = some (.cells cur 5 fz') := hcur
    rw [addr_add, Nat.zero_add, Lib.cell_of_heap hg']
    exact hcell j x hx
  have mixed : Try.prog.follows .mixedOrders = true := by kernel_rfl
  have t68 := Try.underlying68; have a68 := Try.isAgg68; have z68 := Try.sizeOf68; have v68 := Try.zeroValue68; have u68 := run_underlying Try.underlying68
  have t66 := Try.underlying66; have a66 := Try.isAgg66; have z66 := Try.sizeOf66; have v66 := Try.zeroValue66; have u66 := run_underlying Try.underlying66
  have t23 := Try.underlying23; have a23 := Try.isAgg23; have z23 := Try.sizeOf23; have v23 := Try.zeroValue23; have u23 := run_underlying Try.underlying23
  have t88 := Try.underlying88; have a88 := Try.isAgg88; have z88 := Try.sizeOf88; have v88 := Try.zeroValue88; have u88 := run_underlying Try.underlying88
  have t3 := Try.underlying3; have a3 := Try.isAgg3; have z3 := Try.sizeOf3; have v3 := Try.zeroValue3; have u3 := run_underlying Try.underlying3
  have t9 := Try.underlying9; have a9 := Try.isAgg9; have z9 := Try.sizeOf9; have v9 := Try.zeroValue9; have u9 := run_underlying Try.underlying9
  have t5 := Try.underlying5; have a5 := Try.isAgg5; have z5 := Try.sizeOf5; have v5 := Try.zeroValue5; have u5 := run_underlying Try.underlying5
  go_enter Try.func35, Try.ntmps35
  go_wp2
  go_region_o
  all_goals (go_wp2; go_ret; exact ⟨rfl, rfl⟩)
def bR (s : List UInt8) : List (List AVal) := s.map fun b => [.int .u8 b.toNat]
theorem bR_app (a b : List UInt8) : bR (a ++ b) = bR a ++ bR b := List.map_append
theorem bR_flat (s : List UInt8) : flatRows (bR s) := flat_map (enc := fun b : UInt8 => [AVal.int .u8 b.toNat]) (fun a x hx => by simp at hx; subst hx; rfl) s
def strT : CallT := fun _ args H nx K => ∃ (b m : Nat) (s x : AVal) (out : List UInt8), args = [.ptr b 0 1] ∧ H.get b = some (.cells [[s, x, .tslice m out.length 1 5]] false) ∧ H.get m = some (.cells (bR out) false) ∧ out ≠ [] ∧ K (.str out) (H.set m none) nx
theorem str_one [Syms] : OneOk Try.prog 35 strT := by
  rintro args H nx K ⟨b, m, s, x, out, rfl, hb, hm, h0, hK⟩
  refine ⟨_, _, _, ⟨_, Try.func35, by kernel_rfl, by kernel_rfl⟩, acalls_drop hm rfl ?_, hK⟩
  intro ι w vs M hvs hH hbd hM hBM
  obtain ⟨p, rfl⟩ : ∃ p, vs = [p] := by
    match vs, hvs.1 with
    | [p], _ => exact ⟨p, rfl⟩
  have hp := hvs.2 0 _ _ rfl rfl
  obtain ⟨L, hL, rfl⟩ := hp.of_ptr
  obtain ⟨L', hL', hB⟩ := hH.blk b _ hb
  obtain rfl : L = L' := by rw [hL] at hL'; exact Option.some.inj hL'
  obtain ⟨cs, e, fz, h1, h2, h3, h4, h5⟩ := hB.rows
  obtain ⟨r1, r2⟩ := h4 0 _ rfl
  obtain ⟨v2, c2, o2, e2⟩ := r2 2 _ rfl
  have hty := fun cs e fz hg => hBM.ty (cs := cs) (e := e) (fz := fz) hg
  obtain ⟨cur, e', fz', k1, k2, k3, k4, k5⟩ := hBM.rows
  cases e2 with
  | tslice _ _ _ _ M' c hM' hs ht hl hph hmm =>
    obtain rfl : M = M' := by rw [hM] at hM'; exact Option.some.inj hM'
    have he : 5 = e' := hty _ _ _ k1 _ ht.1
    subst he
    have hout : out.length ≠ 0 := by simpa using h0
    refine (str_call L.g (L.base + 0 * L.size + 1) M.g c cs cur e fz fz' out w h1 (by rw [← c2]) h0 hl hmm k1 (by rw [hs] at hph; omega) ?_).mono ?_
    · intro j x hx
      have hr : (bR out)[j]? = some [.int .u8 x.toNat] := by simp [bR, hx]
      obtain ⟨_, q⟩ := k4 j _ hr
      obtain ⟨v, q1, _, q3⟩ := q 0 _ rfl
      obtain rfl := q3.of_int
      rw [← q1]
      simp [ht.2, hs]
    · rintro e w' ⟨rfl, rfl⟩
      obtain ⟨F, hF⟩ : ∃ F, w.drew.freeze ⟨M.g, 0, none⟩ out.length = { w.drew with heap := w.drew.heap.modify M.g F } := ⟨_, by unfold World.freeze; rw [if_neg hout]⟩
      rw [hF]
      refine ⟨_, rfl, .str _, (Array.size_modify : (w.heap.modify M.g _).size = w.heap.size), fun g hg => ?_, rfl, rfl, rfl⟩
      simp only [Array.getElem?_modify]
      rw [if_neg (fun e => hg e.symm)]
      rfl
end Go.Proofs.Ytjffmehcbaechaa
