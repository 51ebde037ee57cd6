/-
  The abstract step is sound: new blocks, stores, and what each operation does to the world. Over every program.
-/
import Derived.Test.YtgaacnljcnibdaaAvC
import Derived.Laws.Cells
import Derived.Laws.Rows
import Derived.Laws.Slices
import Derived.Tactics
noncomputable section
namespace Go.Av

theorem RelB.keep [Syms] {ι κ : Inj} {w w' : World} {L : Loc} {b : Blk} (h : RelB ι w L b) (hle : ι.le κ) (hk : w'.heap[L.g]? = w.heap[L.g]?) : RelB κ w' L b := by
  cases b with
  | cells rows ro =>
    obtain ⟨cs, e, fz, h1, h2, h3, h4, h5⟩ := h
    refine ⟨cs, e, fz, by rw [hk]; exact h1, h2, h3, fun k row hr => ?_, fun hro o ho => ?_⟩
    · obtain ⟨h6, h7⟩ := h4 k row hr
      refine ⟨h6, fun j x hx => ?_⟩
      obtain ⟨v, h8, h9, h10⟩ := h7 j x hx
      exact ⟨v, h8, h9, h10.mono hle⟩
    · rw [World.frozen?_of_block (w := w) hk]; exact h5 hro o ho
  | iter s pos => simp only [RelB] at h ⊢; rw [hk]; exact h

def Inj.put (ι : Inj) (m : Nat) (L : Loc) : Inj := ⟨fun n => if n = m then some L else ι n, ι.fz⟩
theorem Inj.put_same (ι : Inj) (m : Nat) (L : Loc) : (ι.put m L) m = some L := by simp [Inj.put]
theorem Inj.put_ne (ι : Inj) {m n : Nat} (L : Loc) (h : n ≠ m) : (ι.put m L) n = ι n := by simp [Inj.put, h]
theorem Inj.le_put [Syms] {ι : Inj} {m : Nat} (L : Loc) (hm : ι m = none) : ι.le (ι.put m L) := by
  refine ⟨fun n M h => ?_, fun _ _ h => h⟩
  rw [Inj.put_ne ι L (fun e => by subst e; rw [hm] at h; cases h)]
  exact h

/-- All blocks lie in the world. -/
def Lies (ι : Inj) (w : World) : Prop := ∀ n L, ι n = some L → L.g < w.heap.size

theorem new_block [Syms] {ι : Inj} {H : Heap} {w w' : World} {m : Nat} {L : Loc} {b : Blk} {o : Obj} (hH : RelH ι H w) (hl : Lies ι w) (hm : ι m = none) (hw : w'.heap = w.heap.push o)
    (hos : w'.os = w.os) (htape : w'.tape = w.tape) (hout : w'.output = w.output) (hg : L.g = w.heap.size) (hb : RelB (ι.put m L) w' L b) :
    RelH (ι.put m L) (H.set m (some b)) w' ∧ Step ι H w (ι.put m L) (H.set m (some b)) w' := by
  have hle := Inj.le_put L hm
  have hold : ∀ g, g < w.heap.size → w'.heap[g]? = w.heap[g]? := fun g hg => by rw [hw, Array.getElem?_push, if_neg (by omega)]
  refine (fun (X : _ ∧ _ ∧ _) => ⟨⟨X.1, X.2.1, hH.fz_keep X.2.2 rfl⟩, X.2.2⟩) ⟨fun n c hc => ?_, fun n k c d M M' h1 h2 h3 h4 h5 => ?_, ⟨hle, hos, htape, hout, by rw [hw]; simp, fun g hg _ => hold g hg, fun g hgo => ?_, fun _ _ h => .inl h⟩⟩
  · rw [Heap.get_set] at hc
    by_cases hn : n = m
    · subst hn
      rw [if_pos rfl] at hc
      cases hc
      exact ⟨L, Inj.put_same _ _ _, hb⟩
    · rw [if_neg hn] at hc
      obtain ⟨M, hM, hB⟩ := hH.blk n c hc
      exact ⟨M, hle.1 _ _ hM, hB.keep hle (hold _ (hl _ _ hM))⟩
  · rw [Heap.get_set] at h1 h2
    by_cases hn : n = m
    · by_cases hk : k = m
      · exact .inl (hn.trans hk.symm)
      · subst hn
        rw [if_neg hk] at h2
        rw [Inj.put_same] at h3
        rw [Inj.put_ne _ _ hk] at h4
        cases h3
        have := hl _ _ h4
        omega
    · by_cases hk : k = m
      · subst hk
        rw [if_neg hn] at h1
        rw [Inj.put_same] at h4
        rw [Inj.put_ne _ _ hn] at h3
        cases h4
        have := hl _ _ h3
        omega
      · rw [if_neg hn] at h1
        rw [if_neg hk] at h2
        rw [Inj.put_ne _ _ hn] at h3
        rw [Inj.put_ne _ _ hk] at h4
        exact hH.inj n k c d M M' h1 h2 h3 h4 h5
  · obtain ⟨n, c, M, h1, h2, h3, h4⟩ := hgo
    rw [Heap.get_set] at h1
    by_cases hn : n = m
    · subst hn
      rw [Inj.put_same] at h3
      cases h3
      exact .inr (by omega)
    · rw [if_neg hn] at h1
      rw [Inj.put_ne _ _ hn] at h3
      exact .inl ⟨n, c, M, h1, h2, h3, h4⟩

/-- A block that may be written is written. -/
theorem set_block [Syms] {ι : Inj} {H : Heap} {w w' : World} {n : Nat} {L : Loc} {b b' : Blk} (hH : RelH ι H w) (hn : H.get n = some b) (hro : b.ro = false) (hL : ι n = some L)
    (hsz : w'.heap.size = w.heap.size) (hold : ∀ g, g ≠ L.g → w'.heap[g]? = w.heap[g]?)
    (hos : w'.os = w.os) (htape : w'.tape = w.tape) (hout : w'.output = w.output) (hb : RelB ι w' L b') (_hro' : b'.ro = false) :
    RelH ι (H.set n (some b')) w' ∧ Step ι H w ι (H.set n (some b')) w' := by
  refine (fun (X : _ ∧ _ ∧ _) => ⟨⟨X.1, X.2.1, hH.fz_keep X.2.2 rfl⟩, X.2.2⟩) ⟨fun k c hc => ?_, fun x y c d M M' h1 h2 h3 h4 h5 => ?_, ⟨Inj.le_refl ι, hos, htape, hout, by omega, fun g hg ho => hold g (fun e => ho ⟨n, b, L, hn, hro, hL, e.symm⟩), fun g hgo => ?_, fun _ _ h => .inl h⟩⟩
  · rw [Heap.get_set] at hc
    by_cases hk : k = n
    · subst hk
      rw [if_pos rfl] at hc
      cases hc
      exact ⟨L, hL, hb⟩
    · rw [if_neg hk] at hc
      obtain ⟨M, hM, hB⟩ := hH.blk k c hc
      refine ⟨M, hM, hB.keep (Inj.le_refl ι) (hold _ (fun e => ?_))⟩
      rcases hH.inj k n c b M L hc hn hM hL e with h | h
      · exact hk h
      · rw [hro] at h; cases h.2
  · have old : ∀ z f, (H.set n (some b')).get z = some f → ∃ f', H.get z = some f' ∧ (f'.ro = true → f.ro = true) := by
      intro z f hz
      rw [Heap.get_set] at hz
      by_cases e : z = n
      · subst e
        exact ⟨b, hn, fun h => by rw [hro] at h; cases h⟩
      · rw [if_neg e] at hz
        exact ⟨f, hz, id⟩
    obtain ⟨c', hc', ec⟩ := old x c h1
    obtain ⟨d', hd', ed⟩ := old y d h2
    rcases hH.inj x y c' d' M M' hc' hd' h3 h4 h5 with h | h
    · exact .inl h
    · exact .inr ⟨ec h.1, ed h.2⟩
  · obtain ⟨k, c, M, h1, h2, h3, h4⟩ := hgo
    rw [Heap.get_set] at h1
    by_cases hk : k = n
    · subst hk
      rw [hL] at h3
      cases h3
      exact .inl ⟨k, b, L, hn, hro, hL, h4⟩
    · rw [if_neg hk] at h1
      exact .inl ⟨k, c, M, h1, h2, h3, h4⟩

/-- A block is given up, and what it was lies from here on under another number. -/
theorem move_block [Syms] {ι : Inj} {H : Heap} {w w' : World} {n m : Nat} {L M : Loc} {b b' : Blk} (hH : RelH ι H w) (hn : H.get n = some b) (hro : b.ro = false) (hL : ι n = some L)
    (hm : ι m = none) (hM : M.g = L.g) (hsz : w'.heap.size = w.heap.size) (hold : ∀ g, g ≠ L.g → w'.heap[g]? = w.heap[g]?)
    (hos : w'.os = w.os) (htape : w'.tape = w.tape) (hout : w'.output = w.output) (hb : RelB (ι.put m M) w' M b') :
    RelH (ι.put m M) ((H.set n none).set m (some b')) w' ∧ Step ι H w (ι.put m M) ((H.set n none).set m (some b')) w' := by
  have hle := Inj.le_put M hm
  have hnm : n ≠ m := fun e => by subst e; rw [hm] at hL; cases hL
  have old : ∀ z f, ((H.set n none).set m (some b')).get z = some f → (z = m ∧ f = b') ∨ (z ≠ m ∧ z ≠ n ∧ H.get z = some f) := by
    intro z f hz
    rw [Heap.get_set] at hz
    by_cases e : z = m
    · subst e; rw [if_pos rfl] at hz; cases hz; exact .inl ⟨rfl, rfl⟩
    · rw [if_neg e, Heap.get_set] at hz
      by_cases e' : z = n
      · subst e'; rw [if_pos rfl] at hz; cases hz
      · rw [if_neg e'] at hz; exact .inr ⟨e, e', hz⟩
  have far : ∀ z f X, z ≠ n → H.get z = some f → ι z = some X → X.g ≠ L.g := by
    intro z f X hz hf hX e
    rcases hH.inj z n f b X L hf hn hX hL e with h | h
    · exact hz h
    · rw [hro] at h; cases h.2
  refine (fun (X : _ ∧ _ ∧ _) => ⟨⟨X.1, X.2.1, hH.fz_keep X.2.2 rfl⟩, X.2.2⟩) ⟨fun z f hz => ?_, fun x y c d X Y h1 h2 h3 h4 h5 => ?_, ⟨hle, hos, htape, hout, by omega, fun g hg ho => hold g (fun e => ho ⟨n, b, L, hn, hro, hL, e.symm⟩), fun g hgo => ?_, fun _ _ h => .inl h⟩⟩
  · rcases old z f hz with ⟨rfl, rfl⟩ | ⟨e1, e2, hf⟩
    · exact ⟨M, Inj.put_same _ _ _, hb⟩
    · obtain ⟨X, hX, hB⟩ := hH.blk z f hf
      exact ⟨X, hle.1 _ _ hX, hB.keep hle (hold _ (far z f X e2 hf hX))⟩
  · rcases old x c h1 with ⟨rfl, rfl⟩ | ⟨e1, e2, hf⟩
    · rcases old y d h2 with ⟨rfl, rfl⟩ | ⟨e3, e4, hf'⟩
      · exact .inl rfl
      · rw [Inj.put_same] at h3
        rw [Inj.put_ne _ _ e3] at h4
        cases h3
        exact absurd (h5.symm.trans hM) (far y d Y e4 hf' h4)
    · rcases old y d h2 with ⟨rfl, rfl⟩ | ⟨e3, e4, hf'⟩
      · rw [Inj.put_same] at h4
        rw [Inj.put_ne _ _ e1] at h3
        cases h4
        exact absurd (h5.trans hM) (far x c X e2 hf h3)
      · rw [Inj.put_ne _ _ e1] at h3
        rw [Inj.put_ne _ _ e3] at h4
        exact hH.inj x y c d X Y hf hf' h3 h4 h5
  · obtain ⟨z, f, X, h1, h2, h3, h4⟩ := hgo
    rcases old z f h1 with ⟨rfl, rfl⟩ | ⟨e1, e2, hf⟩
    · rw [Inj.put_same] at h3
      cases h3
      exact .inl ⟨n, b, L, hn, hro, hL, by rw [← h4, hM]⟩
    · rw [Inj.put_ne _ _ e1] at h3
      exact .inl ⟨z, f, X, hf, h2, h3, h4⟩

/-- What an operation has come to. -/
def Out [Syms] (ι : Inj) (H : Heap) (w : World) (m : Nat) (r : Res) (run : Result Next) : Prop :=
  ∃ v w' κ, (run = .ok (.value v) w' ∨ (run = .ok .skip w' ∧ v = undef)) ∧ RelV κ r.v v ∧ RelH κ (r.heap H m) w' ∧ Step ι H w κ (r.heap H m) w' ∧
    (∀ n L, κ n = some L → ι n = some L ∨ (n = m ∧ L.g < w'.heap.size)) ∧ (r.isVal = true → κ = ι)

theorem Out.val [Syms] {ι : Inj} {H : Heap} {w : World} {m : Nat} {x : AVal} {v : Value} {run : Result Next} (hH : RelH ι H w) (hr : run = .ok (.value v) w) (hv : RelV ι x v) :
    Out ι H w m (.val x) run := ⟨v, w, ι, .inl hr, hv, hH, Step.refl ι H w, fun _ _ h => .inl h, fun _ => rfl⟩

theorem Out.new [Syms] {ι : Inj} {H : Heap} {w w' : World} {m : Nat} {x : AVal} {v : Value} {run : Result Next} {L : Loc} {b : Blk} {o : Obj} (hH : RelH ι H w) (hl : Lies ι w) (hm : ι m = none)
    (hr : run = .ok (.value v) w') (hw : w'.heap = w.heap.push o) (hos : w'.os = w.os) (htape : w'.tape = w.tape) (hout : w'.output = w.output) (hg : L.g = w.heap.size)
    (hb : RelB (ι.put m L) w' L b) (hv : RelV (ι.put m L) x v) : Out ι H w m (.new b x) run := by
  obtain ⟨h1, h2⟩ := new_block hH hl hm hw hos htape hout hg hb
  refine ⟨v, w', ι.put m L, .inl hr, hv, h1, h2, fun n M hn => ?_, fun h => by cases h⟩
  by_cases e : n = m
  · subst e
    rw [Inj.put_same] at hn
    cases hn
    exact .inr ⟨rfl, by rw [hw, Array.size_push]; omega⟩
  · rw [Inj.put_ne _ _ e] at hn
    exact .inl hn

/-- What a type of the table is in the program. -/
theorem ty_spec {P : Program} {t : TypeId} {ty : Ty} (h : tyFits P t ty = true) : ∃ d i, P.underlying t = some d ∧ P.info? t = some i ∧ ty.kd.fits d = true ∧ i.size = ty.size ∧ i.bytes = ty.bytes ∧
    ((∃ z, i.zero = some z ∧ valFits ty.zero z = true) ∨ ty.zero = .any) ∧ ∀ fs, d = .struct fs → P.stoodInHeld t = false ∧ ∀ f ∈ fs.toList, f.name ≠ "_" := by
  unfold tyFits at h
  split at h
  · rename_i d i hd hi
    simp only [Bool.and_eq_true] at h
    obtain ⟨⟨⟨⟨h1, h0⟩, h2⟩, h3⟩, h4⟩ := h
    refine ⟨d, i, hd, hi, h1, Nat.eq_of_beq_eq_true h2, Nat.eq_of_beq_eq_true h3, ?_, fun fs hfs => ?_⟩
    · split at h4
      · rename_i z hz; exact .inl ⟨z, hz, h4⟩
      · right
        split at h4
        · assumption
        · cases h4
    · subst hfs
      simp only [Bool.and_eq_true, Bool.not_eq_true', List.all_eq_true, bne_iff_ne] at h0
      exact h0
  · cases h

theorem valFits_cells [Syms] {x : AVal} {v : Value} (h : valFits x v = true) (hx : allLeaf x.cells = true) (ι : Inj) : RelL ι x.cells v.cells.toList ∧ ∀ u ∈ v.cells.toList, u.oneCell' = true := by
  have hx' : ∀ c ∈ x.cells, c.leaf = true := by simpa [allLeaf] using hx
  cases x with
  | agg cs =>
    cases v with
    | agg vs => obtain ⟨h1, _, h3⟩ := allFit_rel h ι; exact ⟨h1, h3⟩
    | _ => simp [valFits, leafFits] at h
  | any => simp [AVal.cells, AVal.leaf] at hx'
  | _ => exact (leafFits_rel (by simpa [valFits] using h) ι).1.cells hx'

end Go.Av
