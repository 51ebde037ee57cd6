/-
  What 'Make' makes is printed. Plain.
-/
import Derived.Test.YtjffmehcbaechaaTxtFo
set_option linter.unusedVariables false
set_option linter.unusedSimpArgs false
namespace Go.Proofs.Ytjffmehcbaechaa
open Go Go.Av
theorem Fo.all {d k : Nat} {l : List Fd} (h : Fo d k l) : ∀ f ∈ l, FOk f := by
  induction h with
  | nil => intro f hf; cases hf
  | leaf hd hf hk h0 h ih =>
    intro f h
    rcases List.mem_cons.1 h with rfl | h
    · exact hf
    · exact ih f h
  | group hd hf hk hm hp h1 h2 ih1 ih2 =>
    intro f h
    rcases List.mem_cons.1 h with rfl | h
    · exact hf
    · rcases List.mem_append.1 h with h | h
      · exact ih1 f h
      · exact ih2 f h
theorem kw_len (f : Fd) (h : FOk f) : (kwReps.getD f.rep.toNat []).length ≤ 8 ∧ (kwKinds.getD f.kind.toNat []).length ≤ 5 := by
  obtain ⟨h0, h2⟩ := h.rep
  obtain ⟨h3, h4⟩ := h.kind
  constructor
  · generalize f.rep = r at *
    rcases (show r = 0 ∨ r = 1 ∨ r = 2 by omega) with rfl | rfl | rfl <;> decide
  · generalize f.kind = k at *
    rcases (show k = 0 ∨ k = 1 ∨ k = 2 ∨ k = 3 ∨ k = 4 by omega) with rfl | rfl | rfl | rfl | rfl <;> decide
theorem blanksT_len (d : Nat) : (blanksT d).length = 2 * d := by simp [blanksT]
theorem front_len {d : Nat} {f : Fd} (h : FOk f) : (frontT d f).length ≤ 2 * d + 15 := by
  unfold frontT
  split
  · show 8 ≤ _; omega
  · have h1 := kw_len f h
    simp only [List.length_append, List.length_cons, List.length_nil, blanksT_len]
    omega
theorem nameT_le {w : Wd} (h : nameT w = true) : w.length ≤ 12 := by
  cases w with
  | nil => cases h
  | cons c t =>
    have : (letterF c && decide ((c :: t).length ≤ 12)) = true := h
    simp only [Bool.and_eq_true, decide_eq_true_eq] at this
    exact this.2
theorem getD_pre {pre l post : List Fd} {f : Fd} : (pre ++ (f :: l) ++ post).getD pre.length default = f := by
  rw [List.append_assoc, List.getD_eq_getElem?_getD, List.getElem?_append_right (Nat.le_refl _), Nat.sub_self]; rfl
theorem len_pre {pre l post : List Fd} {f : Fd} : pre.length < (pre ++ (f :: l) ++ post).length := by simp
/-- A text, wherever the fields lie. -/
theorem fo_print {d k : Nat} {l : List Fd} (h : Fo d k l) : ∃ t, t.length ≤ 64 * l.length ∧ ∀ pre post, PrT (pre ++ l ++ post) (9 - d) k pre.length d t (pre.length + l.length) := by
  induction h with
  | nil => exact ⟨[], by simp, fun pre post => by rw [List.length_nil]; exact .nil⟩
  | leaf hd hf hk h0 h ih =>
    rename_i d k f l
    obtain ⟨t, h1, h2⟩ := ih
    refine ⟨leafT d f ++ t, ?_, fun pre post => ?_⟩
    · have := front_len (d := d) hf
      have := nameT_le hf.name
      simp only [leafT, List.length_append, List.length_cons, List.length_nil]
      omega
    · have h3 := h2 (pre ++ [f]) post
      have e : pre ++ [f] ++ l ++ post = pre ++ (f :: l) ++ post := by simp
      rw [e, List.length_append, List.length_singleton] at h3
      have hg := getD_pre (pre := pre) (l := l) (post := post) (f := f)
      have := PrT.leaf (s := pre ++ (f :: l) ++ post) len_pre (by rw [hg]; exact hk) h3
      rw [hg] at this
      rw [List.length_cons, show pre.length + (l.length + 1) = pre.length + 1 + l.length by omega]
      exact this
  | group hd hf hk hm hp h1 h2 ih1 ih2 =>
    rename_i d k m f l1 l2
    obtain ⟨t1, a1, a2⟩ := ih1
    obtain ⟨t2, b1, b2⟩ := ih2
    refine ⟨openT d f ++ t1 ++ closeT d ++ t2, ?_, fun pre post => ?_⟩
    · have := front_len (d := d) hf
      have := nameT_le hf.name
      simp only [openT, closeT, List.length_append, List.length_cons, List.length_nil, blanksT_len]
      omega
    · have h3 := a2 (pre ++ [f]) (l2 ++ post)
      have h4 := b2 (pre ++ (f :: l1)) post
      have e3 : pre ++ [f] ++ l1 ++ (l2 ++ post) = pre ++ (f :: (l1 ++ l2)) ++ post := by simp
      have e4 : pre ++ (f :: l1) ++ l2 ++ post = pre ++ (f :: (l1 ++ l2)) ++ post := by simp
      rw [e3, List.length_append, List.length_singleton] at h3
      rw [e4, List.length_append, List.length_cons] at h4
      have hg := getD_pre (pre := pre) (l := l1 ++ l2) (post := post) (f := f)
      have en : 9 - d = (9 - (d + 1)) + 1 := by omega
      rw [en] at h4 ⊢
      have := PrT.group (s := pre ++ (f :: (l1 ++ l2)) ++ post) (d := d) len_pre (by rw [hg]; exact hk) (by rw [hg]; exact hm) h3 (by rw [show pre.length + 1 + l1.length = pre.length + (l1.length + 1) by omega]; exact h4)
      rw [hg] at this
      rw [List.length_cons, List.length_append, show pre.length + (l1.length + l2.length + 1) = pre.length + (l1.length + 1) + l2.length by omega]
      exact this
/-- A shape that is printed. -/
structure PrS (s : List Fd) (t : List UInt8) : Prop where
  pr : PrT s 9 1 0 0 t s.length
  ok : PrOk s
  len : t.length ≤ 64 * s.length
theorem step_len (fs : List Fd) (op : List Int) (i : Nat) (x : Int) : (stepM fs op i x).1.length = fs.length + 1 := by
  simp [stepM, incK_length]
theorem run_len {ns : List Int} : ∀ (n i : Nat) (fs : List Fd) (op : List Int), (runM ns n i fs op).1.length ≤ fs.length + n
  | 0, _, _, _ => Nat.le_refl _
  | n + 1, i, fs, op => by
    rw [runM]
    split
    · have := run_len (ns := ns) n (i + 1) (stepM fs op i (ns.getD i 0)).1 (stepM fs op i (ns.getD i 0)).2
      rw [step_len] at this
      show (runM ns n (i + 1) (stepM fs op i (ns.getD i 0)).1 (stepM fs op i (ns.getD i 0)).2).1.length ≤ _
      omega
    · show fs.length ≤ _; omega
theorem make_len (ns : List Int) : (makeF ns).length ≤ 14 := by
  have h := run_len (ns := ns) 12 0 [⟨[109], 0, 0, 0⟩] [0]
  rw [makeF]
  generalize (runM ns 12 0 [⟨[109], 0, 0, 0⟩] [0]) = r at *
  have h : r.1.length ≤ 13 := h
  show (endM r.1 r.2).length ≤ 14
  unfold endM
  split
  · simp [incK_length]; omega
  · omega
theorem make_print (ns : List Int) : ∃ t, PrS (makeF ns) t := by
  obtain ⟨f, l, k, hs, hf, hk, hr, hm, hp, h⟩ := make_fo ns
  have hT : Fo 0 1 (f :: l) := by
    have := Fo.group (d := 0) (k := 0) (by decide) hf hk hm hp h .nil
    rwa [List.append_nil] at this
  obtain ⟨t, h1, h2⟩ := fo_print hT
  have h3 := h2 [] []
  rw [hs]
  simp only [List.nil_append, List.append_nil, List.length_nil, Nat.zero_add] at h3
  have hl := make_len ns
  rw [hs] at hl
  have hat : ∀ i, i < (f :: l).length → (f :: l).getD i default ∈ f :: l := fun i hi => by rw [List.getD_eq_getElem?_getD, List.getElem?_eq_getElem hi]; exact List.getElem_mem _
  exact ⟨t, h3, ⟨by omega, fun i hi => (hT.all _ (hat i hi)).rep, fun i hi => (hT.all _ (hat i hi)).kind⟩, h1⟩
end Go.Proofs.Ytjffmehcbaechaa
