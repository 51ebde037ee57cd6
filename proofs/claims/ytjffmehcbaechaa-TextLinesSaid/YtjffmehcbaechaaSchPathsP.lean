/-
  The names of a shape of raw numbers, and its paths: no two are the same. Plain.
-/
import Derived.Test.YtjffmehcbaechaaSchMakeP
set_option linter.unusedVariables false
set_option linter.unusedSimpArgs false
namespace Go.Proofs.Ytjffmehcbaechaa
open Go Go.Av

/-- The names that 'Make' gives: by their place; the last one may be 'z'. -/
structure Nam (fs : List Fd) : Prop where
  pos : 0 < fs.length
  le : fs.length ≤ 14
  root : (fs.getD 0 default).name = [109]
  at' : ∀ j, 1 ≤ j → j < fs.length → (fs.getD j default).name = nmM (j - 1) ∧ j ≤ 12 ∨ ((fs.getD j default).name = [122] ∧ j + 1 = fs.length)
theorem incK_name (fs : List Fd) (a j : Nat) : ((incK fs a).getD j default).name = (fs.getD j default).name := by
  unfold incK
  rw [List.getD_eq_getElem?_getD, List.getD_eq_getElem?_getD, List.getElem?_set]
  split
  · rename_i h; subst h
    split
    · rename_i h; simp [h]
    · rename_i h; simp [Nat.le_of_not_lt h]
  · rfl
theorem incK_kids_le {fs : List Fd} {a : Nat} {m : Int} (h : ∀ j, (fs.getD j default).kids ≤ m) (j : Nat) : ((incK fs a).getD j default).kids ≤ m + 1 := by
  unfold incK
  rw [List.getD_eq_getElem?_getD, List.getElem?_set]
  have hj := h j
  rw [List.getD_eq_getElem?_getD] at hj
  split
  · rename_i e; subst e
    split
    · have := h a; simp; omega
    · rename_i hh; simp [Nat.le_of_not_lt hh] at hj ⊢; omega
  · omega
theorem getD_app_lt {α : Type} {l : List α} {x d : α} {j : Nat} (h : j < l.length) : (l ++ [x]).getD j d = l.getD j d := by
  simp [List.getD_eq_getElem?_getD, List.getElem?_append_left h]
theorem getD_app_eq {α : Type} {l : List α} {x d : α} : (l ++ [x]).getD l.length d = x := by
  simp [List.getD_eq_getElem?_getD]
/-- What holds while it is made. -/
structure MkI (i : Nat) (fs : List Fd) (op : List Int) : Prop where
  len : fs.length = i + 1
  root : (fs.getD 0 default).name = [109]
  nm : ∀ j, 1 ≤ j → j < fs.length → (fs.getD j default).name = nmM (j - 1)
  kids : ∀ j, (fs.getD j default).kids ≤ i
  rep : ∀ f ∈ fs, 0 ≤ f.rep ∧ f.rep ≤ 2 ∧ 0 ≤ f.kind ∧ f.kind ≤ 4
theorem incK_rep {fs : List Fd} {a : Nat} {f : Fd} (h : ∀ f ∈ fs, 0 ≤ f.rep ∧ f.rep ≤ 2 ∧ 0 ≤ f.kind ∧ f.kind ≤ 4) (hf : f ∈ incK fs a) : 0 ≤ f.rep ∧ f.rep ≤ 2 ∧ 0 ≤ f.kind ∧ f.kind ≤ 4 := by
  rcases List.mem_or_eq_of_mem_set hf with hf | rfl
  · exact h f hf
  · by_cases ha : a < fs.length
    · exact h (fs.getD a default) (by simp [List.getD_eq_getElem?_getD, ha])
    · simp [List.getD_eq_getElem?_getD, Nat.le_of_not_lt ha]
      decide
theorem kindM_range (op : List Int) (x : Int) : 0 ≤ kindM op x ∧ kindM op x ≤ 4 := by
  obtain ⟨h1, h2⟩ := wi_range (a := x) (n := 8) (by decide)
  have h3 : (wi x 8).tmod 5 = wi x 8 % 5 := Int.tmod_eq_emod_of_nonneg h1
  unfold kindM
  split <;> omega
theorem mkI_step {ns : List Int} {i : Nat} {fs : List Fd} {op : List Int} (h : MkI i fs op) (x : Int) : MkI (i + 1) (stepM fs op i x).1 (stepM fs op i x).2 := by
  have hl := h.len
  obtain ⟨w1, w2⟩ := wi_range (a := wr .i64 (x.tdiv 8)) (n := 3) (by decide)
  refine ⟨by simp [stepM, incK_length, hl], ?_, ?_, ?_, ?_⟩
  · simp only [stepM]
    rw [getD_app_lt (by rw [incK_length]; omega), incK_name]; exact h.root
  · intro j h1 h2
    simp only [stepM] at h2 ⊢
    simp [incK_length] at h2
    by_cases hj : j < fs.length
    · rw [getD_app_lt (by rw [incK_length]; exact hj), incK_name]; exact h.nm j h1 hj
    · obtain rfl : j = fs.length := by omega
      rw [← incK_length fs (topM (popM fs (wi (wr .i64 (x.tdiv 64)) 3).toNat op)).toNat, getD_app_eq]
      simp only [fldM, incK_length, hl]; rfl
  · intro j
    simp only [stepM]
    by_cases hj : j < fs.length
    · rw [getD_app_lt (by rw [incK_length]; exact hj)]
      have := incK_kids_le (a := (topM (popM fs (wi (wr .i64 (x.tdiv 64)) 3).toNat op)).toNat) h.kids j
      omega
    · by_cases hj' : j = fs.length
      · subst hj'
        rw [← incK_length fs (topM (popM fs (wi (wr .i64 (x.tdiv 64)) 3).toNat op)).toNat, getD_app_eq]
        simp only [fldM]; omega
      · rw [List.getD_eq_getElem?_getD, List.getElem?_eq_none (by simp [incK_length]; omega)]
        show (0 : Int) ≤ _; omega
  · intro f hf
    simp only [stepM] at hf
    rcases List.mem_append.1 hf with hf | hf
    · exact incK_rep h.rep hf
    · simp only [List.mem_singleton] at hf; subst hf
      have := kindM_range (popM fs (wi (wr .i64 (x.tdiv 64)) 3).toNat op) x
      simp only [fldM]; omega
theorem mkI_run {ns : List Int} : ∀ (n i : Nat) (fs : List Fd) (op : List Int), MkI i fs op → n + i = 12 → ∃ m, m ≤ 12 ∧ MkI m (runM ns n i fs op).1 (runM ns n i fs op).2
  | 0, i, fs, op, h, hn => ⟨i, by omega, h⟩
  | n + 1, i, fs, op, h, hn => by
    rw [runM]
    split
    · exact mkI_run n (i + 1) _ _ (mkI_step (ns := ns) h _) (by omega)
    · exact ⟨i, by omega, h⟩
theorem mkI_end (ns : List Int) : ∃ m, m ≤ 12 ∧ MkI m (runM ns 12 0 fs0 [0]).1 (runM ns 12 0 fs0 [0]).2 := by
  refine mkI_run 12 0 _ _ ⟨rfl, rfl, fun j h1 h2 => ?_, fun j => ?_, ?_⟩ rfl
  · simp at h2; omega
  · match j with
    | 0 => exact Int.le_refl _
    | j + 1 => exact Int.le_refl _
  · intro f hf; simp only [List.mem_singleton] at hf; subst hf; decide
theorem make_nam (ns : List Int) : Nam (makeF ns) := by
  obtain ⟨m, hm, h⟩ := mkI_end ns
  have hl := h.len
  simp only [makeF]
  generalize (runM ns 12 0 fs0 [0]).1 = fs at *
  generalize (runM ns 12 0 fs0 [0]).2 = op at *
  unfold endM
  split
  · refine ⟨by simp, by simp [incK_length]; omega, by rw [getD_app_lt (by rw [incK_length]; omega), incK_name]; exact h.root, fun j h1 h2 => ?_⟩
    simp [incK_length] at h2
    by_cases hj : j < fs.length
    · left
      rw [getD_app_lt (by rw [incK_length]; exact hj), incK_name]; exact ⟨h.nm j h1 hj, by omega⟩
    · right
      obtain rfl : j = fs.length := by omega
      refine ⟨?_, by simp [incK_length]⟩
      rw [← incK_length fs (topM op).toNat, getD_app_eq]
  · exact ⟨by omega, by omega, h.root, fun j h1 h2 => .inl ⟨h.nm j h1 h2, by omega⟩⟩
theorem make_rep (ns : List Int) : ∀ f ∈ makeF ns, 0 ≤ f.rep ∧ f.rep ≤ 2 ∧ 0 ≤ f.kind ∧ f.kind ≤ 4 := by
  obtain ⟨m, hm, h⟩ := mkI_end ns
  simp only [makeF]
  generalize (runM ns 12 0 fs0 [0]).1 = fs at *
  generalize (runM ns 12 0 fs0 [0]).2 = op at *
  unfold endM
  split
  · intro f hf
    rcases List.mem_append.1 hf with hf | hf
    · exact incK_rep h.rep hf
    · simp only [List.mem_singleton] at hf; subst hf; decide
  · exact h.rep
theorem make_kids (ns : List Int) (j : Nat) : ((makeF ns).getD j default).kids ≤ 13 := by
  obtain ⟨m, hm, h⟩ := mkI_end ns
  simp only [makeF]
  generalize (runM ns 12 0 fs0 [0]).1 = fs at *
  generalize (runM ns 12 0 fs0 [0]).2 = op at *
  unfold endM
  split
  · by_cases hj : j < fs.length
    · rw [getD_app_lt (by rw [incK_length]; exact hj)]
      have := incK_kids_le (a := (topM op).toNat) h.kids j
      omega
    · by_cases hj' : j = fs.length
      · subst hj'
        rw [← incK_length fs (topM op).toNat, getD_app_eq]
        decide
      · rw [List.getD_eq_getElem?_getD, List.getElem?_eq_none (by simp [incK_length]; omega)]
        decide
  · have := h.kids j; omega
theorem Nam.len1 {fs : List Fd} (h : Nam fs) (j : Nat) : (fs.getD j default).name.length ≤ 1 := by
  by_cases hj : j < fs.length
  · by_cases h0 : j = 0
    · subst h0; rw [h.root]; decide
    · rcases h.at' j (by omega) hj with ⟨e, _⟩ | ⟨e, _⟩ <;> rw [e] <;> simp [nmM]
  · rw [List.getD_eq_getElem?_getD, List.getElem?_eq_none (by omega)]
    decide
theorem make_ok (ns : List Int) : FsOk (makeF ns) := by
  have h := make_nam ns
  exact ⟨by have := h.le; omega, fun i => by have := make_kids ns i; omega, fun i => by have := h.len1 i; omega⟩
theorem nmM_inj : ∀ i, i < 12 → ∀ k, k < 12 → nmM i = nmM k → i = k := by decide
theorem nmM_z : ∀ i, i < 12 → nmM i ≠ [122] := by decide
theorem Nam.inj {fs : List Fd} (h : Nam fs) {i k : Nat} (h1 : 1 ≤ i) (h2 : i < fs.length) (h3 : 1 ≤ k) (h4 : k < fs.length) (e : (fs.getD i default).name = (fs.getD k default).name) : i = k := by
  rcases h.at' i h1 h2 with ⟨a, a'⟩ | ⟨a, a'⟩ <;> rcases h.at' k h3 h4 with ⟨b, b'⟩ | ⟨b, b'⟩
  · rw [a, b] at e
    have := nmM_inj _ (by omega) _ (by omega) e
    omega
  · rw [a, b] at e; exact absurd e (nmM_z _ (by omega))
  · rw [a, b] at e; exact absurd e.symm (nmM_z _ (by omega))
  · omega
theorem Nam.one {fs : List Fd} (h : Nam fs) {i : Nat} (h1 : 1 ≤ i) (h2 : i < fs.length) : ∃ b, (fs.getD i default).name = [b] := by
  rcases h.at' i h1 h2 with ⟨a, _⟩ | ⟨a, _⟩
  · exact ⟨_, a⟩
  · exact ⟨_, a⟩
theorem upK_app (fs : List Fd) (ps : List Int) : ∀ (n : Nat) (k : Int) (out : List UInt8), ∃ p, upK fs ps n k out = p ++ out
  | 0, k, out => ⟨[], rfl⟩
  | n + 1, k, out => by
    rw [upK]
    split
    · obtain ⟨p, hp⟩ := upK_app fs ps n (ps.getD k.toNat 0) ((fs.getD k.toNat default).name ++ [46] ++ out)
      exact ⟨p ++ (fs.getD k.toNat default).name ++ [46], by rw [hp]; simp⟩
    · exact ⟨[], rfl⟩
theorem path_some {fs : List Fd} {ps : List Int} {i : Nat} (h1 : 1 ≤ i) (h2 : i < fs.length) : ∃ p, pathF fs ps i = p ++ (fs.getD i default).name := by
  rw [pathF, if_neg (by omega)]
  obtain ⟨p, hp⟩ := upK_app fs ps fs.length (ps.getD (i : Int).toNat 0) (fs.getD (i : Int).toNat default).name
  exact ⟨p, hp⟩
theorem path_none {fs : List Fd} {ps : List Int} {i : Int} (h : i ≤ 0 ∨ fs.length ≤ i) : pathF fs ps i = [] := by
  rw [pathF, if_pos h]
theorem paths_apart {fs : List Fd} {ps : List Int} (h : Nam fs) {i k : Nat} (h1 : 1 ≤ i) (h2 : i < fs.length) (h3 : k < i) : pathF fs ps i ≠ pathF fs ps k := by
  obtain ⟨p, hp⟩ := path_some (ps := ps) h1 h2
  obtain ⟨b, hb⟩ := h.one h1 h2
  rw [hp, hb]
  by_cases hk : k = 0
  · subst hk; rw [path_none (.inl (by simp))]; simp
  · obtain ⟨q, hq⟩ := path_some (ps := ps) (fs := fs) (i := k) (by omega) (by omega)
    obtain ⟨c, hc⟩ := h.one (i := k) (by omega) (by omega)
    rw [hq, hc]
    intro e
    have := List.append_inj_right' e rfl
    rw [← hb, ← hc] at this
    have := h.inj h1 h2 (by omega) (by omega) this
    omega
end Go.Proofs.Ytjffmehcbaechaa
