/-
  What 'Make' makes may be: nothing is wrong with it. Plain.
-/
import Derived.Test.YtjffmehcbaechaaTxtFoT
import Derived.Test.YtjffmehcbaechaaSchCheckP
set_option linter.unusedVariables false
set_option linter.unusedSimpArgs false
namespace Go.Proofs.Ytjffmehcbaechaa
open Go Go.Av
theorem popZ_pos {a c : Int} {t : Stk} (h : 0 < c) : popZ ((a, c) :: t) = (a, c) :: t := by rw [popZ, if_neg (by omega)]
theorem popZ_neg {a c : Int} {t : Stk} (h : c ≤ 0) : popZ ((a, c) :: t) = popZ t := by rw [popZ, if_pos h]
theorem popZ_nil : ∀ {st : Stk}, popZ st = [] → openS st = false
  | [], _ => rfl
  | (a, c) :: t, h => by
    by_cases hc : 0 < c
    · rw [popZ_pos hc] at h; cases h
    · rw [popZ_neg (by omega)] at h
      have := popZ_nil h
      rw [openS] at this ⊢
      rw [List.any_cons, this, decide_eq_false hc]; rfl
theorem fo_wrun {d k : Nat} {l : List Fd} (h : Fo d k l) : ∀ (i : Nat) (a c : Int) (st' st : Stk) (rest : List Fd), (k : Int) ≤ c → 0 ≤ a → d = st'.length + 1 → popZ st = popZ ((a, c) :: st') →
    ∃ rows st2, wrun (l ++ rest) i st = rows ++ wrun rest (i + l.length) st2 ∧ (∀ p ∈ rows, (0 : Int) ≤ p.1 ∧ p.2 ≤ 8) ∧ wfin (l ++ rest) i st = wfin rest (i + l.length) st2 ∧ popZ st2 = popZ ((a, c - k) :: st') := by
  induction h with
  | nil =>
    intro i a c st' st rest hc ha hd hp
    exact ⟨[], st, rfl, fun p hp => (nomatch hp), rfl, by rw [hp]; simp⟩
  | leaf hd hf hk h0 h ih =>
    rename_i d k f l
    intro i a c st' st rest hc ha hdl hp
    have hc0 : 0 < c := by omega
    rw [popZ_pos hc0] at hp
    obtain ⟨rows, st2, h1, h2, h3, h4⟩ := ih (i + 1) a (c - 1) st' ((a, c - 1) :: st') rest (by omega) ha hdl rfl
    refine ⟨(a, (st'.length : Int) + 1) :: rows, st2, ?_, ?_, ?_, ?_⟩
    · rw [List.cons_append, wrun, hp, pushS, if_neg hk]
      show (a, (((a, c) :: st').length : Int)) :: wrun (l ++ rest) (i + 1) ((a, c - 1) :: st') = _
      rw [h1, List.length_cons, List.length_cons, show i + 1 + l.length = i + (l.length + 1) by omega]
      simp
    · intro p hp
      rcases List.mem_cons.1 hp with rfl | hp
      · exact ⟨ha, by simp only; omega⟩
      · exact h2 p hp
    · rw [List.cons_append, wfin, hp, pushS, if_neg hk]
      show wfin (l ++ rest) (i + 1) ((a, c - 1) :: st') = _
      rw [h3, List.length_cons, show i + 1 + l.length = i + (l.length + 1) by omega]
    · rw [h4, show c - 1 - (k : Int) = c - ((k + 1 : Nat) : Int) by omega]
  | group hd hf hk hm hpos h1 h2 ih1 ih2 =>
    rename_i d k m f l1 l2
    intro i a c st' st rest hc ha hdl hp
    have hc0 : 0 < c := by omega
    rw [popZ_pos hc0] at hp
    obtain ⟨r1, s1, a1, a2, a3, a4⟩ := ih1 (i + 1) i m ((a, c - 1) :: st') (((i : Int), (m : Int)) :: (a, c - 1) :: st') (l2 ++ rest) (Int.le_refl _) (by omega) (by simp; omega) rfl
    rw [popZ_neg (by omega)] at a4
    obtain ⟨r2, s2, b1, b2, b3, b4⟩ := ih2 (i + 1 + l1.length) a (c - 1) st' s1 rest (by omega) ha hdl a4
    refine ⟨(a, (st'.length : Int) + 1) :: (r1 ++ r2), s2, ?_, ?_, ?_, ?_⟩
    · rw [List.cons_append, wrun, hp, pushS, if_pos hk, hm]
      show (a, (((a, c) :: st').length : Int)) :: wrun (l1 ++ l2 ++ rest) (i + 1) (((i : Int), (m : Int)) :: (a, c - 1) :: st') = _
      rw [List.append_assoc, a1, b1, List.length_cons, List.length_cons, List.length_append, show i + 1 + l1.length + l2.length = i + (l1.length + l2.length + 1) by omega]
      simp
    · intro p hp
      rcases List.mem_cons.1 hp with rfl | hp
      · exact ⟨ha, by simp only; omega⟩
      · rcases List.mem_append.1 hp with hp | hp
        · exact a2 p hp
        · exact b2 p hp
    · rw [List.cons_append, wfin, hp, pushS, if_pos hk, hm]
      show wfin (l1 ++ l2 ++ rest) (i + 1) (((i : Int), (m : Int)) :: (a, c - 1) :: st') = _
      rw [List.append_assoc, a3, b3, List.length_cons, List.length_append, show i + 1 + l1.length + l2.length = i + (l1.length + l2.length + 1) by omega]
    · rw [b4, show c - 1 - (k : Int) = c - ((k + 1 : Nat) : Int) by omega]
/-! ### Names -/
theorem incK_names (fs : List Fd) (a : Nat) : (incK fs a).map (·.name) = fs.map (·.name) := by
  unfold incK
  apply List.ext_getElem?
  intro i
  simp only [List.getElem?_map, List.getElem?_set]
  by_cases h : a = i
  · subst h
    by_cases hl : a < fs.length
    · simp [hl]
    · simp [hl]
  · simp [h]
def nmAt (j : Nat) : List UInt8 := if j = 0 then [109] else nmM (j - 1)
theorem run_names {ns : List Int} : ∀ (n i : Nat) (fs : List Fd) (op : List Int), fs.map (·.name) = (List.range (i + 1)).map nmAt → i ≤ 12 → ∃ m, m ≤ 13 ∧ (runM ns n i fs op).1.map (·.name) = (List.range m).map nmAt
  | 0, i, fs, op, h, hi => ⟨i + 1, by omega, h⟩
  | n + 1, i, fs, op, h, hi => by
    rw [runM]
    split
    · rename_i hc
      refine run_names n (i + 1) _ _ ?_ (by omega)
      show (stepM fs op i (ns.getD i 0)).1.map (·.name) = _
      unfold stepM
      simp only [List.map_append, incK_names, h]
      rw [List.range_succ (n := i + 1), List.map_append]
      rfl
    · exact ⟨i + 1, by omega, h⟩
theorem make_names (ns : List Int) : ∃ m, m ≤ 13 ∧ ((makeF ns).map (·.name) = (List.range m).map nmAt ∨ (makeF ns).map (·.name) = (List.range m).map nmAt ++ [[122]]) := by
  obtain ⟨m, hm, h⟩ := run_names (ns := ns) 12 0 [⟨[109], 0, 0, 0⟩] [0] rfl (by decide)
  refine ⟨m, hm, ?_⟩
  rw [makeF]
  generalize (runM ns 12 0 [⟨[109], 0, 0, 0⟩] [0]) = r at *
  show (endM r.1 r.2).map _ = _ ∨ (endM r.1 r.2).map _ = _
  unfold endM
  split
  · right
    rw [List.map_append, incK_names, h]; rfl
  · left; exact h
theorem nm_nodup : ∀ m, m ≤ 13 → ((List.range m).map nmAt).Nodup ∧ ((List.range m).map nmAt ++ [[122]]).Nodup := by decide
theorem names_apart {fs : List Fd} (h : (fs.map (·.name)).Nodup) {i k : Nat} (hi : i < fs.length) (hk : k < i) : (fs.getD k default).name ≠ (fs.getD i default).name := by
  intro e
  have hkl : k < fs.length := by omega
  have := List.pairwise_iff_getElem.1 h k i (by rw [List.length_map]; exact hkl) (by rw [List.length_map]; exact hi) hk
  apply this
  simp only [List.getElem_map]
  simp only [List.getD_eq_getElem?_getD, List.getElem?_eq_getElem hkl, List.getElem?_eq_getElem hi, Option.getD_some] at e
  exact e
theorem eqb_eq' (s t : List UInt8) : eqb s t = decide (s = t) := by
  letI : Syms := ⟨fun _ => .bool true, fun _ => ⟨rfl, rfl⟩⟩
  exact eqb_eq s t
theorem chkFrom_nil {fs : List Fd} : ∀ n i, (∀ j, i ≤ j → j < i + n → chkAt fs (parentsF fs) j ((depthsF fs).getD j 0) = 0) → chkFrom fs i n = 0
  | 0, _, _ => rfl
  | n + 1, i, h => by
    have h0 := h i (Nat.le_refl _) (by omega)
    rw [chkFrom, if_neg (fun x => x h0)]
    exact chkFrom_nil n (i + 1) fun j h1 h2 => h j (by omega) (by omega)
theorem fok_name {f : Fd} (h : FOk f) : nameF f.name = true := by
  have hne : f.name ≠ [] := fun e => by have := h.name; rw [e] at this; cases this
  rw [← nameT_eq ⟨hne, .inl h.sign⟩]
  exact h.name
theorem Fo.kids {d k : Nat} {l : List Fd} (h : Fo d k l) : ∀ f ∈ l, (f.kind = 0 → 1 ≤ f.kids) ∧ (f.kind ≠ 0 → f.kids = 0) := by
  induction h with
  | nil => intro f hf; cases hf
  | leaf hd hf hk h0 h ih =>
    intro g hg
    rcases List.mem_cons.1 hg with rfl | hg
    · exact ⟨fun h => absurd h hk, fun _ => h0⟩
    · exact ih g hg
  | group hd hf hk hm hp h1 h2 ih1 ih2 =>
    intro g hg
    rcases List.mem_cons.1 hg with rfl | hg
    · exact ⟨fun _ => by omega, fun h => absurd hk h⟩
    · rcases List.mem_append.1 hg with hg | hg
      · exact ih1 g hg
      · exact ih2 g hg
theorem make_check (ns : List Int) : checkF (makeF ns) = 0 := by
  obtain ⟨f, l, k, hs, hf, hk, hr, hm, hp, h⟩ := make_fo ns
  have hl := make_len ns
  obtain ⟨m, hm13, hnm⟩ := make_names ns
  have hnd : ((makeF ns).map (·.name)).Nodup := by
    obtain ⟨h1, h2⟩ := nm_nodup m hm13
    rcases hnm with e | e
    · rw [e]; exact h1
    · rw [e]; exact h2
  clear hnm
  have hT : Fo 0 1 (f :: l) := by
    have := Fo.group (d := 0) (k := 0) (by decide) hf hk hm hp h .nil
    rwa [List.append_nil] at this
  rw [hs] at hl hnd ⊢
  obtain ⟨rows, st2, h1, h2, h3, h4⟩ := fo_wrun h 1 0 k [] [(0, (k : Int))] [] (Int.le_refl _) (Int.le_refl _) rfl rfl
  rw [List.append_nil] at h1 h3
  rw [popZ_neg (by omega)] at h4
  have hw : wrun (f :: l) 0 [] = (-1, 0) :: rows := by
    rw [wrun]
    show (-1, 0) :: wrun l 1 (pushS 0 f []) = _
    rw [pushS, if_pos hk, hm]
    show (-1, 0) :: wrun l 1 [(0, (k : Int))] = _
    rw [h1]; simp [wrun]
  have hfin : wfin (f :: l) 0 [] = st2 := by
    rw [wfin]
    show wfin l 1 (pushS 0 f []) = _
    rw [pushS, if_pos hk, hm]
    show wfin l 1 [(0, (k : Int))] = _
    rw [h3]; rfl
  have hrl : rows.length = l.length := by
    have := wrun_length (f :: l) 0 []
    rw [hw] at this
    simpa using this
  have hat : ∀ i, i < (f :: l).length → (f :: l).getD i default ∈ f :: l := fun i hi => by rw [List.getD_eq_getElem?_getD, List.getElem?_eq_getElem hi]; exact List.getElem_mem _
  unfold checkF
  rw [if_neg (by simp at hl ⊢; omega)]
  have hz : chkFrom (f :: l) 0 (f :: l).length = 0 := by
    refine chkFrom_nil _ _ fun j _ hj => ?_
    rw [Nat.zero_add] at hj
    have hfo := hT.all _ (hat j hj)
    have hkd := hT.kids _ (hat j hj)
    have htw : twinF (f :: l) (parentsF (f :: l)) j = false := by
      unfold twinF
      rw [List.any_eq_false]
      intro q hq
      have hq := List.mem_range.1 hq
      have hne := names_apart hnd hj hq
      unfold twinAt
      rw [eqb_eq', decide_eq_false hne]
      simp
    have hpd : (0 < j → 0 ≤ (parentsF (f :: l)).getD j 0) ∧ (depthsF (f :: l)).getD j 0 ≤ 8 := by
      rw [parentsF, depthsF, hw]
      cases j with
      | zero => exact ⟨fun h => absurd h (by decide), show (0 : Int) ≤ 8 by decide⟩
      | succ j =>
        have hjr : j < rows.length := by rw [hrl]; simpa using hj
        have hmem : rows[j] ∈ rows := List.getElem_mem _
        have := h2 _ hmem
        simp only [List.map_cons, List.getD_cons_succ]
        simp only [List.getD_eq_getElem?_getD, List.getElem?_map, List.getElem?_eq_getElem hjr, Option.map_some, Option.getD_some]
        exact ⟨fun _ => this.1, this.2⟩
    have h0 : j = 0 → ((f :: l).getD j default).rep = 0 ∧ ((f :: l).getD j default).kind = 0 := fun e => by subst e; exact ⟨hr, hk⟩
    unfold chkAt
    rw [htw, fok_name hfo]
    have hR := hfo.rep
    have hK := hfo.kind
    generalize (f :: l).getD j default = F at *
    unfold chk1
    rw [if_neg (by omega), if_neg (by omega), if_neg (by simp), if_neg (by omega), if_neg (by omega), if_neg (by omega)]
  rw [hz, if_neg (fun h => h rfl), hfin, popZ_nil h4]
  rfl
end Go.Proofs.Ytjffmehcbaechaa
