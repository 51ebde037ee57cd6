/-
  What is printed is read as the same: words, and what they say. Plain.
-/
import Derived.Test.YtjffmehcbaechaaTxtFoT
import Derived.Test.YtjffmehcbaechaaTxtRefP
set_option linter.unusedVariables false
set_option linter.unusedSimpArgs false
namespace Go.Proofs.Ytjffmehcbaechaa
open Go Go.Av
/-- A text has these words, whatever lies around it. -/
def Wds (t : List UInt8) (ws : List Wd) : Prop := ∀ rest acc, wgo (t ++ rest) [] acc = wgo rest [] (acc ++ ws)
theorem Wds.nil : Wds [] [] := fun rest acc => by simp
theorem Wds.app {t u : List UInt8} {a b : List Wd} (h : Wds t a) (k : Wds u b) : Wds (t ++ u) (a ++ b) := fun rest acc => by
  rw [List.append_assoc, h, k, List.append_assoc]
theorem wgo_signs : ∀ (w rest cur : List UInt8) (acc : List Wd), (∀ c ∈ w, signF c = true) → wgo (w ++ rest) cur acc = wgo rest (cur ++ w) acc
  | [], rest, cur, acc, _ => by simp
  | c :: w, rest, cur, acc, h => by
    rw [List.cons_append, wgo, if_pos (h c (List.mem_cons_self ..)), wgo_signs w rest _ acc fun x hx => h x (List.mem_cons_of_mem _ hx)]
    simp
theorem Wds.word {w : Wd} (hw : w ≠ []) (hs : ∀ c ∈ w, signF c = true) {c : UInt8} (hc : signF c = false) (hb : blankF c = true) (hm : markF c = false) : Wds (w ++ [c]) [w] := fun rest acc => by
  rw [List.append_assoc, wgo_signs w _ [] acc hs]
  show wgo (c :: rest) ([] ++ w) acc = _
  rw [wgo, if_neg (by rw [hc]; decide), if_neg (by rw [hm]; decide), if_pos hb, List.nil_append, flushW, if_neg hw]
theorem Wds.wordm {w : Wd} (hw : w ≠ []) (hs : ∀ c ∈ w, signF c = true) {c : UInt8} (hc : signF c = false) (hm : markF c = true) : Wds (w ++ [c]) [w, [c]] := fun rest acc => by
  rw [List.append_assoc, wgo_signs w _ [] acc hs]
  show wgo (c :: rest) ([] ++ w) acc = _
  rw [wgo, if_neg (by rw [hc]; decide), if_pos hm, List.nil_append, flushW, if_neg hw, List.append_assoc]; rfl
theorem Wds.mark {c : UInt8} (hc : signF c = false) (hm : markF c = true) : Wds [c] [[c]] := fun rest acc => by
  show wgo (c :: rest) [] acc = _
  rw [wgo, if_neg (by rw [hc]; decide), if_pos hm, flushW, if_pos rfl]
theorem Wds.blank {c : UInt8} (hc : signF c = false) (hm : markF c = false) (hb : blankF c = true) : Wds [c] [] := fun rest acc => by
  show wgo (c :: rest) [] acc = _
  rw [wgo, if_neg (by rw [hc]; decide), if_neg (by rw [hm]; decide), if_pos hb, flushW, if_pos rfl, List.append_nil]
theorem Wds.b32 : Wds [32] [] := .blank rfl rfl rfl
theorem Wds.b10 : Wds [10] [] := .blank rfl rfl rfl
theorem Wds.blanks : ∀ d, Wds (blanksT d) []
  | 0 => .nil
  | d + 1 => by
    rw [blanksT_succ]
    exact Wds.app (Wds.blanks d) (Wds.app .b32 .b32)
theorem Wds.close (d : Nat) : Wds (closeT d) [[125]] := by
  have h := (Wds.blanks d).app ((Wds.mark (c := 125) rfl rfl).app .b10)
  exact h
def frontW (d : Nat) (f : Fd) : List Wd := if d = 0 then [kwMsg] else [kwReps.getD f.rep.toNat [], kwKinds.getD f.kind.toNat []]
theorem kw_sign (f : Fd) (h : FOk f) : (kwReps.getD f.rep.toNat [] ≠ [] ∧ (∀ c ∈ kwReps.getD f.rep.toNat [], signF c = true) ∧ idxW kwReps (kwReps.getD f.rep.toNat []) = f.rep ∧ kwReps.getD f.rep.toNat [] ≠ [125]) ∧
    (kwKinds.getD f.kind.toNat [] ≠ [] ∧ (∀ c ∈ kwKinds.getD f.kind.toNat [], signF c = true) ∧ idxW kwKinds (kwKinds.getD f.kind.toNat []) = f.kind) := by
  obtain ⟨h0, h2⟩ := h.rep
  obtain ⟨h3, h4⟩ := h.kind
  constructor
  · generalize f.rep = r at *
    rcases (show r = 0 ∨ r = 1 ∨ r = 2 by omega) with rfl | rfl | rfl <;> decide
  · generalize f.kind = k at *
    rcases (show k = 0 ∨ k = 1 ∨ k = 2 ∨ k = 3 ∨ k = 4 by omega) with rfl | rfl | rfl | rfl | rfl <;> decide
theorem Wds.front {d : Nat} {f : Fd} (h : FOk f) : Wds (frontT d f) (frontW d f) := by
  unfold frontT frontW
  split
  · exact .word (by decide) (by decide) rfl rfl rfl
  · obtain ⟨⟨a1, a2, _⟩, b1, b2, _⟩ := kw_sign f h
    have h1 := (Wds.blanks d).app ((Wds.word a1 a2 (c := 32) rfl rfl rfl).app (Wds.word b1 b2 (c := 32) rfl rfl rfl))
    have e : blanksT d ++ (kwReps.getD f.rep.toNat [] ++ [32] ++ (kwKinds.getD f.kind.toNat [] ++ [32])) = blanksT d ++ kwReps.getD f.rep.toNat [] ++ [32] ++ kwKinds.getD f.kind.toNat [] ++ [32] := by simp
    rw [e] at h1
    exact h1
theorem name_ne {f : Fd} (h : FOk f) : f.name ≠ [] := fun e => by have := h.name; rw [e] at this; cases this
theorem Wds.leaf {d : Nat} {f : Fd} (h : FOk f) : Wds (leafT d f) (frontW d f ++ [f.name, [59]]) := by
  have h1 := (Wds.front (d := d) h).app ((Wds.wordm (name_ne h) h.sign (c := 59) rfl rfl).app .b10)
  have e : frontT d f ++ (f.name ++ [59] ++ [10]) = leafT d f := by simp [leafT]
  rw [e] at h1
  exact h1
theorem Wds.opn {d : Nat} {f : Fd} (h : FOk f) : Wds (openT d f) (frontW d f ++ [f.name, [123]]) := by
  have h1 := (Wds.front (d := d) h).app ((Wds.word (name_ne h) h.sign (c := 32) rfl rfl rfl).app ((Wds.mark (c := 123) rfl rfl).app .b10))
  have e : frontT d f ++ (f.name ++ [32] ++ ([123] ++ [10])) = openT d f := by simp [openT]
  rw [e] at h1
  exact h1
/-! ### Reading -/
theorem next_cons (w : Wd) (ws : List Wd) (gs : List Fd) : nextW ⟨w :: ws, gs, 0⟩ = w ∧ nextP ⟨w :: ws, gs, 0⟩ = ⟨ws, gs, 0⟩ := ⟨rfl, rfl⟩
theorem must_cons (w : Wd) (ws : List Wd) (gs : List Fd) : mustP w ⟨w :: ws, gs, 0⟩ = ⟨ws, gs, 0⟩ := by
  rw [mustP, (next_cons w ws gs).1, if_pos rfl]; rfl
theorem head_cons {d : Int} {w : Wd} {ws : List Wd} {gs : List Fd} (hn : nameT w = true) (hl : gs.length < 40) (hd : d ≤ 8) : headP d ⟨w :: ws, gs, 0⟩ = ⟨ws, gs, 0⟩ := by
  have h1 : nameT (nextW ⟨w :: ws, gs, 0⟩) = true := hn
  have h2 : ¬ 40 ≤ (nextP (⟨w :: ws, gs, 0⟩ : PS)).fs.length := by show ¬ 40 ≤ gs.length; omega
  have h3 : ¬ 8 < d := by omega
  unfold headP
  simp only [h1, if_true, if_neg h2, if_neg h3]
  rfl
/-- The loop of a group reads so many fields. -/
def Reads (d k : Nat) (l : List Fd) (ws : List Wd) : Prop :=
  ∀ (n f c : Nat) (rest : List Wd) (gs : List Fd), 10 ≤ n + d → k ≤ f → (k = 0 → c ≠ 0) → gs.length + l.length ≤ 40 → rloopP (roneP n (d : Nat)) f c ⟨ws ++ [125] :: rest, gs, 0⟩ = (⟨[125] :: rest, gs ++ l, 0⟩, c + k)
theorem set_last (gs l : List Fd) (f : Fd) (c : Int) : setK gs.length c ⟨[], gs ++ f :: l, 0⟩ = ⟨[], gs ++ { f with kids := c } :: l, 0⟩ := by
  unfold setK setF
  have e : (gs ++ f :: l).getD gs.length default = f := by
    rw [List.getD_eq_getElem?_getD, List.getElem?_append_right (Nat.le_refl _), Nat.sub_self]; rfl
  simp only [e, List.set_append, Nat.lt_irrefl, if_false, Nat.sub_self, List.set_cons_zero]
theorem set_last' (ws : List Wd) (gs l : List Fd) (f : Fd) (c : Int) : setK gs.length c ⟨ws, gs ++ f :: l, 0⟩ = ⟨ws, gs ++ { f with kids := c } :: l, 0⟩ := by
  have h := set_last gs l f c
  unfold setK setF at h ⊢
  simp only [PS.mk.injEq, true_and, and_true] at h ⊢
  exact h
/-- Behind the two words of a field. -/
theorem tail_leaf {g : PS → PS} {d : Int} {nm : Wd} {r k : Int} {rest : List Wd} {gs : List Fd} (hn : nameT nm = true) (hl : gs.length < 40) (hd : d ≤ 8) (hk : k ≠ 0) : rtailP g r k d ⟨nm :: [59] :: rest, gs, 0⟩ = ⟨rest, gs ++ [⟨nm, r, k, 0⟩], 0⟩ := by
  rw [rtailP]
  simp only [head_cons hn hl hd]
  rw [if_neg (fun h => h rfl), if_pos hk]
  exact must_cons [59] rest _
theorem tail_group {n d m : Nat} {nm : Wd} {r : Int} {rest : List Wd} {gs l : List Fd} {ws : List Wd} (hn : nameT nm = true) (hd : d ≤ 8) (hnd : 10 ≤ n + (d + 1)) (hm : 0 < m) (hmw : m ≤ ws.length) (hl : gs.length + (l.length + 1) ≤ 40) (h : Reads (d + 1) m l ws) :
    rtailP (roneP n ((d : Nat) + 1 : Int)) r 0 (d : Nat) ⟨nm :: [123] :: (ws ++ [125] :: rest), gs, 0⟩ = ⟨rest, gs ++ ⟨nm, r, 0, m⟩ :: l, 0⟩ := by
  rw [rtailP]
  simp only [head_cons hn (show gs.length < 40 by omega) (show ((d : Nat) : Int) ≤ 8 by omega)]
  rw [if_neg (fun h => h rfl), if_neg (fun h => h rfl)]
  have hg : rgroupP (roneP n ((d : Nat) + 1 : Int)) (addP ⟨[123] :: (ws ++ [125] :: rest), gs, 0⟩ ⟨nm, r, 0, 0⟩) = (⟨rest, gs ++ ⟨nm, r, 0, 0⟩ :: l, 0⟩, m) := by
    rw [rgroupP]
    have e : mustP [123] (addP ⟨[123] :: (ws ++ [125] :: rest), gs, 0⟩ ⟨nm, r, 0, 0⟩) = ⟨ws ++ [125] :: rest, gs ++ [⟨nm, r, 0, 0⟩], 0⟩ := must_cons [123] _ _
    rw [e]
    have h1 := h n ((ws ++ [125] :: rest).length + 2) 0 rest (gs ++ [⟨nm, r, 0, 0⟩]) (by omega) (by simp; omega) (fun h => by omega) (by simp; omega)
    rw [show (((d : Nat) : Int) + 1) = ((d + 1 : Nat) : Int) by omega, h1]
    simp only [Nat.zero_add]
    rw [must_cons, List.append_assoc]
    rfl
  rw [show nextW (⟨nm :: [123] :: (ws ++ [125] :: rest), gs, 0⟩ : PS) = nm from rfl, hg]
  exact set_last' rest gs l ⟨nm, r, 0, 0⟩ m
theorem one_read {n : Nat} {d : Int} {f : Fd} (hf : FOk f) (tl : List Wd) (gs : List Fd) : roneP (n + 1) d ⟨kwReps.getD f.rep.toNat [] :: kwKinds.getD f.kind.toNat [] :: tl, gs, 0⟩ = rtailP (roneP n (d + 1)) f.rep f.kind d ⟨tl, gs, 0⟩ := by
  obtain ⟨⟨_, _, a, _⟩, _, _, b⟩ := kw_sign f hf
  have h1 := hf.rep
  have h2 := hf.kind
  rw [roneP]
  have e1 : nextW ⟨kwReps.getD f.rep.toNat [] :: kwKinds.getD f.kind.toNat [] :: tl, gs, 0⟩ = kwReps.getD f.rep.toNat [] := rfl
  have e2 : nextP ⟨kwReps.getD f.rep.toNat [] :: kwKinds.getD f.kind.toNat [] :: tl, gs, 0⟩ = ⟨kwKinds.getD f.kind.toNat [] :: tl, gs, 0⟩ := rfl
  have e3 : nextW ⟨kwKinds.getD f.kind.toNat [] :: tl, gs, 0⟩ = kwKinds.getD f.kind.toNat [] := rfl
  have e4 : nextP ⟨kwKinds.getD f.kind.toNat [] :: tl, gs, 0⟩ = ⟨tl, gs, 0⟩ := rfl
  rw [e1, e2, e3, e4, a, b, if_neg (by omega), if_neg (by omega)]
theorem loop_cons {g : PS → PS} {f c : Nat} {w : Wd} {ws : List Wd} {gs : List Fd} (hw : w ≠ [125]) : rloopP g (f + 1) c ⟨w :: ws, gs, 0⟩ = rloopP g f (c + 1) (g ⟨w :: ws, gs, 0⟩) := by
  rw [rloopP, if_pos ⟨rfl, .inr ⟨List.cons_ne_nil _ _, hw⟩⟩]
theorem rloop_end' {g : PS → PS} {f c : Nat} {σ : PS} (h : ¬ (σ.e = 0 ∧ (c = 0 ∨ (σ.ws ≠ [] ∧ σ.ws.headD [] ≠ [125])))) : rloopP g f c σ = (σ, c) := by
  cases f with
  | zero => rfl
  | succ f => rw [rloopP, if_neg h]
/-- Text, words and reading of trees. -/
theorem fo_all {d k : Nat} {l : List Fd} (h : Fo d k l) (hd1 : 1 ≤ d) : ∃ t ws, t.length ≤ 64 * l.length ∧ (∀ pre post, PrT (pre ++ l ++ post) (9 - d) k pre.length d t (pre.length + l.length)) ∧ Wds t ws ∧ k ≤ ws.length ∧ Reads d k l ws := by
  induction h with
  | nil =>
    refine ⟨[], [], by simp, fun pre post => by rw [List.length_nil]; exact .nil, .nil, Nat.zero_le _, ?_⟩
    intro n f c rest gs _ _ hc _
    rw [List.nil_append, rloop_end' (by rintro ⟨_, h | h⟩; exact hc rfl h; exact h.2 rfl), List.append_nil]
    rfl
  | leaf hd hf hk h0 h ih =>
    rename_i d k f l
    obtain ⟨t, ws, h1, h2, h3, h4, h5⟩ := ih hd1
    have hd0 : d ≠ 0 := by omega
    refine ⟨leafT d f ++ t, frontW d f ++ [f.name, [59]] ++ ws, ?_, fun pre post => ?_, (Wds.leaf hf).app h3, by simp; omega, ?_⟩
    · have := front_len (d := d) hf
      have := nameT_le hf.name
      simp only [leafT, List.length_append, List.length_cons, List.length_nil]
      omega
    · have h3 := h2 (pre ++ [f]) post
      have e : pre ++ [f] ++ l ++ post = pre ++ (f :: l) ++ post := by simp
      rw [e, List.length_append, List.length_singleton] at h3
      have hg := getD_pre (pre := pre) (l := l) (post := post) (f := f)
      have := PrT.leaf (s := pre ++ (f :: l) ++ post) len_pre (by rw [hg]; exact hk) h3
      rw [hg] at this
      rw [List.length_cons, show pre.length + (l.length + 1) = pre.length + 1 + l.length by omega]
      exact this
    · intro n f' c rest gs hnd hf' hc hgl
      obtain ⟨f', rfl⟩ : ∃ q, f' = q + 1 := ⟨f' - 1, by omega⟩
      obtain ⟨n, rfl⟩ : ∃ q, n = q + 1 := ⟨n - 1, by omega⟩
      rw [List.length_cons] at hgl
      have e : frontW d f ++ [f.name, [59]] ++ ws ++ [125] :: rest = kwReps.getD f.rep.toNat [] :: kwKinds.getD f.kind.toNat [] :: f.name :: [59] :: (ws ++ [125] :: rest) := by
        rw [frontW, if_neg hd0]; simp
      rw [e, loop_cons (kw_sign f hf).1.2.2.2, one_read hf, tail_leaf hf.name (by omega) (by omega) hk]
      have h6 := h5 (n + 1) f' (c + 1) rest (gs ++ [⟨f.name, f.rep, f.kind, 0⟩]) hnd (by omega) (fun _ => by omega) (by simp; omega)
      rw [h6]
      have ef : (⟨f.name, f.rep, f.kind, 0⟩ : Fd) = f := by rw [← h0]
      rw [ef, List.append_assoc, show c + 1 + k = c + (k + 1) by omega]
      rfl
  | group hd hf hk hm hp h1 h2 ih1 ih2 =>
    rename_i d k m f l1 l2
    obtain ⟨t1, w1, a1, a2, a3, a4, a5⟩ := ih1 (by omega)
    obtain ⟨t2, w2, b1, b2, b3, b4, b5⟩ := ih2 hd1
    have hd0 : d ≠ 0 := by omega
    refine ⟨openT d f ++ t1 ++ closeT d ++ t2, frontW d f ++ [f.name, [123]] ++ w1 ++ [[125]] ++ w2, ?_, fun pre post => ?_, (((Wds.opn hf).app a3).app (Wds.close d)).app b3, by simp; omega, ?_⟩
    · have := front_len (d := d) hf
      have := nameT_le hf.name
      simp only [openT, closeT, List.length_append, List.length_cons, List.length_nil, blanksT_len]
      omega
    · have h3 := a2 (pre ++ [f]) (l2 ++ post)
      have h4 := b2 (pre ++ (f :: l1)) post
      have e3 : pre ++ [f] ++ l1 ++ (l2 ++ post) = pre ++ (f :: (l1 ++ l2)) ++ post := by simp
      have e4 : pre ++ (f :: l1) ++ l2 ++ post = pre ++ (f :: (l1 ++ l2)) ++ post := by simp
      rw [e3, List.length_append, List.length_singleton] at h3
      rw [e4, List.length_append, List.length_cons] at h4
      have hg := getD_pre (pre := pre) (l := l1 ++ l2) (post := post) (f := f)
      have en : 9 - d = (9 - (d + 1)) + 1 := by omega
      rw [en] at h4 ⊢
      have := PrT.group (s := pre ++ (f :: (l1 ++ l2)) ++ post) (d := d) len_pre (by rw [hg]; exact hk) (by rw [hg]; exact hm) h3 (by rw [show pre.length + 1 + l1.length = pre.length + (l1.length + 1) by omega]; exact h4)
      rw [hg] at this
      rw [List.length_cons, List.length_append, show pre.length + (l1.length + l2.length + 1) = pre.length + (l1.length + 1) + l2.length by omega]
      exact this
    · intro n f' c rest gs hnd hf' hc hgl
      obtain ⟨f', rfl⟩ : ∃ q, f' = q + 1 := ⟨f' - 1, by omega⟩
      obtain ⟨n, rfl⟩ : ∃ q, n = q + 1 := ⟨n - 1, by omega⟩
      rw [List.length_cons, List.length_append] at hgl
      have e : frontW d f ++ [f.name, [123]] ++ w1 ++ [[125]] ++ w2 ++ [125] :: rest = kwReps.getD f.rep.toNat [] :: kwKinds.getD f.kind.toNat [] :: f.name :: [123] :: (w1 ++ [125] :: (w2 ++ [125] :: rest)) := by
        rw [frontW, if_neg hd0]; simp
      rw [e, loop_cons (kw_sign f hf).1.2.2.2, one_read hf, hk, tail_group hf.name hd (by omega) hp a4 (by omega) a5]
      have h6 := b5 (n + 1) f' (c + 1) rest (gs ++ ⟨f.name, f.rep, 0, m⟩ :: l1) hnd (by omega) (fun _ => by omega) (by simp; omega)
      rw [h6]
      have ef : (⟨f.name, f.rep, 0, m⟩ : Fd) = f := by rw [← hm, ← hk]
      rw [ef, show c + 1 + k = c + (k + 1) by omega]
      simp
/-! ### Whole -/
theorem wds_words {t : List UInt8} {ws : List Wd} (h : Wds t ws) : wordsF t = some ws := by
  have := h [] []
  rw [List.append_nil] at this
  rw [wordsF, this, wgo, flushW, if_pos rfl, List.nil_append]
/-- A shape, its text, and that the text is read as the shape. -/
structure Round (s : List Fd) (t : List UInt8) : Prop where
  pr : PrS s t
  words : ∃ ws, Wds t ws ∧ (rtailP (roneP 9 1) 0 0 0 (mustP kwMsg ⟨ws, [], 0⟩)) = ⟨[], s, 0⟩
theorem fd_eta {f : Fd} {k : Nat} (hm : f.kids = (k : Nat)) (hk : f.kind = 0) (hr : f.rep = 0) : (⟨f.name, 0, 0, k⟩ : Fd) = f := by
  cases f
  simp only at hm hk hr
  subst hm; subst hk; subst hr
  rfl
theorem make_round (ns : List Int) : ∃ t, Round (makeF ns) t := by
  obtain ⟨f, l, k, hs, hf, hk, hr, hm, hp, h⟩ := make_fo ns
  have hT : Fo 0 1 (f :: l) := by
    have := Fo.group (d := 0) (k := 0) (by decide) hf hk hm hp h .nil
    rwa [List.append_nil] at this
  obtain ⟨t1, w1, a1, a2, a3, a4, a5⟩ := fo_all h (Nat.le_refl _)
  have hl := make_len ns
  rw [hs] at hl ⊢
  have hat : ∀ i, i < (f :: l).length → (f :: l).getD i default ∈ f :: l := fun i hi => by rw [List.getD_eq_getElem?_getD, List.getElem?_eq_getElem hi]; exact List.getElem_mem _
  have hlf := front_len (d := 0) hf
  have hln := nameT_le hf.name
  refine ⟨openT 0 f ++ t1 ++ closeT 0, ⟨?_, ⟨by omega, fun i hi => (hT.all _ (hat i hi)).rep, fun i hi => (hT.all _ (hat i hi)).kind⟩, ?_⟩, _, ((Wds.opn hf).app a3).app (Wds.close 0), ?_⟩
  · have h3 := a2 [f] []
    simp only [List.append_nil, List.length_singleton, List.singleton_append] at h3
    have := PrT.group (s := f :: l) (d := 0) (i := 0) (n := 8) (k := 0) (by simp) hk hm h3 (.nil)
    rw [List.append_nil] at this
    rw [List.length_cons, Nat.add_comm]
    exact this
  · simp only [openT, closeT, List.length_append, List.length_cons, List.length_nil, blanksT_len]
    omega
  · have e : frontW 0 f ++ [f.name, [123]] ++ w1 ++ [[125]] = kwMsg :: f.name :: [123] :: (w1 ++ [125] :: []) := by simp [frontW]
    rw [e, must_cons]
    have h6 := tail_group (n := 9) (d := 0) (r := 0) (rest := []) (gs := []) hf.name (by decide) (by decide) hp a4 (by simp at hl ⊢; omega) a5
    rw [fd_eta hm hk hr] at h6
    exact h6
theorem Round.text {s : List Fd} {t u : List UInt8} (h : Round s t) (hu : wordsF u = wordsF t) (hl : u.length ≤ 4000) (hc : checkF s = 0) : parseF u = (s, 0) := by
  obtain ⟨ws, hw, hr⟩ := h.words
  rw [← parse_same, rparseF, if_neg (by omega), hu, wds_words hw]
  simp only
  rw [hr]
  rw [if_neg (show ¬ ((0 : Int) = 0 ∧ ([] : List Wd) ≠ []) from fun h => h.2 rfl)]
  simp only [if_true, hc]
  rfl
end Go.Proofs.Ytjffmehcbaechaa
