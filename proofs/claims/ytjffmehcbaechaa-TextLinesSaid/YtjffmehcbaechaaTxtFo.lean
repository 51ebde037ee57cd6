/-
  What 'Make' makes: trees, laid out. Plain.
-/
import Derived.Test.YtjffmehcbaechaaTxtPrintP
import Derived.Test.YtjffmehcbaechaaSchMakeP
set_option linter.unusedVariables false
set_option linter.unusedSimpArgs false
namespace Go.Proofs.Ytjffmehcbaechaa
open Go Go.Av
/-- A field as it may be. -/
structure FOk (f : Fd) : Prop where
  rep : 0 ≤ f.rep ∧ f.rep ≤ 2
  kind : 0 ≤ f.kind ∧ f.kind ≤ 4
  name : nameT f.name = true
  sign : ∀ c ∈ f.name, signF c = true
/-- Fields that are so many trees, of a depth. -/
inductive Fo : Nat → Nat → List Fd → Prop
  | nil {d : Nat} : Fo d 0 []
  | leaf {d k : Nat} {f : Fd} {l : List Fd} (hd : d ≤ 8) (hf : FOk f) (hk : f.kind ≠ 0) (h0 : f.kids = 0) (h : Fo d k l) : Fo d (k + 1) (f :: l)
  | group {d k m : Nat} {f : Fd} {l1 l2 : List Fd} (hd : d ≤ 8) (hf : FOk f) (hk : f.kind = 0) (hm : f.kids = (m : Nat)) (hp : 0 < m) (h1 : Fo (d + 1) m l1) (h2 : Fo d k l2) : Fo d (k + 1) (f :: (l1 ++ l2))
theorem Fo.snoc {d k : Nat} {l x : List Fd} (h : Fo d k l) (hx : Fo d 1 x) : Fo d (k + 1) (l ++ x) := by
  induction h with
  | nil => exact hx
  | leaf hd hf hk h0 _ ih => exact .leaf hd hf hk h0 (ih hx)
  | group hd hf hk hm hp h1 _ _ ih =>
    rw [List.cons_append, List.append_assoc]
    exact .group hd hf hk hm hp h1 (ih hx)
/-- Groups that are open, the innermost ahead: each one's fields so far. -/
inductive Sp : List Int → List Fd → Prop
  | root {f : Fd} {l : List Fd} {k : Nat} (hf : FOk f) (hk : f.kind = 0) (hr : f.rep = 0) (hm : f.kids = (k : Nat)) (h : Fo 1 k l) : Sp [0] (f :: l)
  | push {a : Int} {t : List Int} {fs : List Fd} {f : Fd} {l : List Fd} {k : Nat} (h : Sp (a :: t) fs) (hd : t.length + 1 ≤ 8) (hf : FOk f) (hk : f.kind = 0) (hm : f.kids = (k : Nat)) (hl : Fo (t.length + 2) k l) :
      Sp ((fs.length : Int) :: a :: t) (incK fs a.toNat ++ f :: l)
theorem Sp.ne {op : List Int} {fs : List Fd} (h : Sp op fs) : ∃ a t, op = a :: t ∧ fs ≠ [] := by
  cases h with
  | root => exact ⟨_, _, rfl, by simp⟩
  | push => exact ⟨_, _, rfl, by simp⟩
theorem Sp.top {a : Int} {t : List Int} {fs : List Fd} (h : Sp (a :: t) fs) : a.toNat < fs.length ∧ 0 ≤ a ∧ ∃ k : Nat, (fs.getD a.toNat default).kids = (k : Nat) := by
  cases h with
  | root hf hk hr hm h => exact ⟨by simp, by omega, _, hm⟩
  | push h hd hf hk hm hl =>
    rename_i k
    refine ⟨by simp [incK_length], by omega, k, ?_⟩
    rw [Int.toNat_natCast, List.getD_eq_getElem?_getD, List.getElem?_append_right (by rw [incK_length]; exact Nat.le_refl _), incK_length, Nat.sub_self]
    exact hm
theorem inc_at {fs : List Fd} {f : Fd} {l : List Fd} {n : Nat} (h : n = fs.length) : incK (fs ++ f :: l) n = fs ++ { f with kids := f.kids + 1 } :: l := by
  subst h
  unfold incK
  have e : (fs ++ f :: l).getD fs.length default = f := by
    rw [List.getD_eq_getElem?_getD, List.getElem?_append_right (Nat.le_refl _), Nat.sub_self]; rfl
  rw [e]
  simp only [List.set_append, Nat.lt_irrefl, if_false, Nat.sub_self, List.set_cons_zero]
/-- One tree more in the innermost group. -/
theorem Sp.add {a : Int} {t : List Int} {fs x : List Fd} (h : Sp (a :: t) fs) (hx : Fo (t.length + 1) 1 x) : Sp (a :: t) (incK fs a.toNat ++ x) := by
  generalize hop : a :: t = op at h
  cases h with
  | root hf hk hr hm h =>
    cases hop
    rename_i f l k
    have e : incK (f :: l) (0 : Int).toNat = { f with kids := f.kids + 1 } :: l := inc_at (fs := []) rfl
    rw [e]
    exact .root (f := { f with kids := f.kids + 1 }) (k := k + 1) ⟨hf.rep, hf.kind, hf.name, hf.sign⟩ hk hr (by show f.kids + 1 = _; rw [hm]; rfl) (h.snoc hx)
  | push h hd hf hk hm hl =>
    cases hop
    rename_i a' t' fs' f l k
    rw [inc_at (by rw [incK_length, Int.toNat_natCast]), List.append_assoc]
    exact .push (f := { f with kids := f.kids + 1 }) (k := k + 1) h hd ⟨hf.rep, hf.kind, hf.name, hf.sign⟩ hk (by show f.kids + 1 = _; rw [hm]; rfl) (hl.snoc hx)
theorem Sp.pop {b a : Int} {t : List Int} {fs : List Fd} (h : Sp (b :: a :: t) fs) (hk : 0 < (fs.getD b.toNat default).kids) : Sp (a :: t) fs ∧ 0 < (fs.getD a.toNat default).kids := by
  generalize hop : b :: a :: t = op at h
  cases h with
  | root => cases hop
  | push h hd hf hk' hm hl =>
    cases hop
    rename_i fs' f l k
    rw [Int.toNat_natCast, List.getD_eq_getElem?_getD, List.getElem?_append_right (by rw [incK_length]; exact Nat.le_refl _), incK_length, Nat.sub_self] at hk
    have hk : 0 < f.kids := hk
    obtain ⟨h1, h2, k', h3⟩ := h.top
    refine ⟨h.add ?_, ?_⟩
    · have := Fo.group (d := t.length + 1) (k := 0) (m := k) hd hf hk' hm (by omega) hl .nil
      rwa [List.append_nil] at this
    · have e : (incK fs' a.toNat ++ f :: l).getD a.toNat default = { fs'.getD a.toNat default with kids := (fs'.getD a.toNat default).kids + 1 } := by
        rw [List.getD_eq_getElem?_getD, List.getElem?_append_left (by rw [incK_length]; exact h1), incK, List.getElem?_set_self (by exact h1)]; rfl
      rw [e]
      show 0 < (fs'.getD a.toNat default).kids + 1
      omega
theorem Sp.pops {fs : List Fd} : ∀ (k : Nat) (op : List Int), Sp op fs → Sp (popM fs k op) fs ∧ (popM fs k op).length ≤ op.length
  | 0, op, h => ⟨h, Nat.le_refl _⟩
  | k + 1, [], h => ⟨h, Nat.le_refl _⟩
  | k + 1, [a], h => ⟨h, Nat.le_refl _⟩
  | k + 1, a :: b :: t, h => by
    rw [popM]
    split
    · rename_i hk
      obtain ⟨h1, h2⟩ := Sp.pops k (b :: t) (h.pop hk).1
      exact ⟨h1, by simp at h2 ⊢; omega⟩
    · exact ⟨h, Nat.le_refl _⟩
theorem Sp.close : ∀ (op : List Int) (fs : List Fd), Sp op fs → 0 < (fs.getD (topM op).toNat default).kids → ∃ (f : Fd) (l : List Fd) (k : Nat), fs = f :: l ∧ FOk f ∧ f.kind = 0 ∧ f.rep = 0 ∧ f.kids = (k : Nat) ∧ 0 < k ∧ Fo 1 k l
  | [], fs, h, _ => by cases h
  | [a], fs, h, hk => by
    generalize hop : [a] = op at h
    cases h with
    | root hf hkk hr hm h =>
      rename_i f l k
      have hk : 0 < f.kids := by cases hop; exact hk
      exact ⟨_, _, _, rfl, hf, hkk, hr, hm, by omega, h⟩
    | push => cases hop
  | b :: a :: t, fs, h, hk => by
    obtain ⟨h1, h2⟩ := h.pop hk
    exact Sp.close (a :: t) fs h1 h2
theorem nm_ok : ∀ i, i < 12 → nameT (nmM i) = true ∧ ∀ c ∈ nmM i, signF c = true := by decide
theorem fld_ok (op : List Int) {i : Nat} (hi : i < 12) (x : Int) : FOk (fldM op i x) ∧ (fldM op i x).kids = 0 := by
  have h1 := wi_range (a := wr .i64 (x.tdiv 8)) (n := 3) (by omega)
  have h2 := wi_range (a := x) (n := 8) (by omega)
  obtain ⟨h3, h4⟩ := nm_ok i hi
  refine ⟨⟨⟨h1.1, by show wi _ 3 ≤ 2; omega⟩, ?_, h3, h4⟩, rfl⟩
  show 0 ≤ kindM op x ∧ kindM op x ≤ 4
  unfold kindM
  have h5 := Int.tmod_lt_of_pos (wi x 8) (show (0 : Int) < 5 by decide)
  have h6 := Int.tmod_nonneg 5 h2.1
  split <;> omega
theorem kind_deep {op : List Int} {x : Int} (h : kindM op x = 0) : op.length ≤ 4 := by
  unfold kindM at h
  split at h
  · omega
  · rename_i hn
    exact Nat.le_of_not_lt fun hl => hn ⟨hl, h⟩
/-- One field more: the groups that are open stay so. -/
theorem Sp.step {fs : List Fd} {op : List Int} {i : Nat} {x : Int} (h : Sp op fs) (hl : op.length ≤ 5) (hi : i < 12) : Sp (stepM fs op i x).2 (stepM fs op i x).1 ∧ (stepM fs op i x).2.length ≤ 5 := by
  obtain ⟨h1, h2⟩ := Sp.pops (wi (wr .i64 (x.tdiv 64)) 3).toNat op h
  unfold stepM
  simp only
  generalize popM fs (wi (wr .i64 (x.tdiv 64)) 3).toNat op = o at *
  obtain ⟨a, t, rfl, hne⟩ := h1.ne
  obtain ⟨hf, hk0⟩ := fld_ok (a :: t) hi x
  have ht : topM (a :: t) = a := rfl
  rw [ht]
  split
  · rename_i hk
    have h4 := kind_deep (show kindM (a :: t) x = 0 from hk)
    simp at h4 h2
    exact ⟨.push (k := 0) h1 (by omega) hf hk (by rw [hk0]; rfl) .nil, by simp; omega⟩
  · rename_i hk
    simp at h2
    exact ⟨h1.add (.leaf (by omega) hf hk hk0 .nil), by simp; omega⟩
theorem run_sp {ns : List Int} : ∀ (n i : Nat) (fs : List Fd) (op : List Int), Sp op fs → op.length ≤ 5 → Sp (runM ns n i fs op).2 (runM ns n i fs op).1 ∧ (runM ns n i fs op).2.length ≤ 5
  | 0, i, fs, op, h, hl => ⟨h, hl⟩
  | n + 1, i, fs, op, h, hl => by
    rw [runM]
    split
    · rename_i hi
      have hs := Sp.step (x := ns.getD i 0) h hl hi.2
      exact run_sp n (i + 1) _ _ hs.1 hs.2
    · exact ⟨h, hl⟩
/-- What 'Make' makes is one tree. -/
theorem make_fo (ns : List Int) : ∃ (f : Fd) (l : List Fd) (k : Nat), makeF ns = f :: l ∧ FOk f ∧ f.kind = 0 ∧ f.rep = 0 ∧ f.kids = (k : Nat) ∧ 0 < k ∧ Fo 1 k l := by
  have h0 : Sp [0] fs0 := .root (k := 0) ⟨by decide, by decide, by decide, by decide⟩ rfl rfl rfl .nil
  have h := run_sp (ns := ns) 12 0 fs0 [0] h0 (by decide)
  rw [makeF]
  generalize (runM ns 12 0 [⟨[109], 0, 0, 0⟩] [0]) = r at *
  have hl5 : (r.2).length ≤ 5 := h.2
  have h : Sp r.2 r.1 := h.1
  rw [endM]
  obtain ⟨a, t, ho, hne⟩ := h.ne
  rw [ho] at h
  obtain ⟨h1, h2, k, h3⟩ := h.top
  have ht : topM r.2 = a := by rw [ho]; rfl
  rw [ht]
  split
  · rename_i hk
    have hz : FOk ⟨[122], 0, 4, 0⟩ := ⟨by decide, by decide, by decide, by decide⟩
    have hd : t.length + 1 ≤ 8 := by rw [ho] at hl5; simp at hl5; omega
    have ha := h.add (.leaf (f := ⟨[122], 0, 4, 0⟩) hd hz (by decide) rfl .nil)
    refine Sp.close (a :: t) _ ha ?_
    show 0 < ((incK r.1 a.toNat ++ [_]).getD a.toNat default).kids
    rw [List.getD_eq_getElem?_getD, List.getElem?_append_left (by rw [incK_length]; exact h1), incK, List.getElem?_set_self (by exact h1)]
    show 0 < (r.1.getD a.toNat default).kids + 1
    omega
  · rename_i hk
    refine Sp.close (a :: t) _ h ?_
    show 0 < (r.1.getD a.toNat default).kids
    omega
end Go.Proofs.Ytjffmehcbaechaa
