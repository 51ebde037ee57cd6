/-
  What holds of the parser all the way. Plain.
-/
import Derived.Test.YtjffmehcbaechaaTxtP
set_option linter.unusedVariables false
set_option linter.unusedSimpArgs false
namespace Go.Proofs.Ytjffmehcbaechaa
open Go Go.Av
structure PInv (σ : PS) : Prop where
  len : σ.ws.length ≤ 5000
  wlen : ∀ w ∈ σ.ws, w.length ≤ 5000
  fl : σ.fs.length ≤ 40
  kids : ∀ f ∈ σ.fs, 0 ≤ f.kids ∧ f.kids + σ.ws.length ≤ 5000
  names : ∀ f ∈ σ.fs, f.name.length ≤ 12
/-- One state lies ahead of another one. -/
structure PLe (σ τ : PS) : Prop where
  inv : PInv σ → PInv τ
  len : τ.ws.length ≤ σ.ws.length
  fl : σ.fs.length ≤ τ.fs.length
  e : τ.e = 0 → σ.e = 0
  keep : ∀ j, j < σ.fs.length → τ.fs.getD j default = σ.fs.getD j default
theorem PLe.refl (σ : PS) : PLe σ σ := ⟨id, Nat.le_refl _, Nat.le_refl _, id, fun _ _ => rfl⟩
theorem PLe.trans {a b c : PS} (h : PLe a b) (k : PLe b c) : PLe a c := ⟨fun x => k.inv (h.inv x), Nat.le_trans k.len h.len, Nat.le_trans h.fl k.fl, fun x => h.e (k.e x), fun j hj => (k.keep j (Nat.lt_of_lt_of_le hj h.fl)).trans (h.keep j hj)⟩
theorem failP_ws (σ : PS) (x : Int) : (failP σ x).ws = σ.ws := by unfold failP; split <;> rfl
theorem failP_fs (σ : PS) (x : Int) : (failP σ x).fs = σ.fs := by unfold failP; split <;> rfl
theorem failP_e {σ : PS} {x : Int} (hx : x ≠ 0) : (failP σ x).e ≠ 0 := by
  unfold failP
  split
  · exact hx
  · assumption
theorem PInv.same {σ τ : PS} (h : PInv σ) (h1 : τ.ws = σ.ws) (h2 : τ.fs = σ.fs) : PInv τ := ⟨by rw [h1]; exact h.len, by rw [h1]; exact h.wlen, by rw [h2]; exact h.fl, by rw [h1, h2]; exact h.kids, by rw [h2]; exact h.names⟩
theorem failP_le {σ : PS} {x : Int} (hx : x ≠ 0) : PLe σ (failP σ x) := ⟨fun h => h.same (failP_ws σ x) (failP_fs σ x), by rw [failP_ws]; exact Nat.le_refl _, by rw [failP_fs]; exact Nat.le_refl _, fun h => absurd h (failP_e hx), fun j _ => by rw [failP_fs]⟩
theorem nextP_e (σ : PS) : (nextP σ).e = σ.e := by unfold nextP; split <;> rfl
theorem nextP_fs (σ : PS) : (nextP σ).fs = σ.fs := by unfold nextP; split <;> rfl
theorem nextP_le (σ : PS) : PLe σ (nextP σ) := by
  unfold nextP
  split
  · exact .refl σ
  · refine ⟨fun h => ⟨?_, ?_, h.fl, fun f hf => ?_, h.names⟩, by simp, Nat.le_refl _, id, fun _ _ => rfl⟩
    · have := h.len; simp; omega
    · exact fun w hw => h.wlen w (List.mem_of_mem_tail hw)
    · have := h.kids f hf; simp; omega
theorem nextP_dec {σ : PS} (h : nextW σ ≠ []) : (nextP σ).ws.length < σ.ws.length := by
  unfold nextW at h
  unfold nextP
  split at h
  · exact absurd rfl h
  · rename_i he
    rw [if_neg he]
    cases hw : σ.ws with
    | nil => rw [hw] at h; exact absurd rfl h
    | cons w t => simp
theorem nextW_mem {σ : PS} (h : PInv σ) : (nextW σ).length ≤ 5000 := by
  unfold nextW
  split
  · simp
  · cases hw : σ.ws with
    | nil => simp
    | cons w t => exact h.wlen w (by rw [hw]; exact List.mem_cons_self ..)
theorem mustP_le (w : Wd) (σ : PS) : PLe σ (mustP w σ) := by
  unfold mustP
  split
  · exact nextP_le σ
  · exact (nextP_le σ).trans (failP_le (by decide))
theorem pickP_le (l : List Wd) (σ : PS) : PLe σ (pickP l σ) := by
  unfold pickP
  split
  · exact (nextP_le σ).trans (failP_le (by decide))
  · exact nextP_le σ
theorem pickP_dec {l : List Wd} {σ : PS} (hl : idxW l [] < 0) (h : (pickP l σ).e = 0) : (pickP l σ).ws.length < σ.ws.length ∧ 0 ≤ idxW l (nextW σ) := by
  unfold pickP at h ⊢
  split at h
  · exact absurd h (failP_e (by decide))
  · rename_i hi
    rw [if_neg hi]
    refine ⟨nextP_dec fun e => hi (by rw [e]; exact hl), by omega⟩
theorem headP_le (depth : Int) (σ : PS) : PLe σ (headP depth σ) := by
  unfold headP
  simp only
  have h1 : PLe σ (if nameT (nextW σ) = true then nextP σ else failP (nextP σ) 6) := by
    split
    · exact nextP_le σ
    · exact (nextP_le σ).trans (failP_le (by decide))
  generalize (if nameT (nextW σ) = true then nextP σ else failP (nextP σ) 6) = a at *
  have h2 : PLe σ (if 40 ≤ a.fs.length then failP a 4 else a) := by
    split
    · exact h1.trans (failP_le (by decide))
    · exact h1
  generalize (if 40 ≤ a.fs.length then failP a 4 else a) = b at *
  split
  · exact h2.trans (failP_le (by decide))
  · exact h2
theorem headP_ok {depth : Int} {σ : PS} (h : (headP depth σ).e = 0) : nameT (nextW σ) = true ∧ σ.fs.length < 40 ∧ depth ≤ 8 ∧ headP depth σ = nextP σ ∧ σ.e = 0 := by
  have he := (headP_le depth σ).e h
  unfold headP at h ⊢
  simp only at h ⊢
  by_cases h1 : nameT (nextW σ) = true
  · rw [if_pos h1] at h ⊢
    by_cases h2 : 40 ≤ (nextP σ).fs.length
    · rw [if_pos h2] at h
      by_cases h3 : 8 < depth
      · rw [if_pos h3] at h; exact absurd h (failP_e (by decide))
      · rw [if_neg h3] at h; exact absurd h (failP_e (by decide))
    · rw [if_neg h2] at h ⊢
      by_cases h3 : 8 < depth
      · rw [if_pos h3] at h; exact absurd h (failP_e (by decide))
      · rw [if_neg h3] at h ⊢
        rw [nextP_fs] at h2
        exact ⟨h1, by omega, by omega, rfl, he⟩
  · rw [if_neg h1] at h
    have hf : ∀ x : PS, x.e ≠ 0 → (if 8 < depth then failP (if 40 ≤ x.fs.length then failP x 4 else x) 11 else if 40 ≤ x.fs.length then failP x 4 else x).e ≠ 0 := by
      intro x hx
      split
      · exact failP_e (by decide)
      · split
        · exact failP_e (by decide)
        · exact hx
    exact absurd h (hf _ (failP_e (by decide)))
def addP (σ : PS) (f : Fd) : PS := { σ with fs := σ.fs ++ [f] }
def incP (σ : PS) (a : Nat) : PS := { σ with fs := σ.fs.set a { σ.fs.getD a default with kids := (σ.fs.getD a default).kids + 1 } }
theorem addP_le {σ : PS} {f : Fd} (h : σ.fs.length < 40) (hk : f.kids = 0) (hn : f.name.length ≤ 12) : PLe σ (addP σ f) := by
  refine ⟨fun i => ⟨i.len, i.wlen, by simp [addP]; omega, fun g hg => ?_, fun g hg => ?_⟩, Nat.le_refl _, by simp [addP], id, fun j hj => ?_⟩
  rotate_left 2
  · simp [addP, List.getD_eq_getElem?_getD, List.getElem?_append_left hj]
  · rcases List.mem_append.1 hg with hg | hg
    · exact i.kids g hg
    · simp at hg; subst hg; rw [hk]; have := i.len; show _ ∧ 0 + (σ.ws.length : Int) ≤ 5000; omega
  · rcases List.mem_append.1 hg with hg | hg
    · exact i.names g hg
    · simp at hg; subst hg; exact hn
theorem incP_inv {σ : PS} {a : Nat} (h : PInv σ) (ha : a < σ.fs.length) (hd : (σ.fs.getD a default).kids + σ.ws.length + 1 ≤ 5000) : PInv (incP σ a) := by
  have hm : σ.fs.getD a default ∈ σ.fs := by rw [List.getD_eq_getElem?_getD, List.getElem?_eq_getElem ha]; exact List.getElem_mem ha
  refine ⟨h.len, h.wlen, by simp [incP]; exact h.fl, fun g hg => ?_, fun g hg => ?_⟩
  · rcases List.mem_or_eq_of_mem_set hg with hg | rfl
    · exact h.kids g hg
    · have h1 := h.kids _ hm
      show 0 ≤ (σ.fs.getD a default).kids + 1 ∧ (σ.fs.getD a default).kids + 1 + (σ.ws.length : Int) ≤ 5000
      omega
  · rcases List.mem_or_eq_of_mem_set hg with hg | rfl
    · exact h.names g hg
    · show (σ.fs.getD a default).name.length ≤ 12
      exact h.names _ hm
theorem incP_at (σ : PS) {a j : Nat} (h : j ≠ a) : (incP σ a).fs.getD j default = σ.fs.getD j default := by
  have h' : ¬ a = j := fun e => h e.symm
  simp only [incP, List.getD_eq_getElem?_getD, List.getElem?_set, if_neg h']
theorem kwReps_nil : idxW kwReps [] < 0 := by decide
theorem kwKinds_nil : idxW kwKinds [] < 0 := by decide
theorem nameT_len {w : Wd} (h : nameT w = true) : w.length ≤ 12 := by
  cases w with
  | nil => simp
  | cons c t =>
    simp only [nameT, Bool.and_eq_true, decide_eq_true_eq] at h
    exact h.2
/-- What holds of a group's fields. -/
structure MLe (a : Nat) (σ τ : PS) : Prop where
  inv : PInv σ → PInv τ
  len : τ.ws.length ≤ σ.ws.length
  fl : σ.fs.length ≤ τ.fs.length
  e : τ.e = 0 → σ.e = 0
  keep : ∀ j, j < a → τ.fs.getD j default = σ.fs.getD j default
/-- One field of a group. -/
structure OneI (a : Nat) (σ σ3 : PS) : Prop where
  dec : σ3.ws.length < σ.ws.length
  inv : PInv σ → PInv (incP σ3 a)
theorem one_inv {a : Nat} {g : Int → Int → PS → PS} (hg : ∀ r k σ, PLe σ (g r k σ)) {σ : PS} (ha : a < σ.fs.length) (he : (g (pickV kwReps σ) (pickV kwKinds (pickP kwReps σ)) (pickP kwKinds (pickP kwReps σ))).e = 0) :
    OneI a σ (g (pickV kwReps σ) (pickV kwKinds (pickP kwReps σ)) (pickP kwKinds (pickP kwReps σ))) := by
  have h1 := pickP_le kwReps σ
  have h2 := pickP_le kwKinds (pickP kwReps σ)
  have h3 := hg (pickV kwReps σ) (pickV kwKinds (pickP kwReps σ)) (pickP kwKinds (pickP kwReps σ))
  have hd := (pickP_dec kwReps_nil (h2.e (h3.e he))).1
  have hle := (h1.trans h2).trans h3
  have hdec := Nat.lt_of_le_of_lt (h2.trans h3).len hd
  have hm : σ.fs.getD a default ∈ σ.fs := by rw [List.getD_eq_getElem?_getD, List.getElem?_eq_getElem ha]; exact List.getElem_mem ha
  refine ⟨hdec, fun h => incP_inv (hle.inv h) (Nat.lt_of_lt_of_le ha hle.fl) ?_⟩
  have hk := h.kids _ hm
  rw [hle.keep a ha]
  omega
theorem moreP_le {a : Nat} {g : Int → Int → PS → PS} (hg : ∀ r k σ, PLe σ (g r k σ)) : ∀ (m : Nat) (σ : PS), a < σ.fs.length → MLe a σ (moreP g a m σ)
  | 0, σ, _ => ⟨id, Nat.le_refl _, Nat.le_refl _, id, fun _ _ => rfl⟩
  | m + 1, σ, ha => by
    rw [moreP]
    simp only
    have h1 := pickP_le kwReps σ
    have h2 := pickP_le kwKinds (pickP kwReps σ)
    have h3 := hg (pickV kwReps σ) (pickV kwKinds (pickP kwReps σ)) (pickP kwKinds (pickP kwReps σ))
    have hle := (h1.trans h2).trans h3
    have ho := one_inv hg ha
    generalize g (pickV kwReps σ) (pickV kwKinds (pickP kwReps σ)) (pickP kwKinds (pickP kwReps σ)) = σ3 at *
    by_cases he : σ3.e = 0
    · rw [if_neg (fun hn => hn he)]
      obtain ⟨o1, o2⟩ := ho he
      have hie : (incP σ3 a).e = 0 → σ.e = 0 := fun _ => hle.e he
      have hik : ∀ j, j < a → (incP σ3 a).fs.getD j default = σ.fs.getD j default := fun j hj => (incP_at σ3 (by omega)).trans (hle.keep j (by omega))
      have hil : (incP σ3 a).fs.length = σ3.fs.length := by simp [incP]
      have hif : σ.fs.length ≤ (incP σ3 a).fs.length := by rw [hil]; exact hle.fl
      have hiw : (incP σ3 a).ws.length ≤ σ.ws.length := hle.len
      show MLe a σ (if (incP σ3 a).ws ≠ [] ∧ (incP σ3 a).ws.headD [] ≠ [125] then moreP g a m (incP σ3 a) else mustP [125] (incP σ3 a))
      split
      · obtain ⟨m1, m2, m3, m4, m5⟩ := moreP_le hg m (incP σ3 a) (Nat.lt_of_lt_of_le ha hif)
        exact ⟨fun h => m1 (o2 h), Nat.le_trans m2 hiw, Nat.le_trans hif m3, fun x => hie (m4 x), fun j hj => (m5 j hj).trans (hik j hj)⟩
      · have hmu := mustP_le [125] (incP σ3 a)
        exact ⟨fun h => hmu.inv (o2 h), Nat.le_trans hmu.len hiw, Nat.le_trans hif hmu.fl, fun x => hie (hmu.e x), fun j hj => (hmu.keep j (by omega)).trans (hik j hj)⟩
    · rw [if_pos he]
      exact ⟨hle.inv, hle.len, hle.fl, hle.e, fun j hj => hle.keep j (by omega)⟩
theorem fieldP_le : ∀ (n : Nat) (rep kind depth : Int) (σ : PS), PLe σ (fieldP n rep kind depth σ)
  | 0, _, _, _, σ => .refl σ
  | n + 1, rep, kind, depth, σ => by
    rw [fieldP]
    simp only
    have hh := headP_le depth σ
    by_cases he : (headP depth σ).e = 0
    · rw [if_neg (fun h => h he)]
      obtain ⟨k1, k2, k3, k4, k5⟩ := headP_ok he
      have hfl : (headP depth σ).fs.length = σ.fs.length := by rw [k4, nextP_fs]
      have ha := hh.trans (addP_le (f := ⟨nextW σ, rep, kind, 0⟩) (by rw [hfl]; exact k2) rfl (nameT_len k1))
      show PLe σ (if kind ≠ 0 then mustP [59] (addP (headP depth σ) ⟨nextW σ, rep, kind, 0⟩) else moreP (fun r k => fieldP n r k (depth + 1)) (headP depth σ).fs.length ((addP (headP depth σ) ⟨nextW σ, rep, kind, 0⟩).ws.length + 1) (mustP [123] (addP (headP depth σ) ⟨nextW σ, rep, kind, 0⟩)))
      have hal : (addP (headP depth σ) ⟨nextW σ, rep, kind, 0⟩).fs.length = (headP depth σ).fs.length + 1 := by simp [addP]
      generalize addP (headP depth σ) ⟨nextW σ, rep, kind, 0⟩ = σ2 at *
      split
      · exact ha.trans (mustP_le _ _)
      · have hmu := mustP_le [123] σ2
        obtain ⟨m1, m2, m3, m4, m5⟩ := moreP_le (a := (headP depth σ).fs.length) (fun r k σ => fieldP_le n r k (depth + 1) σ) (σ2.ws.length + 1) (mustP [123] σ2) (by have := hmu.fl; omega)
        have hall := ha.trans hmu
        exact ⟨fun i => m1 (hall.inv i), Nat.le_trans m2 hall.len, Nat.le_trans hall.fl m3, fun x => hall.e (m4 x), fun j hj => (m5 j (by omega)).trans (hall.keep j hj)⟩
    · rw [if_pos he]; exact hh
end Go.Proofs.Ytjffmehcbaechaa
