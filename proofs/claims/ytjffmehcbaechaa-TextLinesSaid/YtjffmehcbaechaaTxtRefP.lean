/-
  The document's parser; it is the program's. Plain.
-/
import Derived.Test.YtjffmehcbaechaaTxtInv
set_option linter.unusedVariables false
set_option linter.unusedSimpArgs false
namespace Go.Proofs.Ytjffmehcbaechaa
open Go Go.Av
def setF (a : Nat) (x : Fd) (σ : PS) : PS := { σ with fs := σ.fs.set a x }
theorem setF_fail (a : Nat) (x : Fd) (σ : PS) (y : Int) : failP (setF a x σ) y = setF a x (failP σ y) := by
  unfold failP setF; split <;> rfl
theorem setF_nextW (a : Nat) (x : Fd) (σ : PS) : nextW (setF a x σ) = nextW σ := rfl
theorem setF_next (a : Nat) (x : Fd) (σ : PS) : nextP (setF a x σ) = setF a x (nextP σ) := by
  unfold nextP setF; split <;> rfl
theorem setF_must (a : Nat) (x : Fd) (w : Wd) (σ : PS) : mustP w (setF a x σ) = setF a x (mustP w σ) := by
  unfold mustP
  rw [setF_nextW, setF_next, setF_fail]
  split <;> rfl
theorem setF_pickV (a : Nat) (x : Fd) (l : List Wd) (σ : PS) : pickV l (setF a x σ) = pickV l σ := rfl
theorem setF_pick (a : Nat) (x : Fd) (l : List Wd) (σ : PS) : pickP l (setF a x σ) = setF a x (pickP l σ) := by
  unfold pickP
  rw [setF_nextW, setF_next, setF_fail]
  split <;> rfl
theorem setF_len (a : Nat) (x : Fd) (σ : PS) : (setF a x σ).fs.length = σ.fs.length := by simp [setF]
theorem setF_head (a : Nat) (x : Fd) (d : Int) (σ : PS) : headP d (setF a x σ) = setF a x (headP d σ) := by
  unfold headP
  simp only [setF_nextW, setF_next, setF_fail]
  have h1 : ∀ b : Bool, (if b = true then setF a x (nextP σ) else setF a x (failP (nextP σ) 6)) = setF a x (if b = true then nextP σ else failP (nextP σ) 6) := by
    intro b; cases b <;> rfl
  rw [h1]
  generalize (if nameT (nextW σ) = true then nextP σ else failP (nextP σ) 6) = τ
  rw [setF_len, setF_fail]
  have h2 : (if 40 ≤ τ.fs.length then setF a x (failP τ 4) else setF a x τ) = setF a x (if 40 ≤ τ.fs.length then failP τ 4 else τ) := by split <;> rfl
  rw [h2]
  generalize (if 40 ≤ τ.fs.length then failP τ 4 else τ) = υ
  rw [setF_fail]
  split <;> rfl
theorem setF_add {a : Nat} {x : Fd} {σ : PS} {f : Fd} (h : a < σ.fs.length) : addP (setF a x σ) f = setF a x (addP σ f) := by
  unfold addP setF
  simp [List.set_append, h]
theorem setF_inc {a b : Nat} {x : Fd} {σ : PS} (h : a ≠ b) : incP (setF a x σ) b = setF a x (incP σ b) := by
  unfold incP setF
  simp only [PS.mk.injEq, and_true, true_and]
  have e : (σ.fs.set a x).getD b default = σ.fs.getD b default := by
    simp only [List.getD_eq_getElem?_getD, List.getElem?_set, if_neg h]
  rw [e, List.set_comm _ _ h]
theorem setF_more {a b : Nat} {x : Fd} {g : Int → Int → PS → PS} (hle : ∀ r k σ, PLe σ (g r k σ)) (hg : ∀ r k σ, a < σ.fs.length → g r k (setF a x σ) = setF a x (g r k σ)) (hab : a < b) :
    ∀ (m : Nat) (σ : PS), a < σ.fs.length → moreP g b m (setF a x σ) = setF a x (moreP g b m σ)
  | 0, σ, _ => rfl
  | m + 1, σ, ha => by
    have h12 := (pickP_le kwReps σ).trans (pickP_le kwKinds (pickP kwReps σ))
    have h3 := h12.trans (hle (pickV kwReps σ) (pickV kwKinds (pickP kwReps σ)) (pickP kwKinds (pickP kwReps σ)))
    rw [moreP, moreP]
    simp only
    rw [setF_pickV, setF_pick, setF_pickV, setF_pick, hg _ _ _ (Nat.lt_of_lt_of_le ha h12.fl)]
    generalize g (pickV kwReps σ) (pickV kwKinds (pickP kwReps σ)) (pickP kwKinds (pickP kwReps σ)) = τ at *
    by_cases he : τ.e = 0
    · rw [if_neg (show ¬ (setF a x τ).e ≠ 0 from fun h => h he), if_neg (show ¬ τ.e ≠ 0 from fun h => h he)]
      have hi : (incP (setF a x τ) b) = setF a x (incP τ b) := setF_inc (by omega)
      show (if (incP (setF a x τ) b).ws ≠ [] ∧ (incP (setF a x τ) b).ws.headD [] ≠ [125] then moreP g b m (incP (setF a x τ) b) else mustP [125] (incP (setF a x τ) b)) = setF a x (if (incP τ b).ws ≠ [] ∧ (incP τ b).ws.headD [] ≠ [125] then moreP g b m (incP τ b) else mustP [125] (incP τ b))
      rw [hi]
      have hl : a < (incP τ b).fs.length := by simp only [incP, List.length_set]; exact Nat.lt_of_lt_of_le ha h3.fl
      by_cases hw : (incP τ b).ws ≠ [] ∧ (incP τ b).ws.headD [] ≠ [125]
      · rw [if_pos hw, if_pos (show (setF a x (incP τ b)).ws ≠ [] ∧ (setF a x (incP τ b)).ws.headD [] ≠ [125] from hw)]
        exact setF_more hle hg hab m _ hl
      · rw [if_neg hw, if_neg (show ¬ ((setF a x (incP τ b)).ws ≠ [] ∧ (setF a x (incP τ b)).ws.headD [] ≠ [125]) from hw)]
        exact setF_must ..
    · rw [if_pos (show (setF a x τ).e ≠ 0 from he), if_pos he]
theorem setF_field {a : Nat} {x : Fd} : ∀ (n : Nat) (r k d : Int) (σ : PS), a < σ.fs.length → fieldP n r k d (setF a x σ) = setF a x (fieldP n r k d σ)
  | 0, _, _, _, _, _ => rfl
  | n + 1, r, k, d, σ, ha => by
    rw [fieldP, fieldP]
    simp only
    rw [setF_head, setF_nextW]
    have hh := (headP_le d σ).fl
    generalize headP d σ = τ at *
    by_cases he : τ.e = 0
    · rw [if_neg (show ¬ (setF a x τ).e ≠ 0 from fun h => h he), if_neg (show ¬ τ.e ≠ 0 from fun h => h he)]
      have hl : a < τ.fs.length := Nat.lt_of_lt_of_le ha hh
      show (if k ≠ 0 then mustP [59] (addP (setF a x τ) ⟨nextW σ, r, k, 0⟩) else moreP (fun r k => fieldP n r k (d + 1)) (setF a x τ).fs.length ((addP (setF a x τ) ⟨nextW σ, r, k, 0⟩).ws.length + 1) (mustP [123] (addP (setF a x τ) ⟨nextW σ, r, k, 0⟩)))
        = setF a x (if k ≠ 0 then mustP [59] (addP τ ⟨nextW σ, r, k, 0⟩) else moreP (fun r k => fieldP n r k (d + 1)) τ.fs.length ((addP τ ⟨nextW σ, r, k, 0⟩).ws.length + 1) (mustP [123] (addP τ ⟨nextW σ, r, k, 0⟩)))
      rw [setF_add hl, setF_must, setF_must, setF_len]
      split
      · rfl
      · exact setF_more (fun r k σ => fieldP_le n r k (d + 1) σ) (fun r k σ h => setF_field n r k (d + 1) σ h) hl _ _ (by have := (mustP_le [123] (addP τ ⟨nextW σ, r, k, 0⟩)).fl; simp [addP] at this ⊢; omega)
    · rw [if_pos (show (setF a x τ).e ≠ 0 from he), if_pos he]

/-! ### The document's -/
def rloopP (g : PS → PS) : Nat → Nat → PS → PS × Nat
  | 0, c, σ => (σ, c)
  | m + 1, c, σ => if σ.e = 0 ∧ (c = 0 ∨ (σ.ws ≠ [] ∧ σ.ws.headD [] ≠ [125])) then rloopP g m (c + 1) (g σ) else (σ, c)
def rgroupP (g : PS → PS) (σ : PS) : PS × Nat := (mustP [125] (rloopP g ((mustP [123] σ).ws.length + 2) 0 (mustP [123] σ)).1, (rloopP g ((mustP [123] σ).ws.length + 2) 0 (mustP [123] σ)).2)
def setK (a : Nat) (c : Int) (σ : PS) : PS := setF a { σ.fs.getD a default with kids := c } σ
/-- What lies behind the two words of a field. -/
def rtailP (g : PS → PS) (r k d : Int) (σ : PS) : PS :=
  let σ1 := headP d σ
  if σ1.e ≠ 0 then σ1
  else
    let σ2 := addP σ1 ⟨nextW σ, r, k, 0⟩
    if k ≠ 0 then mustP [59] σ2
    else setK σ1.fs.length (rgroupP g σ2).2 (rgroupP g σ2).1
def roneP : Nat → Int → PS → PS
  | 0, _, σ => σ
  | n + 1, d, σ =>
    if idxW kwReps (nextW σ) < 0 then failP (nextP σ) 6
    else if idxW kwKinds (nextW (nextP σ)) < 0 then failP (nextP (nextP σ)) 6
    else rtailP (roneP n (d + 1)) (idxW kwReps (nextW σ)) (idxW kwKinds (nextW (nextP σ))) d (nextP (nextP σ))
def rparseF (s : List UInt8) : List Fd × Int :=
  if 4000 < s.length then ([], 5)
  else match wordsF s with
    | none => ([], 6)
    | some l =>
      let σ := rtailP (roneP 9 1) 0 0 0 (mustP kwMsg ⟨l, [], 0⟩)
      let σ1 := if σ.e = 0 ∧ σ.ws ≠ [] then failP σ 6 else σ
      let e := if σ1.e = 0 then checkF σ1.fs else σ1.e
      if e ≠ 0 then ([], e) else (σ1.fs, 0)
/-- Alike: the same is wrong; where nothing is, all is the same. -/
structure Ali (σ τ : PS) : Prop where
  e : σ.e = τ.e
  s : σ.e = 0 → σ = τ
theorem Ali.refl (σ : PS) : Ali σ σ := ⟨rfl, fun _ => rfl⟩
theorem failP_bad {σ : PS} {x : Int} (h : σ.e ≠ 0) : failP σ x = σ := if_neg h
theorem nextW_bad {σ : PS} (h : σ.e ≠ 0) : nextW σ = [] := if_pos h
theorem nextP_bad {σ : PS} (h : σ.e ≠ 0) : nextP σ = σ := if_pos h
theorem mustP_bad {σ : PS} {w : Wd} (hw : w ≠ []) (h : σ.e ≠ 0) : mustP w σ = σ := by
  rw [mustP, nextW_bad h, if_neg (fun e => hw e.symm), nextP_bad h, failP_bad h]
theorem pickP_bad {l : List Wd} {σ : PS} (h : σ.e ≠ 0) : pickP l σ = σ := by
  unfold pickP
  rw [nextP_bad h, failP_bad h]
  split <;> rfl
theorem headP_bad {d : Int} {σ : PS} (h : σ.e ≠ 0) : headP d σ = σ := by
  have h6 := failP_bad (x := 6) h
  have h4 := failP_bad (x := 4) h
  have h11 := failP_bad (x := 11) h
  unfold headP
  simp only [nextP_bad h]
  have e1 : (if nameT (nextW σ) = true then σ else failP σ 6) = σ := by rw [h6]; split <;> rfl
  rw [e1]
  have e2 : (if 40 ≤ σ.fs.length then failP σ 4 else σ) = σ := by rw [h4]; split <;> rfl
  rw [e2, h11]
  split <;> rfl
theorem fieldP_bad {n : Nat} {r k d : Int} {σ : PS} (h : σ.e ≠ 0) : fieldP n r k d σ = σ := by
  cases n with
  | zero => rfl
  | succ n =>
    rw [fieldP]
    simp only [headP_bad h]
    rw [if_pos h]
theorem failP_fail {σ : PS} (x : Int) (hx : x ≠ 0) : (failP σ x).e ≠ 0 := failP_e hx
theorem Ali.must {σ τ : PS} {w : Wd} (hw : w ≠ []) (h : Ali σ τ) : Ali (mustP w σ) (mustP w τ) := by
  by_cases he : σ.e = 0
  · rw [h.s he]; exact .refl _
  · rw [mustP_bad hw he, mustP_bad hw (by rw [← h.e]; exact he)]; exact h
/-- The program's step of a group: the same as the document's. -/
def stepP (n : Nat) (d : Int) (σ : PS) : PS := fieldP n (pickV kwReps σ) (pickV kwKinds (pickP kwReps σ)) d (pickP kwKinds (pickP kwReps σ))
theorem stepP_bad {n : Nat} {d : Int} {σ : PS} (h : σ.e ≠ 0) : stepP n d σ = σ := by
  rw [stepP, pickP_bad h, pickP_bad h, fieldP_bad h]
theorem stepP_set {n : Nat} {d : Int} {a : Nat} {x : Fd} {σ : PS} (h : a < σ.fs.length) : stepP n d (setF a x σ) = setF a x (stepP n d σ) := by
  have h12 := (pickP_le kwReps σ).trans (pickP_le kwKinds (pickP kwReps σ))
  rw [stepP, setF_pickV, setF_pick, setF_pickV, setF_pick, setF_field _ _ _ _ _ (Nat.lt_of_lt_of_le h h12.fl), stepP]
theorem stepP_le (n : Nat) (d : Int) (σ : PS) : PLe σ (stepP n d σ) := ((pickP_le kwReps σ).trans (pickP_le kwKinds (pickP kwReps σ))).trans (fieldP_le ..)
theorem stepP_dec {n : Nat} {d : Int} {σ : PS} (h : (stepP n d σ).e = 0) : (stepP n d σ).ws.length < σ.ws.length := by
  have h1 := pickP_le kwReps σ
  have h2 := pickP_le kwKinds (pickP kwReps σ)
  have h3 := fieldP_le n (pickV kwReps σ) (pickV kwKinds (pickP kwReps σ)) d (pickP kwKinds (pickP kwReps σ))
  exact Nat.lt_of_le_of_lt (h2.trans h3).len (pickP_dec kwReps_nil (h2.e (h3.e h))).1
theorem setK_set (a : Nat) (c : Int) (x : Fd) (σ : PS) (h : a < σ.fs.length) (hx : { x with kids := c } = { σ.fs.getD a default with kids := c }) : setK a c (setF a x σ) = setK a c σ := by
  unfold setK
  have : (setF a x σ).fs.getD a default = x := by simp [setF, List.getD_eq_getElem?_getD, h]
  rw [this, hx]
  simp [setF, List.set_set]
/-- The program's loop from a state that has counted, the document's from one that has not. -/
theorem loop_same {n : Nat} {d : Int} {g : PS → PS} (hg : ∀ σ : PS, Ali (g σ) (stepP n d σ)) {a : Nat} : ∀ (m f c : Nat) (σ : PS), σ.ws.length < m → σ.ws.length + 1 < f → a < σ.fs.length → σ.e = 0 →
    (c = 0 ∨ (σ.ws ≠ [] ∧ σ.ws.headD [] ≠ [125])) → Ali (setK a (rloopP g f c σ).2 (mustP [125] (rloopP g f c σ).1)) (moreP (fun r k => fieldP n r k d) a m (setK a c σ))
  | 0, _, _, _, h, _, _, _, _ => absurd h (Nat.not_lt_zero _)
  | _ + 1, 0, _, _, _, h, _, _, _ => absurd h (Nat.not_lt_zero _)
  | m + 1, f + 1, c, σ, hm, hf, ha, he, hc => by
    rw [rloopP, if_pos ⟨he, hc⟩, moreP]
    simp only
    have hst : fieldP n (pickV kwReps (setK a c σ)) (pickV kwKinds (pickP kwReps (setK a c σ))) d (pickP kwKinds (pickP kwReps (setK a c σ))) = setK a c (stepP n d σ) := by
      have h1 := stepP_set (n := n) (d := d) (x := { σ.fs.getD a default with kids := (c : Int) }) ha
      rw [setK]
      refine Eq.trans h1 ?_
      rw [setK, (stepP_le n d σ).keep a ha]
    rw [hst]
    have hle := stepP_le n d σ
    have hdec := @stepP_dec n d σ
    have hga := hg σ
    generalize stepP n d σ = τ at *
    by_cases ht : τ.e = 0
    · rw [if_neg (show ¬ (setK a c τ).e ≠ 0 from fun h => h ht)]
      have hge : g σ = τ := hga.s (by rw [hga.e]; exact ht)
      rw [hge]
      have hat : a < τ.fs.length := Nat.lt_of_lt_of_le ha hle.fl
      have hlt := hdec ht
      have hi : incP (setK a c τ) a = setK a ((c + 1 : Nat) : Int) τ := by
        unfold incP setK setF
        simp [List.set_set, List.getD_eq_getElem?_getD, hat]
      show Ali _ (if (incP (setK a c τ) a).ws ≠ [] ∧ (incP (setK a c τ) a).ws.headD [] ≠ [125] then moreP (fun r k => fieldP n r k d) a m (incP (setK a c τ) a) else mustP [125] (incP (setK a c τ) a))
      rw [hi]
      by_cases hw : τ.ws ≠ [] ∧ τ.ws.headD [] ≠ [125]
      · rw [if_pos (show (setK a ((c + 1 : Nat) : Int) τ).ws ≠ [] ∧ (setK a ((c + 1 : Nat) : Int) τ).ws.headD [] ≠ [125] from hw)]
        exact loop_same hg m f (c + 1) τ (by omega) (by omega) hat ht (.inr hw)
      · rw [if_neg (show ¬ ((setK a ((c + 1 : Nat) : Int) τ).ws ≠ [] ∧ (setK a ((c + 1 : Nat) : Int) τ).ws.headD [] ≠ [125]) from hw)]
        have hr : rloopP g f (c + 1) τ = (τ, c + 1) := by
          cases f with
          | zero => rfl
          | succ f => rw [rloopP, if_neg (by rintro ⟨_, h | h⟩; exact absurd h (by omega); exact hw h)]
        rw [hr]
        show Ali (setK a ((c + 1 : Nat) : Int) (mustP [125] τ)) _
        have hk : (mustP [125] τ).fs.getD a default = τ.fs.getD a default := (mustP_le [125] τ).keep a hat
        rw [setK, hk, setK, setF_must]
        exact .refl _
    · rw [if_pos (show (setK a c τ).e ≠ 0 from ht)]
      have hge : (g σ).e ≠ 0 := by rw [hga.e]; exact ht
      have hr : rloopP g f (c + 1) (g σ) = (g σ, c + 1) := by
        cases f with
        | zero => rfl
        | succ f => rw [rloopP, if_neg (fun h => hge h.1)]
      rw [hr]
      show Ali (setK a ((c + 1 : Nat) : Int) (mustP [125] (g σ))) _
      rw [mustP_bad (by decide) hge]
      exact ⟨hga.e, fun h => absurd h hge⟩
theorem tail_same {n : Nat} {g : PS → PS} {r k d : Int} (hg : ∀ σ : PS, Ali (g σ) (stepP n (d + 1) σ)) (σ : PS) : Ali (rtailP g r k d σ) (fieldP (n + 1) r k d σ) := by
  rw [rtailP, fieldP]
  simp only
  by_cases he : (headP d σ).e = 0
  · have hn : ¬ (headP d σ).e ≠ 0 := fun h => h he
    rw [if_neg hn, if_neg hn]
    show Ali _ (if k ≠ 0 then mustP [59] (addP (headP d σ) ⟨nextW σ, r, k, 0⟩) else moreP (fun r k => fieldP n r k (d + 1)) (headP d σ).fs.length ((addP (headP d σ) ⟨nextW σ, r, k, 0⟩).ws.length + 1) (mustP [123] (addP (headP d σ) ⟨nextW σ, r, k, 0⟩)))
    by_cases hk : k = 0
    · have hn : ¬ k ≠ 0 := fun h => h hk
      rw [if_neg hn, if_neg hn]
      have hal : (addP (headP d σ) ⟨nextW σ, r, k, 0⟩).fs.length = (headP d σ).fs.length + 1 := by simp [addP]
      have hae : (addP (headP d σ) ⟨nextW σ, r, k, 0⟩).e = 0 := he
      have hak : ((addP (headP d σ) ⟨nextW σ, r, k, 0⟩).fs.getD (headP d σ).fs.length default).kids = 0 := by simp [addP]
      generalize addP (headP d σ) ⟨nextW σ, r, k, 0⟩ = τ at *
      have hmu := mustP_le [123] τ
      have hau : (headP d σ).fs.length < (mustP [123] τ).fs.length := by have := hmu.fl; omega
      have hku : ((mustP [123] τ).fs.getD (headP d σ).fs.length default).kids = 0 := by rw [hmu.keep _ (by omega)]; exact hak
      have hml : (mustP [123] τ).ws.length < τ.ws.length + 1 := Nat.lt_succ_of_le hmu.len
      rw [rgroupP]
      generalize mustP [123] τ = υ at *
      by_cases hu : υ.e = 0
      · have h := loop_same hg (τ.ws.length + 1) (υ.ws.length + 2) 0 υ hml (by omega) hau hu (.inl rfl)
        have h0 : setK (headP d σ).fs.length ((0 : Nat) : Int) υ = υ := by
          unfold setK setF
          have e1 : ({ υ.fs.getD (headP d σ).fs.length default with kids := ((0 : Nat) : Int) } : Fd) = υ.fs.getD (headP d σ).fs.length default := by
            show Fd.mk _ _ _ 0 = _
            rw [← hku]
          rw [e1]
          have e2 : υ.fs.set (headP d σ).fs.length (υ.fs.getD (headP d σ).fs.length default) = υ.fs := by
            rw [List.getD_eq_getElem?_getD, List.getElem?_eq_getElem hau]
            exact List.set_getElem_self hau
          rw [e2]
        rw [h0] at h
        exact h
      · have hr : rloopP g (υ.ws.length + 2) 0 υ = (υ, 0) := by rw [rloopP, if_neg (fun h => hu h.1)]
        rw [hr, moreP]
        simp only
        rw [pickP_bad hu, pickP_bad hu, fieldP_bad hu, if_pos hu, mustP_bad (by decide) hu]
        exact ⟨rfl, fun h => absurd h hu⟩
    · rw [if_pos hk, if_pos hk]; exact .refl _
  · rw [if_pos he, if_pos he]; exact .refl _
theorem one_same : ∀ (n : Nat) (d : Int) (σ : PS), 10 ≤ n + d → d ≤ 9 → Ali (roneP n d σ) (stepP n d σ)
  | 0, d, σ, h, h' => by omega
  | n + 1, d, σ, h, h' => by
    rw [roneP, stepP]
    by_cases h1 : idxW kwReps (nextW σ) < 0
    · rw [if_pos h1]
      have e1 : pickP kwReps σ = failP (nextP σ) 6 := if_pos h1
      have hb : (failP (nextP σ) 6).e ≠ 0 := failP_e (by decide)
      rw [e1, pickP_bad hb, fieldP_bad hb]
      exact .refl _
    · rw [if_neg h1]
      have e1 : pickP kwReps σ = nextP σ := if_neg h1
      have v1 : pickV kwReps σ = idxW kwReps (nextW σ) := if_neg h1
      rw [e1, v1]
      by_cases h2 : idxW kwKinds (nextW (nextP σ)) < 0
      · rw [if_pos h2]
        have e2 : pickP kwKinds (nextP σ) = failP (nextP (nextP σ)) 6 := if_pos h2
        have hb : (failP (nextP (nextP σ)) 6).e ≠ 0 := failP_e (by decide)
        rw [e2, fieldP_bad hb]
        exact .refl _
      · rw [if_neg h2]
        have e2 : pickP kwKinds (nextP σ) = nextP (nextP σ) := if_neg h2
        have v2 : pickV kwKinds (nextP σ) = idxW kwKinds (nextW (nextP σ)) := if_neg h2
        rw [e2, v2]
        by_cases hd : d = 9
        · subst hd
          have hh : (headP 9 (nextP (nextP σ))).e ≠ 0 := fun he => by have := (headP_ok he).2.2.1; omega
          rw [rtailP, fieldP]
          simp only
          rw [if_pos hh, if_pos hh]
          exact .refl _
        · exact tail_same (fun τ => one_same n (d + 1) τ (by omega) (by omega)) _
theorem parse_same (s : List UInt8) : rparseF s = parseF s := by
  rw [rparseF, parseF]
  split
  · rfl
  · cases hw : wordsF s with
    | none => rfl
    | some l =>
      simp only
      have h : Ali (rtailP (roneP 9 1) 0 0 0 (mustP kwMsg ⟨l, [], 0⟩)) (fieldP 10 0 0 0 (mustP kwMsg ⟨l, [], 0⟩)) := tail_same (n := 9) (g := roneP 9 1) (r := 0) (k := 0) (d := 0) (fun τ => one_same 9 1 τ (by decide) (by decide)) (mustP kwMsg ⟨l, [], 0⟩)
      generalize rtailP (roneP 9 1) 0 0 0 (mustP kwMsg ⟨l, [], 0⟩) = σ at *
      generalize fieldP 10 0 0 0 (mustP kwMsg ⟨l, [], 0⟩) = τ at *
      by_cases he : σ.e = 0
      · rw [← h.s he]
        by_cases hw : σ.ws = []
        · rw [if_neg (show ¬ (σ.e = 0 ∧ σ.ws ≠ []) from fun x => x.2 hw), if_neg (show ¬ σ.ws ≠ [] from fun x => x hw)]
        · rw [if_pos (show σ.e = 0 ∧ σ.ws ≠ [] from ⟨he, hw⟩), if_pos hw]
      · have ht : τ.e ≠ 0 := by rw [← h.e]; exact he
        have e1 : (if σ.e = 0 ∧ σ.ws ≠ [] then failP σ 6 else σ) = σ := if_neg fun x => he x.1
        have e2 : (if τ.ws ≠ [] then failP τ 6 else τ) = τ := by rw [failP_bad ht]; split <;> rfl
        rw [e1, e2, if_neg he, if_neg ht, if_pos he, if_pos ht, h.e]
end Go.Proofs.Ytjffmehcbaechaa
