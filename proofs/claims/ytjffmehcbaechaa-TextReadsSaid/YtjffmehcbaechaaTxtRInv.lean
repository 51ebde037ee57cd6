/-
  The document's parser: what stays, what grows. Plain.
-/
import Derived.Test.YtjffmehcbaechaaTxtRField
set_option linter.unusedVariables false
set_option linter.unusedSimpArgs false
namespace Go.Proofs.Ytjffmehcbaechaa
open Go Go.Av
theorem headP_ws_le (d : Int) (σ : PS) : (headP d σ).fs = σ.fs := by
  unfold headP
  simp only
  split <;> split <;> split <;> simp only [failP_fs, nextP_fs]
theorem Suf.head {W : List Wd} {σ : PS} {d : Int} (h : Suf W σ) : Suf W (headP d σ) := by
  unfold headP
  simp only
  split <;> split <;> split
  all_goals first
    | exact h.next.fail.fail.fail
    | exact h.next.fail.fail
    | exact h.next.fail
    | exact h.next
theorem Suf.add {W : List Wd} {σ : PS} {f : Fd} (h : Suf W σ) : Suf W (addP σ f) := h.same rfl
theorem Suf.setK {W : List Wd} {σ : PS} {a : Nat} {c : Int} (h : Suf W σ) : Suf W (setK a c σ) := h.same rfl
theorem setK_len (a : Nat) (c : Int) (σ : PS) : (setK a c σ).fs.length = σ.fs.length := by simp [Go.Proofs.Ytjffmehcbaechaa.setK, setF]
/-- What a step of the document's parser keeps. -/
structure ROk (W : List Wd) (σ τ : PS) : Prop where
  up : σ.fs.length ≤ τ.fs.length
  top : τ.fs.length ≤ 40
  suf : Suf W τ
theorem ROk.trans {W : List Wd} {a b c : PS} (h : ROk W a b) (k : ROk W b c) : ROk W a c := ⟨Nat.le_trans h.up k.up, k.top, k.suf⟩
theorem rloop_ok {W : List Wd} {g : PS → PS} (hg : ∀ σ : PS, σ.fs.length ≤ 40 → Suf W σ → ROk W σ (g σ)) : ∀ (f c : Nat) (σ : PS), σ.fs.length ≤ 40 → Suf W σ → ROk W σ (rloopP g f c σ).1
  | 0, c, σ, h1, h2 => ⟨Nat.le_refl _, h1, h2⟩
  | f + 1, c, σ, h1, h2 => by
    rw [rloopP]
    split
    · have h := hg σ h1 h2
      exact h.trans (rloop_ok hg f (c + 1) (g σ) h.top h.suf)
    · exact ⟨Nat.le_refl _, h1, h2⟩
theorem rgroup_ok {W : List Wd} {g : PS → PS} (hg : ∀ σ : PS, σ.fs.length ≤ 40 → Suf W σ → ROk W σ (g σ)) (σ : PS) (h1 : σ.fs.length ≤ 40) (h2 : Suf W σ) : ROk W σ (rgroupP g σ).1 := by
  have hm : ROk W σ (mustP [123] σ) := ⟨by rw [mustP_fs]; exact Nat.le_refl _, by rw [mustP_fs]; exact h1, h2.must⟩
  have hl := hm.trans (rloop_ok hg ((mustP [123] σ).ws.length + 2) 0 (mustP [123] σ) hm.top hm.suf)
  rw [rgroupP]
  exact ⟨by rw [mustP_fs]; exact hl.up, by rw [mustP_fs]; exact hl.top, hl.suf.must⟩
theorem rtail_ok {W : List Wd} {g : PS → PS} {r k d : Int} (hg : ∀ σ : PS, σ.fs.length ≤ 40 → Suf W σ → ROk W σ (g σ)) (σ : PS) (h1 : σ.fs.length ≤ 40) (h2 : Suf W σ) : ROk W σ (rtailP g r k d σ) := by
  rw [rtailP]
  simp only
  have hf := headP_ws_le d σ
  split
  · exact ⟨by rw [hf]; exact Nat.le_refl _, by rw [hf]; exact h1, h2.head⟩
  · rename_i he
    have he : (headP d σ).e = 0 := Decidable.of_not_not he
    have h40 := (headP_ok he).2.1
    have hA : ROk W σ (addP (headP d σ) ⟨nextW σ, r, k, 0⟩) := ⟨by simp [addP, hf], by simp [addP, hf]; omega, h2.head.add⟩
    split
    · exact ⟨by rw [mustP_fs]; exact hA.up, by rw [mustP_fs]; exact hA.top, hA.suf.must⟩
    · have hG := hA.trans (rgroup_ok hg _ hA.top hA.suf)
      exact ⟨by rw [setK_len]; exact hG.up, by rw [setK_len]; exact hG.top, hG.suf.setK⟩
theorem rone_ok {W : List Wd} : ∀ (n : Nat) (d : Int) (σ : PS), σ.fs.length ≤ 40 → Suf W σ → ROk W σ (roneP n d σ)
  | 0, d, σ, h1, h2 => ⟨Nat.le_refl _, h1, h2⟩
  | n + 1, d, σ, h1, h2 => by
    rw [roneP]
    split
    · exact ⟨by rw [failP_fs, nextP_fs]; exact Nat.le_refl _, by rw [failP_fs, nextP_fs]; exact h1, h2.next.fail⟩
    · split
      · exact ⟨by rw [failP_fs, nextP_fs, nextP_fs]; exact Nat.le_refl _, by rw [failP_fs, nextP_fs, nextP_fs]; exact h1, h2.next.next.fail⟩
      · have h := rtail_ok (r := idxW kwReps (nextW σ)) (k := idxW kwKinds (nextW (nextP σ))) (d := d) (fun τ => rone_ok (W := W) n (d + 1) τ) (nextP (nextP σ)) (by rw [nextP_fs, nextP_fs]; exact h1) h2.next.next
        exact ⟨by have := h.up; rw [nextP_fs, nextP_fs] at this; exact this, h.top, h.suf⟩
theorem rone_dec {n : Nat} {d : Int} {σ : PS} (h1 : 10 ≤ n + d) (h2 : d ≤ 9) (he : (roneP n d σ).e = 0) : (roneP n d σ).ws.length < σ.ws.length := by
  have h := one_same n d σ h1 h2
  have hs := h.s he
  rw [hs] at he ⊢
  exact stepP_dec he
/-- The loop's end. -/
theorem rloop_end {g : PS → PS} {f c : Nat} {σ : PS} (h : ¬ (σ.e = 0 ∧ (c = 0 ∨ (σ.ws ≠ [] ∧ σ.ws.headD [] ≠ [125])))) : rloopP g f c σ = (σ, c) := by
  cases f with
  | zero => rfl
  | succ f => rw [rloopP, if_neg h]
end Go.Proofs.Ytjffmehcbaechaa
