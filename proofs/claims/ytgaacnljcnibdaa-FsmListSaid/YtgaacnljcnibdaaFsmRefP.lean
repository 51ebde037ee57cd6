/-
  The document's way to count how far two leaves are repeated together. Plain.
-/
import Derived.Test.YtgaacnljcnibdaaFsmCommonP
set_option linter.unusedVariables false
set_option linter.unusedSimpArgs false
namespace Go.Proofs.Ytgaacnljcnibdaa
open Go Go.Av
def cntB (fs : List Fd) (S : List Int) (x : Int) : Int := if (fs.getD x.toNat default).rep = 2 ∧ x ∈ S then 1 else 0
def cntF (fs : List Fd) (S l : List Int) : Int := (l.map (cntB fs S)).sum
/-- Up from a place, as far as there is to go. -/
def upA (ps : List Int) (k : Int) : List Int := upL ps (ps.length + 1) k
theorem upA_neg {ps : List Int} {k : Int} (h : k < 0) : upA ps k = [] := by rw [upA, upL, if_neg (by omega)]
theorem upA_pos {ps : List Int} (ha : Ahead ps ps.length) {k : Nat} (h : k < ps.length) : upA ps k = (k : Int) :: upA ps (ps.getD k 0) := by
  have hq := ha k h
  rw [upA, upL, if_pos (by omega), Int.toNat_natCast, upA]
  congr 1
  exact upL_fuel ha _ _ _ (by omega) (by omega) (by omega)
theorem upL_le {ps : List Int} {n : Nat} (ha : Ahead ps n) : ∀ (f : Nat) (k : Int), k < n → ∀ x ∈ upL ps f k, x ≤ k
  | 0, _, _, x, hx => by cases hx
  | f + 1, k, hk, x, hx => by
    rw [upL] at hx
    split at hx
    · rcases List.mem_cons.1 hx with rfl | hx
      · exact Int.le_refl _
      · have := ha k.toNat (by omega)
        have := upL_le ha f _ (by omega) x hx
        omega
    · cases hx
theorem upA_le {ps : List Int} (ha : Ahead ps ps.length) {k : Int} (hk : k < ps.length) : ∀ x ∈ upA ps k, x ≤ k := upL_le ha _ k hk
theorem preF_snoc (fs : List Fd) (a : Int) : ∀ X Y : List Int, a ∉ Y → preF fs (X ++ [a]) Y = preF fs X Y
  | [], [], _ => rfl
  | [], y :: Y, h => by
    show preF fs [a] (y :: Y) = _
    rw [preF, if_neg (show ¬ a = y from fun e => h (by rw [e]; exact List.mem_cons_self ..)), preF_nil_left]
  | x :: X, [], _ => by rw [preF_nil_right, preF_nil_right]
  | x :: X, y :: Y, h => by
    rw [List.cons_append, preF, preF, preF_snoc fs a X Y (fun hm => h (List.mem_cons_of_mem _ hm))]
theorem cnt_pre (fs : List Fd) {ps : List Int} (ha : Ahead ps ps.length) : ∀ (N : Nat) (a b : Int), a < ps.length → b < ps.length → (a + 1).toNat + (b + 1).toNat ≤ N → cntF fs (upA ps b) (upA ps a) = preF fs (upA ps a).reverse (upA ps b).reverse
  | N, a, b, h1, h2, hN => by
    by_cases ha0 : a < 0
    · rw [upA_neg ha0]; simp [cntF, preF_nil_left]
    by_cases hb0 : b < 0
    · rw [upA_neg hb0, List.reverse_nil, preF_nil_right]
      have : ∀ l : List Int, cntF fs [] l = 0 := by
        intro l; induction l with
        | nil => rfl
        | cons x t ih => simp only [cntF, List.map_cons, List.sum_cons] at ih ⊢; rw [ih]; simp [cntB]
      exact this _
    obtain ⟨a, rfl⟩ := Int.eq_ofNat_of_zero_le (show 0 ≤ a by omega)
    obtain ⟨b, rfl⟩ := Int.eq_ofNat_of_zero_le (show 0 ≤ b by omega)
    match N, hN with
    | 0, hN => omega
    | N + 1, hN =>
      have qa := ha a (by omega)
      have qb := ha b (by omega)
      by_cases hab : a = b
      · subst hab
        rw [preF_self, sumR_reverse]
        unfold cntF sumR
        congr 1
        refine List.map_congr_left fun x hx => ?_
        simp only [cntB, repB, hx, and_true]
      · by_cases hlt : b < a
        · have hn : (a : Int) ∉ upA ps b := fun hm => by have := upA_le ha h2 _ hm; omega
          rw [upA_pos ha (show a < ps.length by omega), List.reverse_cons, preF_snoc fs _ _ _ (fun hm => hn (List.mem_reverse.1 hm)), ← cnt_pre fs ha N (ps.getD a 0) b (by omega) h2 (by omega)]
          simp only [cntF, List.map_cons, List.sum_cons]
          rw [show cntB fs (upA ps b) a = 0 from if_neg (fun h => hn h.2)]
          omega
        · have hn : (b : Int) ∉ upA ps a := fun hm => by have := upA_le ha h1 _ hm; omega
          rw [preF_comm, upA_pos ha (show b < ps.length by omega), List.reverse_cons, preF_snoc fs _ _ _ (fun hm => hn (List.mem_reverse.1 hm)), preF_comm, ← cnt_pre fs ha N a (ps.getD b 0) h1 (by omega) (by omega)]
          unfold cntF
          congr 1
          refine List.map_congr_left fun x hx => ?_
          have hxb : x ≠ (b : Int) := fun e => hn (e ▸ hx)
          simp only [cntB, List.mem_cons, hxb, false_or]
theorem cnt_way (fs : List Fd) {ps : List Int} (ha : Ahead ps ps.length) {a b : Int} (h1 : a < ps.length) (h2 : b < ps.length) : cntF fs (upA ps b) (upA ps a) = preF fs (wayF ps a) (wayF ps b) := cnt_pre fs ha _ a b h1 h2 (Nat.le_refl _)
end Go.Proofs.Ytgaacnljcnibdaa
