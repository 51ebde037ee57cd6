/-
  A printed shape's lines. Plain.
-/
import Derived.Test.YtjffmehcbaechaaTxtFoT
set_option linter.unusedVariables false
set_option linter.unusedSimpArgs false
namespace Go.Proofs.Ytjffmehcbaechaa
open Go Go.Av
def nlC (t : List UInt8) : Nat := t.countP fun b => decide (b.toNat = 10)
def grC (s : List Fd) : Nat := s.countP fun f => decide (f.kind = 0)
theorem nlC_app (a b : List UInt8) : nlC (a ++ b) = nlC a + nlC b := List.countP_append ..
theorem nlC_zero {a : List UInt8} (h : ∀ c ∈ a, c.toNat ≠ 10) : nlC a = 0 := by
  unfold nlC
  rw [List.countP_eq_zero]
  intro c hc
  simpa using h c hc
theorem sign_nl {c : UInt8} (h : signF c = true) : c.toNat ≠ 10 := by
  intro e
  rw [signF, letterF, e] at h
  revert h
  decide
theorem blanks_nl (d : Nat) : nlC (blanksT d) = 0 := nlC_zero fun c hc => by
  rw [(List.mem_replicate.1 hc).2]; decide
theorem kwr_nl (r : Int) (h0 : 0 ≤ r) (h2 : r ≤ 2) : nlC (kwReps.getD r.toNat []) = 0 := by
  rcases (show r = 0 ∨ r = 1 ∨ r = 2 by omega) with rfl | rfl | rfl <;> decide
theorem kwk_nl (k : Int) (h0 : 0 ≤ k) (h4 : k ≤ 4) : nlC (kwKinds.getD k.toNat []) = 0 := by
  rcases (show k = 0 ∨ k = 1 ∨ k = 2 ∨ k = 3 ∨ k = 4 by omega) with rfl | rfl | rfl | rfl | rfl <;> decide
theorem front_nl {d : Nat} {f : Fd} (h : FOk f) : nlC (frontT d f) = 0 := by
  unfold frontT
  split
  · decide
  · simp only [nlC_app, blanks_nl, kwr_nl f.rep h.rep.1 h.rep.2, kwk_nl f.kind h.kind.1 h.kind.2]
    decide
theorem name_nl {f : Fd} (h : FOk f) : nlC f.name = 0 := nlC_zero fun c hc => sign_nl (h.sign c hc)
theorem leafT_nl {d : Nat} {f : Fd} (h : FOk f) : nlC (leafT d f) = 1 := by
  simp only [leafT, nlC_app, front_nl h, name_nl h]; decide
theorem openT_nl {d : Nat} {f : Fd} (h : FOk f) : nlC (openT d f) = 1 := by
  simp only [openT, nlC_app, front_nl h, name_nl h]; decide
theorem closeT_nl (d : Nat) : nlC (closeT d) = 1 := by
  simp only [closeT, nlC_app, blanks_nl]; decide
theorem grC_succ {s : List Fd} {i : Nat} (hi : i < s.length) : grC (s.take (i + 1)) = grC (s.take i) + if (s.getD i default).kind = 0 then 1 else 0 := by
  unfold grC
  rw [List.take_succ_eq_append_getElem hi, List.countP_append]
  congr 1
  have : s.getD i default = s[i] := by rw [List.getD_eq_getElem?_getD, List.getElem?_eq_getElem hi]; rfl
  rw [this, List.countP_singleton]
  simp
theorem nlC_succ {t : List UInt8} {i : Nat} (hi : i < t.length) : nlC (t.take (i + 1)) = nlC (t.take i) + if (t.getD i 0).toNat = 10 then 1 else 0 := by
  unfold nlC
  rw [List.take_succ_eq_append_getElem hi, List.countP_append]
  congr 1
  have : t.getD i 0 = t[i] := by rw [List.getD_eq_getElem?_getD, List.getElem?_eq_getElem hi]; rfl
  rw [this, List.countP_singleton]
  simp
theorem PrT.lines {s : List Fd} {n k i d j : Nat} {t : List UInt8} (hs : ∀ f ∈ s, FOk f) (h : PrT s n k i d t j) : nlC t + (i + grC (s.take i)) = j + grC (s.take j) := by
  have hF : ∀ {i : Nat}, i < s.length → FOk (s.getD i default) := fun {i} hi => hs _ (by rw [List.getD_eq_getElem?_getD, List.getElem?_eq_getElem hi]; exact List.getElem_mem hi)
  induction h with
  | nil => simp [nlC]
  | leaf hi hk h ih =>
    have e := grC_succ hi
    rw [if_neg hk] at e
    rw [nlC_app, leafT_nl (hF hi)]
    omega
  | group hi hk hm h1 h2 ih1 ih2 =>
    have e := grC_succ hi
    rw [if_pos hk] at e
    rw [nlC_app, nlC_app, nlC_app, openT_nl (hF hi), closeT_nl]
    omega
theorem PrT.last {s : List Fd} {n i d j : Nat} {t : List UInt8} (h : PrT s n 1 i d t j) : ∃ u, t = u ++ [10] := by
  obtain ⟨_, hone⟩ := h.one
  rcases hone with ⟨_, rfl, _⟩ | ⟨_, _, t1, _, _, _, _, rfl⟩
  · exact ⟨frontT d (s.getD i default) ++ (s.getD i default).name ++ [59], by simp [leafT]⟩
  · exact ⟨openT d (s.getD i default) ++ t1 ++ blanksT d ++ [125], by simp [closeT]⟩
theorem make_fok (ns : List Int) : ∀ f ∈ makeF ns, FOk f := by
  obtain ⟨f, l, k, hs, hf, hk, hr, hm, hp, h⟩ := make_fo ns
  rw [hs]
  intro g hg
  rcases List.mem_cons.1 hg with rfl | hg
  · exact hf
  · exact h.all g hg
theorem make_lines {ns : List Int} {t : List UInt8} (h : PrS (makeF ns) t) : nlC t = (makeF ns).length + grC (makeF ns) := by
  have := h.pr.lines (make_fok ns)
  rw [List.take_length] at this
  simp only [List.take_zero, Nat.zero_add, show grC [] = 0 from rfl] at this
  omega
end Go.Proofs.Ytjffmehcbaechaa
