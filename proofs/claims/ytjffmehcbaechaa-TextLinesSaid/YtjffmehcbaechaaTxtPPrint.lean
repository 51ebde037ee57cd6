/-
  'Print': a shape's text. The program's.
-/
import Derived.Test.YtjffmehcbaechaaTxtFld
import Derived.Test.YtjffmehcbaechaaTxtParse
set_option linter.unusedVariables false
set_option linter.unusedSimpArgs false
namespace Go.Proofs.Ytjffmehcbaechaa
open Go Go.Av
set_option maxRecDepth 100000
set_option maxHeartbeats 4000000
theorem prT_ne {s : List Fd} {n i d j : Nat} {t : List UInt8} (h : PrT s n 1 i d t j) : t ≠ [] := by
  obtain ⟨_, hone⟩ := h.one
  rcases hone with ⟨_, rfl, _⟩ | ⟨_, _, _, _, _, _, _, rfl⟩
  · simp [leafT]
  · simp [openT]
theorem pickT_one_ok [Syms] {P : Program} {n : Nat} {c d : CallT} (hc : OneOk P n c) (hd : d.ok P) : (pickT n c d).ok P := by
  intro f args H nx K h
  unfold pickT at h
  cases hf : Nat.beq f n with
  | true =>
    rw [hf] at h
    have e := Nat.eq_of_beq_eq_true hf
    subst e
    exact (pickT_one hc noneT_det).ok _ _ _ _ _ (by unfold pickT; rw [Nat.beq_refl]; exact h)
  | false =>
    rw [hf] at h
    exact hd f args H nx K h
def S_pPrint : SpecI := fun args K => ∃ (s : List Fd) (n j : Nat) (t : List UInt8), args = [vF s] ∧ (PrT s n 1 0 0 t j ∧ n ≤ 20 ∧ PrOk s ∧ t.length ≤ 100000) ∧ K (.str t)
abbrev cPP : CallT := pickT 34 (specT (lessS 1 2 (S_fld 21))) (pickT 35 strT noneT)
theorem cPP_ok [Syms] : cPP.ok Try.prog := pickT_spec (lessS_ok (prFld_ok 21) (by decide)) (pickT_one_ok str_one noneT_ok)
theorem pPrint_t [Syms] (s : List Fd) (n j : Nat) (t : List UInt8) (h : PrT s n 1 0 0 t j) (hn : n ≤ 20) (hs : PrOk s) (htl : t.length ≤ 100000) :
    fnT noneT cPP (fnTab fns) (tyTab tys) (plTab plt) 100 19 [vF s] [] 0 (fun v H _ => v = .str t ∧ H = []) := by
  repeat' (first | (refine And.intro ?_ ?_) | (intro h; (try first | replace h := of_decide_eq_true h | replace h := of_decide_eq_false h); (try simp only [sg] at h); (try simp only [sx, ↓reduceIte, Nat.reduceAdd, reduceCtorEq, Int.reduceLT, Int.reduceLE, Int.reduceSub, Nat.reduceEqDiff, Nat.reduceLT] at h); try exact nz h))
  all_goals (try exact cz)
  refine ⟨[0], [.ptr 0 0 0, .int .i64 (0 : Nat)], [(0, oB s (.tagp 0 70) .tnils)], rfl, ⟨.refl _, .refl _, trivial⟩, ⟨⟨by decide, _, rfl, .refl _⟩, trivial⟩, rfl, s, n, 0, 0, j, t, none, rfl, rfl, rfl, ⟨h, by omega, by omega, hs, by show 0 + t.length ≤ _; omega, .inl ⟨rfl, rfl⟩⟩, ?_⟩
  repeat' (first | (refine And.intro ?_ ?_) | (intro h; (try first | replace h := of_decide_eq_true h | replace h := of_decide_eq_false h); (try simp only [sg] at h); (try simp only [sx, ↓reduceIte, Nat.reduceAdd, reduceCtorEq, Int.reduceLT, Int.reduceLE, Int.reduceSub, Nat.reduceEqDiff, Nat.reduceLT] at h); try exact nz h))
  all_goals (try exact cz)
  refine ⟨0, 3, vF (s.drop j), .ptr 0 0 1, t, rfl, rfl, congrArg (fun R => some (Blk.cells R false)) (renB_flat _ (bR_flat _)), prT_ne h, ?_⟩
  repeat' (first | (refine And.intro ?_ ?_) | (intro h; (try first | replace h := of_decide_eq_true h | replace h := of_decide_eq_false h); (try simp only [sg] at h); (try simp only [sx, ↓reduceIte, Nat.reduceAdd, reduceCtorEq, Int.reduceLT, Int.reduceLE, Int.reduceSub, Nat.reduceEqDiff, Nat.reduceLT] at h); try exact nz h))
  all_goals (try exact cz)
  exact ⟨_, reb_flat [2] rfl, _, rfl, rfl, rfl⟩
theorem pPrint_ok [Syms] : ImmOk Try.prog 19 S_pPrint := by
  rintro args K ⟨s, n, j, t, rfl, ⟨h1, h2, h3, h4⟩, hk⟩
  exact ⟨rfl, _, rfl, hk, fnI tys_ok fns_ok noneT_det cPP_ok mixed (pPrint_t s n j t h1 h2 h3 h4)⟩
end Go.Proofs.Ytjffmehcbaechaa
