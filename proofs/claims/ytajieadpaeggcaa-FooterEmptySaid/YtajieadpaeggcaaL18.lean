/-
  Of a file without records there is its schema, and two noughts. The statement's function.
-/
import Derived.Test.YtajieadpaeggcaaL16
import Derived.Test.YtajieadpaeggcaaL17
set_option linter.unusedVariables false
set_option linter.unusedSimpArgs false
section
set_option linter.unusedVariables false
set_option linter.unusedSimpArgs false
namespace Go.Proofs.Ytajieadpaeggcaa
open Go Go.Av
set_option maxRecDepth 100000
set_option maxHeartbeats 4000000
abbrev cLe : CallT := pickT 10 (immT S_known19) (pickT 11 (immT S_make0) (pickT 19 (ownT S_fbytes) (pickT 15 (specT S_fparse) (pickT 18 (immT S_mtSame) noneT))))
theorem cLe_ok [Syms] : cLe.ok Try.prog := pickT_imm_ok known19_ok (pickT_imm_ok make0_ok (pickT_own_ok fbytes_ok (pickT_spec fparse_ok (pickT_imm_ok mtSame_ok noneT_ok))))
noncomputable def plLe : Nat → Nat → Pl := plAdd [(8, 4), (8, 5)] (plTab plt)
theorem le_seal [Syms] {N nx K : Nat} {e : Env} {H : Heap} {m : Mt} {b : List UInt8} {row : List AVal} {len : Nat} {rows : List (List AVal)} (h3 : e.get 3 = .ptr 0 0 0) (h4 : e.get 4 = .slice K 0 len 1 none) (H0 : H.get 0 = some (.cells [row] false)) (hrow : WkVs row (encM m)) (H1 : H.get K = some (.cells rows false)) (hr : rows = b.map encB) (hl : len = b.length) (hn : NumsOk 0 nx [0, K] = true) :
    Reb 0 N ⟨e, H, nx⟩ ⟨[(4, vB b), (3, .ptr 0 0 0)], [(0, some (.cells [encM m] false))], 2⟩ := by
  subst hr hl
  refine (reb_num (e3 := [(4, .slice 1 0 b.length 1 none), (3, .ptr 0 0 0)]) (H3 := [(0, some (.cells [encM m] false)), (1, some (.cells (b.map encB) false))]) [0, K] hn ⟨by rw [h4]; exact .refl _, by rw [h3]; exact .refl _, trivial⟩ ⟨⟨Nat.succ_pos _, _, H0, wkB_row hrow (eM m)⟩, ⟨Nat.lt_succ_self _, _, H1, wkB_same (fB _)⟩, trivial⟩).trans ?_
  refine reb_own_keep (enc := encB) 0 (l := b) [(3, .ptr 0 0 0)] [(0, some (.cells [encM m] false))] rfl rfl (fB b) (List.take_of_length_le (by simp)) (by simp) (by simp; rfl) (fun n c h => ?_)
  rw [Heap.get_cons] at h
  by_cases hz : n = 0
  · subst hz; exact h
  · rw [beq_ff hz] at h; rw [show (bif false then some (Blk.cells [encM m] false) else Heap.get [] n) = none from Heap.get_nil n] at h; cases h
theorem lempty_t [Syms] (ns : List Int) (hn : ns.length ≤ 9223372036854775807) :
    fnT noneT cLe (fnTab fns) (tyTab tys) plLe 100 8 [vI ns] [] 0 (fun v H _ => v = .bool true ∧ H = []) := by
  repeat' (first | (refine And.intro ?_ ?_) | (intro h; (try first | replace h := of_decide_eq_true h | replace h := of_decide_eq_false h); (try simp only [sg] at h); (try simp only [sx, ↓reduceIte, Nat.reduceAdd, reduceCtorEq, Int.reduceLT, Int.reduceLE, Int.reduceSub, Nat.reduceEqDiff, Nat.reduceLT] at h); try exact nz h))
  all_goals (try exact cz)
  refine ⟨ns, rfl, hn, ?_⟩
  have hg := m0_g ns
  have hb := m0_b ns
  have hw := m0_w ns
  have hs := m0_s ns
  have hp := parseMF_mtB hg hw
  obtain ⟨o, ho, ho2, ho3⟩ := m0_eq ns
  have hm : (⟨makeF ns, 0, []⟩ : Mt) = m0 ns := rfl
  rw [hm]
  have hm1 : (m0 ns).n = 0 := rfl
  have hm2 : (m0 ns).groups = [] := rfl
  have hq := mtEq_self (m0 ns)
  generalize m0 ns = m at *
  repeat' (first | (refine And.intro ?_ ?_) | (intro h; (try first | replace h := of_decide_eq_true h | replace h := of_decide_eq_false h); (try simp only [sg] at h); (try simp only [sx, ↓reduceIte, Nat.reduceAdd, reduceCtorEq, Int.reduceLT, Int.reduceLE, Int.reduceSub, Nat.reduceEqDiff, Nat.reduceLT] at h); try exact nz h))
  all_goals (try exact cz)
  refine ⟨[.agg (encM m)], ⟨.imm _ rfl, trivial⟩, m, rfl, ⟨hb, by rw [ho, List.length_append]; simp; omega⟩, ?_⟩
  rw [ho] at hp ⊢
  have hbl : (o ++ [0, 0]).length = o.length + 2 := by simp
  have hx1 : (o ++ [0, 0]).getD (((o ++ [0, 0]).length : Int) - 1).toNat 0 = 0 := by
    rw [hbl, show (((o.length + 2 : Nat) : Int) - 1).toNat = o.length + 1 by omega]; simp
  have hx2 : (o ++ [0, 0]).getD (((o ++ [0, 0]).length : Int) - 2).toNat 0 = 0 := by
    rw [hbl, show (((o.length + 2 : Nat) : Int) - 2).toNat = o.length by omega]; simp
  generalize o ++ [0, 0] = b at *
  repeat' (first | (refine And.intro ?_ ?_) | (intro h; (try first | replace h := of_decide_eq_true h | replace h := of_decide_eq_false h); (try simp only [sg] at h); (try simp only [sx, ↓reduceIte, Nat.reduceAdd, reduceCtorEq, Int.reduceLT, Int.reduceLE, Int.reduceSub, Nat.reduceEqDiff, Nat.reduceLT] at h); try exact nz h))
  all_goals (try exact cz)
  refine ⟨⟨[(4, vB b), (3, .ptr 0 0 0)], [(0, some (.cells [encM m] false))], 2⟩, le_seal (K := 2) rfl rfl rfl ⟨.refl _, .refl _, .refl _, trivial⟩ rfl rfl rfl (by exact rfl), ?_⟩
  refine ⟨[], [vB b], [], rfl, ⟨.refl _, trivial⟩, trivial, b, rfl, rfl, rfl, by omega, ?_⟩
  rw [hp]
  repeat' (first | (refine And.intro ?_ ?_) | (intro h; (try first | replace h := of_decide_eq_true h | replace h := of_decide_eq_false h); (try simp only [sg] at h); (try simp only [sx, ↓reduceIte, Nat.reduceAdd, reduceCtorEq, Int.reduceLT, Int.reduceLE, Int.reduceSub, Nat.reduceEqDiff, Nat.reduceLT] at h); try exact nz h))
  all_goals (try exact cz)
  refine ⟨⟨[(3, .ptr 0 0 0), (4, vB b), (5, .ptr 2 0 0), (6, .int .i64 0)], [(0, some (.cells [encM m] false)), (2, some (.cells [encM m] false))], 3⟩, reb_num [0, 1, 4] (by exact rfl) ⟨.refl _, .refl _, .refl _, .refl _, trivial⟩ ⟨⟨by decide, _, rfl, .refl _⟩, ⟨by decide, _, rfl, wkB_row (row := encM m) ⟨.refl _, .refl _, .refl _, trivial⟩ (eM _)⟩, trivial⟩, ?_⟩
  have hx3 : (encM m).getD 1 .any = .int .i64 0 := by rw [← hm1]; rfl
  have hx4 : (encM m).getD (0 + 1) .any = .int .i64 0 := hx3
  have hgl : m.groups.length = 0 := by rw [hm2]; rfl
  repeat' (first | (refine And.intro ?_ ?_) | (intro h; (try first | replace h := of_decide_eq_true h | replace h := of_decide_eq_false h); (try simp only [sg, sq, hx1, hx2, hx3, hx4] at h); (try simp only [sx, ↓reduceIte, Nat.reduceAdd, reduceCtorEq, Int.reduceLT, Int.reduceLE, Int.reduceSub, Nat.reduceEqDiff, Nat.reduceLT] at h); try exact nz h))
  all_goals (try exact cz)
  all_goals (try exact absurd (show asI ((encB 0).getD 0 .any) = 0 from rfl) (by assumption))
  refine ⟨m, m, rfl, hs, ?_⟩
  rw [hq]
  repeat' (first | (refine And.intro ?_ ?_) | (intro h; (try first | replace h := of_decide_eq_true h | replace h := of_decide_eq_false h); (try simp only [sg, sq, hx1, hx2, hx3, hx4] at h); (try simp only [sx, ↓reduceIte, Nat.reduceAdd, reduceCtorEq, Int.reduceLT, Int.reduceLE, Int.reduceSub, Nat.reduceEqDiff, Nat.reduceLT] at h); try exact nz h))
  all_goals (try exact cz)
  exact ⟨_, reb_flat [2] rfl, _, rfl, rfl, rfl⟩
theorem lempty_sem [Syms] (ns : List Int) (hn : ns.length ≤ 9223372036854775807) :
    FnSem Try.prog 8 [vI ns] [] 0 (fun v H _ => v = .bool true ∧ H = []) :=
  fnT_sound tys_ok fns_ok noneT_det cLe_ok mixed (lempty_t ns hn)
end Go.Proofs.Ytajieadpaeggcaa

end
