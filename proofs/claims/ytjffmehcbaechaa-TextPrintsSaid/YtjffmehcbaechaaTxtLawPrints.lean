/-
  The statement TextPrints: its walk.
-/
import Derived.Test.YtjffmehcbaechaaTxtPPrint
import Derived.Test.YtjffmehcbaechaaTxtPrint
import Derived.Test.YtjffmehcbaechaaTxtRound
import Derived.Test.YtjffmehcbaechaaTxtChk
import Derived.Test.YtjffmehcbaechaaTxtSame
import Derived.Test.YtjffmehcbaechaaTxtKnown
import Derived.Test.YtjffmehcbaechaaSchMakeS
set_option linter.unusedVariables false
set_option linter.unusedSimpArgs false
namespace Go.Proofs.Ytjffmehcbaechaa
open Go Go.Av
set_option maxRecDepth 100000
set_option maxHeartbeats 4000000
abbrev cTPd : CallT := pickT 13 (immT S_Print) (pickT 18 (immT S_rsame) (pickT 16 (immT S_parse) noneT))
theorem cTPd_det [Syms] : cTPd.det Try.prog := pickT_imm Print_ok (pickT_imm rsame_ok (pickT_imm parse_ok noneT_det))
abbrev cTP : CallT := pickT 12 (immT S_known6) (pickT 14 (immT S_make) (pickT 19 (immT S_pPrint) (pickT 16 (immT S_parse) (pickT 13 (immT S_Print) (pickT 18 (immT S_rsame) noneT)))))
theorem cTP_ok [Syms] : cTP.ok Try.prog := pickT_imm_ok known6_ok (pickT_imm_ok make_ok' (pickT_imm_ok pPrint_ok (pickT_imm_ok parse_ok (pickT_imm_ok Print_ok (pickT_imm_ok rsame_ok noneT_ok)))))
theorem lprints_t [Syms] (ns : List Int) (hn : ns.length ≤ 9223372036854775807) :
    fnT cTPd cTP (fnTab fns) (tyTab tys) (plTab plt) 100 10 [vI ns] [] 0 (fun v H _ => v = .bool true ∧ H = []) := by
  repeat' (first | (refine And.intro ?_ ?_) | (intro h; (try first | replace h := of_decide_eq_true h | replace h := of_decide_eq_false h); (try simp only [sg] at h); (try simp only [sx, ↓reduceIte, Nat.reduceAdd, reduceCtorEq, Int.reduceLT, Int.reduceLE, Int.reduceSub, Nat.reduceEqDiff, Nat.reduceLT] at h); try exact nz h))
  all_goals (try exact cz)
  refine ⟨ns, rfl, hn, ?_⟩
  obtain ⟨t, hp⟩ := make_round ns
  have hml := make_len ns
  have hck := make_check ns
  have htl := hp.pr.len
  generalize makeF ns = s at *
  have htl : t.length ≤ 896 := by omega
  repeat' (first | (refine And.intro ?_ ?_) | (intro h; (try first | replace h := of_decide_eq_true h | replace h := of_decide_eq_false h); (try simp only [sg] at h); (try simp only [sx, ↓reduceIte, Nat.reduceAdd, reduceCtorEq, Int.reduceLT, Int.reduceLE, Int.reduceSub, Nat.reduceEqDiff, Nat.reduceLT] at h); try exact nz h))
  all_goals (try exact cz)
  refine ⟨s, 9, s.length, t, rfl, ⟨hp.pr.pr, by decide, hp.pr.ok, by omega⟩, ?_⟩
  repeat' (first | (refine And.intro ?_ ?_) | (intro h; (try first | replace h := of_decide_eq_true h | replace h := of_decide_eq_false h); (try simp only [sg] at h); (try simp only [sx, ↓reduceIte, Nat.reduceAdd, reduceCtorEq, Int.reduceLT, Int.reduceLE, Int.reduceSub, Nat.reduceEqDiff, Nat.reduceLT] at h); try exact nz h))
  all_goals (try exact cz)
  refine ⟨t, rfl, by omega, ?_⟩
  rw [hp.text rfl (by omega) hck]
  repeat' (first | (refine And.intro ?_ ?_) | (intro h; (try first | replace h := of_decide_eq_true h | replace h := of_decide_eq_false h); (try simp only [sg] at h); (try simp only [sx, ↓reduceIte, Nat.reduceAdd, reduceCtorEq, Int.reduceLT, Int.reduceLE, Int.reduceSub, Nat.reduceEqDiff, Nat.reduceLT] at h); try exact nz h))
  all_goals (try exact cz)
  refine ⟨s, 9, s.length, t, rfl, ⟨hp.pr.pr, by decide, hp.pr.ok, by omega⟩, ?_⟩
  have hx1 : eqb t t = true := by rw [eqb_eq]; exact decide_eq_true rfl
  repeat' (first | (refine And.intro ?_ ?_) | (intro h; (try first | replace h := of_decide_eq_true h | replace h := of_decide_eq_false h); (try simp only [sg, hx1] at h); (try simp only [sx, ↓reduceIte, Nat.reduceAdd, reduceCtorEq, Int.reduceLT, Int.reduceLE, Int.reduceSub, Nat.reduceEqDiff, Nat.reduceLT] at h); try exact nz h))
  all_goals (try exact cz)
  refine ⟨s, rfl, by omega, ?_⟩
  repeat' (first | (refine And.intro ?_ ?_) | (intro h; (try first | replace h := of_decide_eq_true h | replace h := of_decide_eq_false h); (try simp only [sg, hx1] at h); (try simp only [sx, ↓reduceIte, Nat.reduceAdd, reduceCtorEq, Int.reduceLT, Int.reduceLE, Int.reduceSub, Nat.reduceEqDiff, Nat.reduceLT] at h); try exact nz h))
  all_goals (try exact cz)
  all_goals exact ⟨_, reb_flat [2] rfl, _, rfl, rfl, rfl⟩
theorem lprints_sem [Syms] (ns : List Int) (hn : ns.length ≤ 9223372036854775807) :
    FnSem Try.prog 10 [vI ns] [] 0 (fun v H _ => v = .bool true ∧ H = []) :=
  fnT_sound tys_ok fns_ok cTPd_det cTP_ok mixed (lprints_t ns hn)
end Go.Proofs.Ytjffmehcbaechaa
