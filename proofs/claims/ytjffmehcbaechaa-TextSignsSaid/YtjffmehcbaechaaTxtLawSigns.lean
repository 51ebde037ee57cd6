/-
  The statement TextSigns: its walk.
-/
import Derived.Test.YtjffmehcbaechaaTxtPrint
import Derived.Test.YtjffmehcbaechaaTxtFoT
import Derived.Test.YtjffmehcbaechaaTxtKnown
import Derived.Test.YtjffmehcbaechaaSchMakeS
set_option linter.unusedVariables false
set_option linter.unusedSimpArgs false
namespace Go.Proofs.Ytjffmehcbaechaa
open Go Go.Av
set_option maxRecDepth 100000
set_option maxHeartbeats 4000000
theorem wgo_bad {c : UInt8} (h1 : signF c = false) (h2 : markF c = false) (h3 : blankF c = false) : ∀ (s : List UInt8) (cur : Wd) (acc : List Wd), c ∈ s → wgo s cur acc = none
  | [], _, _, h => nomatch h
  | d :: r, cur, acc, h => by
    rw [wgo]
    rcases List.mem_cons.1 h with rfl | h
    · rw [if_neg (by rw [h1]; decide), if_neg (by rw [h2]; decide), if_neg (by rw [h3]; decide)]
    · split
      · exact wgo_bad h1 h2 h3 r _ _ h
      · split
        · exact wgo_bad h1 h2 h3 r _ _ h
        · split
          · exact wgo_bad h1 h2 h3 r _ _ h
          · rfl
theorem sgPos {s : List Fd} {t : List UInt8} (h : PrS s t) : t.length ≤ 64 * s.length := h.len
def fineI (c : Int) : Prop := (97 ≤ c ∧ c ≤ 122) ∨ (48 ≤ c ∧ c ≤ 57) ∨ c = 95 ∨ c = 123 ∨ c = 125 ∨ c = 59 ∨ c = 32 ∨ c = 9 ∨ c = 10
theorem sg_bad {c : Int} (h0 : 0 ≤ c) (h1 : c ≤ 255) (h : ¬ fineI c) : signF (UInt8.ofNat c.toNat) = false ∧ markF (UInt8.ofNat c.toNat) = false ∧ blankF (UInt8.ofNat c.toNat) = false := by
  have e : (UInt8.ofNat c.toNat).toNat = c.toNat := by rw [UInt8.toNat_ofNat']; omega
  unfold fineI at h
  refine ⟨?_, ?_, ?_⟩
  · rw [Bool.eq_false_iff]
    intro hs
    rw [signF, letterF, e] at hs
    simp only [Bool.or_eq_true, Bool.and_eq_true, decide_eq_true_eq] at hs
    omega
  · rw [Bool.eq_false_iff]
    intro hs
    rw [markF, e] at hs
    simp only [Bool.or_eq_true, decide_eq_true_eq] at hs
    omega
  · rw [Bool.eq_false_iff]
    intro hs
    rw [blankF, e] at hs
    simp only [Bool.or_eq_true, decide_eq_true_eq] at hs
    omega
theorem sg_parse {u : List UInt8} {c : UInt8} (hc : signF c = false ∧ markF c = false ∧ blankF c = false) (hm : c ∈ u) (hl : u.length ≤ 4000) : parseF u = ([], 6) := by
  have hw : wordsF u = none := wgo_bad hc.1 hc.2.1 hc.2.2 u [] [] hm
  rw [parseF, if_neg (by omega), hw]
abbrev cTSd : CallT := pickT 16 (immT S_parse) noneT
theorem cTSd_det [Syms] : cTSd.det Try.prog := pickT_imm parse_ok noneT_det
abbrev cTS : CallT := pickT 12 (immT S_known6) (pickT 14 (immT S_make) (pickT 13 (immT S_Print) (pickT 15 (valT G_within6) (pickT 16 (immT S_parse) noneT))))
theorem cTS_ok [Syms] : cTS.ok Try.prog := pickT_imm_ok known6_ok (pickT_imm_ok make_ok' (pickT_imm_ok Print_ok (pickT_val_ok within6_ok (pickT_imm_ok parse_ok noneT_ok))))
noncomputable abbrev plTS : Nat → Nat → Pl := plAdd [(9, 5)] (plTab plt)
theorem lsigns_t [Syms] (ns : List Int) (at' c : Int) (hn : ns.length ≤ 9223372036854775807) (h0 : 0 ≤ c) (h1 : c ≤ 255) :
    fnT cTSd cTS (fnTab fns) (tyTab tys) plTS 100 9 [vI ns, .int .i64 at', .int .u8 c] [] 0 (fun v H _ => v = .bool true ∧ H = []) := by
  repeat' (first | (refine And.intro ?_ ?_) | (intro h; (try first | replace h := of_decide_eq_true h | replace h := of_decide_eq_false h); (try simp only [sg] at h); (try simp only [sx, ↓reduceIte, Nat.reduceAdd, reduceCtorEq, Int.reduceLT, Int.reduceLE, Int.reduceSub, Nat.reduceEqDiff, Nat.reduceLT] at h); try exact nz h))
  all_goals (try exact cz)
  refine ⟨ns, rfl, hn, ?_⟩
  obtain ⟨t, hp⟩ := make_print ns
  have hml := make_len ns
  have htl := hp.len
  generalize makeF ns = s at *
  repeat' (first | (refine And.intro ?_ ?_) | (intro h; (try first | replace h := of_decide_eq_true h | replace h := of_decide_eq_false h); (try simp only [sg] at h); (try simp only [sx, ↓reduceIte, Nat.reduceAdd, reduceCtorEq, Int.reduceLT, Int.reduceLE, Int.reduceSub, Nat.reduceEqDiff, Nat.reduceLT] at h); try exact nz h))
  all_goals (try exact cz)
  refine ⟨s, 9, s.length, t, rfl, ⟨hp.pr, by decide, hp.ok, by omega⟩, ?_⟩
  have htl : t.length ≤ 896 := by omega
  clear hp
  repeat' (first | (refine And.intro ?_ ?_) | (intro h; (try first | replace h := of_decide_eq_true h | replace h := of_decide_eq_false h); (try simp only [sg] at h); (try simp only [sx, ↓reduceIte, Nat.reduceAdd, reduceCtorEq, Int.reduceLT, Int.reduceLE, Int.reduceSub, Nat.reduceEqDiff, Nat.reduceLT] at h); try exact nz h))
  all_goals (try exact cz)
  refine ⟨at', (t.length : Int) + 1, rfl, ⟨by omega, by omega⟩, ?_⟩
  obtain ⟨hw1, hw2⟩ := wi_range (a := at') (n := (t.length : Int) + 1) (by omega)
  obtain ⟨q, hq⟩ := Int.eq_ofNat_of_zero_le hw1
  rw [hq] at hw2 ⊢
  clear hw1 hq
  have hq2 : q ≤ t.length := by omega
  by_cases hf : fineI c
  · have hf2 := hf
    unfold fineI at hf2
    repeat' (first | (refine And.intro ?_ ?_) | (intro h; (try first | replace h := of_decide_eq_true h | replace h := of_decide_eq_false h); (try simp only [sg] at h); (try simp only [sx, ↓reduceIte, Nat.reduceAdd, reduceCtorEq, Int.reduceLT, Int.reduceLE, Int.reduceSub, Nat.reduceEqDiff, Nat.reduceLT] at h); try exact nz h))
    all_goals (try exact cz)
    all_goals
      refine ⟨⟨[(7, .str t), (8, .int .i64 q), (2, .int .u8 c), (9, .bool true)], [], 0⟩, reb_num [] (by first | rfl | kernel_rfl) ⟨.refl _, .refl _, .refl _, wk_bool ?_, trivial⟩ trivial, ?_⟩
    all_goals (try (first | rfl | (show decide _ = _; exact decide_eq_true (by omega))))
    all_goals
      repeat' (first | (refine And.intro ?_ ?_) | (intro h; (try first | replace h := of_decide_eq_true h | replace h := of_decide_eq_false h); (try simp only [sg] at h); (try simp only [sx, ↓reduceIte, Nat.reduceAdd, reduceCtorEq, Int.reduceLT, Int.reduceLE, Int.reduceSub, Nat.reduceEqDiff, Nat.reduceLT] at h); try exact nz h))
      all_goals (try exact cz)
    all_goals exact ⟨_, reb_flat [6] rfl, _, rfl, rfl, rfl⟩
  · have hf2 := hf
    unfold fineI at hf2
    have hbad := sg_bad h0 h1 hf
    repeat' (first | (refine And.intro ?_ ?_) | (intro h; (try first | replace h := of_decide_eq_true h | replace h := of_decide_eq_false h); (try simp only [sg] at h); (try simp only [sx, ↓reduceIte, Nat.reduceAdd, reduceCtorEq, Int.reduceLT, Int.reduceLE, Int.reduceSub, Nat.reduceEqDiff, Nat.reduceLT] at h); try exact nz h))
    all_goals (try exact cz)
    all_goals
      refine ⟨⟨[(7, .str t), (8, .int .i64 q), (2, .int .u8 c), (9, .bool false)], [], 0⟩, reb_num [] (by first | rfl | kernel_rfl) ⟨.refl _, .refl _, .refl _, wk_bool ?_, trivial⟩ trivial, ?_⟩
    all_goals (try (first | rfl | (show decide _ = _; exact decide_eq_false (by omega))))
    all_goals
      obtain ⟨U, hU⟩ : ∃ U, List.take (q - 0) (List.drop 0 t) ++ [UInt8.ofNat c.toNat] ++ List.take (t.length - q) (List.drop q t) = U := ⟨_, rfl⟩
      have hUl : U.length ≤ 4000 := by
        rw [← hU]
        simp only [List.length_append, List.length_take, List.length_drop, List.length_singleton]
        omega
      have hp := sg_parse hbad (u := U) (by rw [← hU]; simp) hUl
      have hl1 : (List.take (q - 0) (List.drop 0 t)).length + 1 ≤ 9223372036854775807 := by
        simp only [List.length_take, List.length_drop]; omega
      have hl2 : (List.take (q - 0) (List.drop 0 t) ++ [UInt8.ofNat c.toNat]).length + (List.take (t.length - q) (List.drop q t)).length ≤ 9223372036854775807 := by
        simp only [List.length_append, List.length_take, List.length_drop, List.length_singleton]; omega
      repeat' (first | (refine And.intro ?_ ?_) | (intro h; (try first | replace h := of_decide_eq_true h | replace h := of_decide_eq_false h); (try simp only [sg] at h); (try simp only [sx, ↓reduceIte, Nat.reduceAdd, reduceCtorEq, Int.reduceLT, Int.reduceLE, Int.reduceSub, Nat.reduceEqDiff, Nat.reduceLT] at h); try exact nz h))
      all_goals (try exact cz)
      all_goals (try ((with_reducible show (_ : Nat) ≤ (_ : Nat)); first | exact hl1 | exact hl2))
      refine ⟨U, congrArg (fun x => [AVal.str x]) hU, by omega, ?_⟩
      rw [hp]
      repeat' (first | (refine And.intro ?_ ?_) | (intro h; (try first | replace h := of_decide_eq_true h | replace h := of_decide_eq_false h); (try simp only [sg] at h); (try simp only [sx, ↓reduceIte, Nat.reduceAdd, reduceCtorEq, Int.reduceLT, Int.reduceLE, Int.reduceSub, Nat.reduceEqDiff, Nat.reduceLT] at h); try exact nz h))
      all_goals (try exact cz)
      exact ⟨_, reb_flat [6] rfl, _, rfl, rfl, rfl⟩
theorem wf8 {n : Int} (h : (Lit.int .u8 n).wf = true) : 0 ≤ n ∧ n ≤ 255 := by
  have h : decide (IntKind.min .u8 ≤ n ∧ n ≤ IntKind.max .u8) = true := by simpa [Lit.wf] using h
  exact of_decide_eq_true h
theorem lsigns_sem [Syms] (ns : List Int) (at' c : Int) (hn : ns.length ≤ 9223372036854775807) (h0 : 0 ≤ c) (h1 : c ≤ 255) :
    FnSem Try.prog 9 [vI ns, .int .i64 at', .int .u8 c] [] 0 (fun v H _ => v = .bool true ∧ H = []) :=
  fnT_sound tys_ok fns_ok cTSd_det cTS_ok mixed (lsigns_t ns at' c hn h0 h1)
end Go.Proofs.Ytjffmehcbaechaa
