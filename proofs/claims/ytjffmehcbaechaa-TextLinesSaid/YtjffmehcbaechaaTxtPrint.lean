/-
  The document's 'Print': a shape's text.
-/
import Derived.Test.YtjffmehcbaechaaTxtPrintP
import Derived.Test.YtjffmehcbaechaaSchFacts
import Derived.Test.YtjffmehcbaechaaTxtRNext
set_option linter.unusedVariables false
set_option linter.unusedSimpArgs false
namespace Go.Proofs.Ytjffmehcbaechaa
open Go Go.Av
set_option maxRecDepth 100000
set_option maxHeartbeats 4000000
theorem blanks_t [Syms] (d : Nat) (hd : d ≤ 1000) : fnT noneT noneT (fnTab fns) (tyTab tys) (plTab plt) 100 36 [.int .i64 d] [] 0 (fun v H _ => v = .str (blanksT d) ∧ H = []) := by
  repeat' (first | (refine And.intro ?_ ?_) | (intro h; (try first | replace h := of_decide_eq_true h | replace h := of_decide_eq_false h); (try simp only [sg] at h); (try simp only [sx, ↓reduceIte, Nat.reduceAdd, reduceCtorEq, Int.reduceLT, Int.reduceLE, Int.reduceSub, Nat.reduceEqDiff, Nat.reduceLT] at h); try exact nz h))
  all_goals (try exact cz)
  refine ⟨fun m st => ∃ i : Nat, (i ≤ d ∧ m = d - i) ∧ st = ⟨[(0, .int .i64 d), (3, .str (blanksT i)), (4, .int .i64 i)], [], 0⟩, ⟨_, ⟨[(0, .int .i64 d), (3, .str (blanksT 0)), (4, .int .i64 (0 : Nat))], [], 0⟩, reb_flat [0, 3, 4] rfl, 0, ⟨by omega, rfl⟩, rfl⟩, ?_⟩
  rintro m st ⟨i, ⟨hi, rfl⟩, rfl⟩
  have hbl : (blanksT i).length = 2 * i := by simp [blanksT]
  by_cases hin : i < d
  · repeat' (first | (refine And.intro ?_ ?_) | (intro h; (try first | replace h := of_decide_eq_true h | replace h := of_decide_eq_false h); (try simp only [sg] at h); (try simp only [sx, ↓reduceIte, Nat.reduceAdd, reduceCtorEq, Int.reduceLT, Int.reduceLE, Int.reduceSub, Nat.reduceEqDiff, Nat.reduceLT] at h); try exact nz h))
    all_goals (try exact cz)
    all_goals (try ((with_reducible show (_ : Nat) ≤ (_ : Nat)); (show (blanksT i).length + 2 ≤ _); omega))
    refine ⟨_, ⟨[(0, .int .i64 d), (3, .str (blanksT (i + 1))), (4, .int .i64 (i + 1 : Nat))], [], 0⟩, reb_num [] (by first | rfl | kernel_rfl) ⟨.refl _, wk_eq (by rw [blanksT_succ]; rfl), wk_int (by omega), trivial⟩ trivial, ⟨i + 1, ⟨by omega, rfl⟩, rfl⟩, by omega⟩
  · obtain rfl : i = d := by omega
    repeat' (first | (refine And.intro ?_ ?_) | (intro h; (try first | replace h := of_decide_eq_true h | replace h := of_decide_eq_false h); (try simp only [sg] at h); (try simp only [sx, ↓reduceIte, Nat.reduceAdd, reduceCtorEq, Int.reduceLT, Int.reduceLE, Int.reduceSub, Nat.reduceEqDiff, Nat.reduceLT] at h); try exact nz h))
    all_goals (try exact cz)
    exact ⟨_, reb_flat [2] rfl, _, rfl, rfl, rfl⟩
def S_blanks : SpecI := fun args K => ∃ d : Nat, args = [.int .i64 d] ∧ d ≤ 1000 ∧ K (.str (blanksT d))
theorem blanks_ok [Syms] : ImmOk Try.prog 36 S_blanks := by
  rintro args K ⟨d, rfl, h, hk⟩
  exact ⟨rfl, _, rfl, hk, fnI tys_ok fns_ok noneT_det noneT_ok mixed (blanks_t d h)⟩
def S_print (N : Nat) : SpecI := fun args K => ∃ (s : List Fd) (n i d j : Nat) (t : List UInt8), args = [vF s, .int .i64 i, .int .i64 d] ∧ (PrT s n 1 i d t j ∧ n < N ∧ d + n ≤ 900 ∧ PrOk s ∧ t.length ≤ 1000000) ∧ K (.tup [.str t, .int .i64 j])
abbrev cBl : CallT := pickT 36 (immT S_blanks) noneT
theorem cBl_det [Syms] : cBl.det Try.prog := pickT_imm blanks_ok noneT_det
abbrev cPr (N : Nat) : CallT := pickT 36 (immT S_blanks) (pickT 20 (immT (S_print N)) noneT)
theorem cPr_ok [Syms] {N : Nat} (h : ImmOk Try.prog 20 (S_print N)) : (cPr N).ok Try.prog := pickT_imm_ok blanks_ok (pickT_imm_ok h noneT_ok)
noncomputable abbrev plPr : Nat → Nat → Pl := plAdd [(20, 1), (20, 5)] (plTab plt)
abbrev rwR : List (List AVal) := kwReps.map fun w => [.str w]
abbrev rwK : List (List AVal) := kwKinds.map fun w => [.str w]
theorem rwR_at {r : Int} (h0 : 0 ≤ r) (h2 : r ≤ 2) : (rwR.getD r.toNat []).getD 0 .any = .str (kwReps.getD r.toNat []) := by
  rcases (show r = 0 ∨ r = 1 ∨ r = 2 by omega) with rfl | rfl | rfl <;> rfl
theorem rwK_at {k : Int} (h0 : 0 ≤ k) (h4 : k ≤ 4) : (rwK.getD k.toNat []).getD 0 .any = .str (kwKinds.getD k.toNat []) := by
  rcases (show k = 0 ∨ k = 1 ∨ k = 2 ∨ k = 3 ∨ k = 4 by omega) with rfl | rfl | rfl | rfl | rfl <;> rfl
theorem kwR_len {r : Int} (h0 : 0 ≤ r) (h2 : r ≤ 2) : (kwReps.getD r.toNat []).length = 8 := by
  rcases (show r = 0 ∨ r = 1 ∨ r = 2 by omega) with rfl | rfl | rfl <;> rfl
theorem kwK_len {k : Int} (h0 : 0 ≤ k) (h4 : k ≤ 4) : (kwKinds.getD k.toNat []).length ≤ 5 := by
  rcases (show k = 0 ∨ k = 1 ∨ k = 2 ∨ k = 3 ∨ k = 4 by omega) with rfl | rfl | rfl | rfl | rfl <;> decide
theorem frontT_len {d : Nat} {f : Fd} (h0 : 0 ≤ f.rep) (h2 : f.rep ≤ 2) (h3 : 0 ≤ f.kind) (h4 : f.kind ≤ 4) : (frontT d f).length ≤ 2 * d + 15 := by
  unfold frontT
  split
  · show 8 ≤ _; omega
  · have h1 := kwR_len h0 h2
    have h2 := kwK_len h3 h4
    have hb : (blanksT d).length = 2 * d := by simp [blanksT]
    simp only [List.length_append, List.length_cons, List.length_nil]
    omega
def prS (s : List Fd) (d : Nat) (nm : List UInt8) (r : Int) (m : Nat) (out : List UInt8) (at' kk : Nat) : St := ⟨[(0, vF s), (2, .int .i64 d), (8, .ptr 0 0 0), (9, .str out), (10, .int .i64 at'), (11, .int .i64 kk)], [(0, some (.cells [[.str nm, .int .i64 r, .int .i64 0, .int .i64 m]] false))], 1⟩
theorem print_t [Syms] (N : Nat) (s : List Fd) (n i d j : Nat) (t : List UInt8) (h : PrT s n 1 i d t j) (hn : n < N + 1) (hdn : d + n ≤ 900) (hs : PrOk s) (htl : t.length ≤ 1000000) :
    fnT cBl (cPr N) (fnTab fns) (tyTab tys) plPr 100 20 [vF s, .int .i64 i, .int .i64 d] [] 0 (fun v H _ => v = .tup [.str t, .int .i64 j] ∧ H = []) := by
  obtain ⟨hi, hone⟩ := h.one
  have hsl := hs.len
  have hr := hs.rep i hi
  have hk := hs.kind i hi
  generalize hf : s.getD i default = f at *
  obtain ⟨nm, r, k, m⟩ := f
  simp only at hr hk hone
  have hfl := frontT_len (d := d) (f := ⟨nm, r, k, m⟩) hr.1 hr.2 hk.1 hk.2
  have hnl : nm.length ≤ 1000000 := by
    rcases hone with ⟨_, rfl, _⟩ | ⟨_, _, _, _, _, _, _, rfl⟩
    · simp only [leafT, List.length_append] at htl; omega
    · simp only [openT, List.length_append] at htl; omega
  repeat' (first | (refine And.intro ?_ ?_) | (intro h; (try first | replace h := of_decide_eq_true h | replace h := of_decide_eq_false h); (try simp only [sg] at h); (try simp only [sx, ↓reduceIte, Nat.reduceAdd, reduceCtorEq, Int.reduceLT, Int.reduceLE, Int.reduceSub, Nat.reduceEqDiff, Nat.reduceLT] at h); try exact nz h))
  all_goals (try exact cz)
  refine ⟨⟨[(0, vF s), (1, .int .i64 i), (2, .int .i64 d), (8, .ptr 0 0 0)], [(0, some (.cells [[.str nm, .int .i64 r, .int .i64 k, .int .i64 m]] false))], 1⟩, reb_num [0] (by first | rfl | kernel_rfl) ⟨.refl _, .refl _, .refl _, .refl _, trivial⟩ ⟨⟨by decide, _, rfl, ?_⟩, trivial⟩, ?_⟩
  · show WkB (.cells [encF (s.getD i default)] false) (.cells [[.str nm, .int .i64 r, .int .i64 k, .int .i64 m]] false)
    rw [hf]
    exact .refl _
  have hbl : (blanksT d).length = 2 * d := by simp [blanksT]
  by_cases hd : d = 0
  · repeat' (first | (refine And.intro ?_ ?_) | (intro h; (try first | replace h := of_decide_eq_true h | replace h := of_decide_eq_false h); (try simp only [sg] at h); (try simp only [sx, ↓reduceIte, Nat.reduceAdd, reduceCtorEq, Int.reduceLT, Int.reduceLE, Int.reduceSub, Nat.reduceEqDiff, Nat.reduceLT] at h); try exact nz h))
    all_goals (try exact cz)
    all_goals (try ((with_reducible show (_ : Nat) ≤ (_ : Nat)); (show 8 + nm.length ≤ _); omega))
    refine ⟨⟨[(0, vF s), (1, .int .i64 i), (2, .int .i64 d), (8, .ptr 0 0 0), (9, .str (frontT d ⟨nm, r, k, m⟩ ++ nm))], [(0, some (.cells [[.str nm, .int .i64 r, .int .i64 k, .int .i64 m]] false))], 1⟩, reb_num [0] (by first | rfl | kernel_rfl) ⟨.refl _, .refl _, .refl _, .refl _, wk_eq ?_, trivial⟩ ⟨⟨by decide, _, rfl, .refl _⟩, trivial⟩, ?_⟩
    · show AVal.str (kwMsg ++ [32] ++ nm) = AVal.str (frontT d ⟨nm, r, k, m⟩ ++ nm)
      rw [frontT, if_pos hd]
    have hfl2 : (frontT d ⟨nm, r, k, m⟩ ++ nm).length ≤ 2 * d + 15 + nm.length := by rw [List.length_append]; omega
    rcases hone with ⟨hk0, rfl, rfl⟩ | ⟨n', m', t1, hk0, rfl, hm, h1, rfl⟩
    · have hle : (frontT d ⟨nm, r, k, m⟩ ++ nm).length + 2 ≤ 9223372036854775807 := by omega
      repeat' (first | (refine And.intro ?_ ?_) | (intro h; (try first | replace h := of_decide_eq_true h | replace h := of_decide_eq_false h); (try simp only [sg] at h); (try simp only [sx, ↓reduceIte, Nat.reduceAdd, reduceCtorEq, Int.reduceLT, Int.reduceLE, Int.reduceSub, Nat.reduceEqDiff, Nat.reduceLT] at h); try exact nz h))
      all_goals (try exact cz)
      all_goals (try ((with_reducible show (_ : Nat) ≤ (_ : Nat)); exact hle))
      exact ⟨_, reb_flat [6, 7] rfl, _, rfl, rfl, rfl⟩
    · have hle : (frontT d ⟨nm, r, k, m⟩ ++ nm).length + 3 ≤ 9223372036854775807 := by omega
      subst hk0
      subst hm
      repeat' (first | (refine And.intro ?_ ?_) | (intro h; (try first | replace h := of_decide_eq_true h | replace h := of_decide_eq_false h); (try simp only [sg] at h); (try simp only [sx, ↓reduceIte, Nat.reduceAdd, reduceCtorEq, Int.reduceLT, Int.reduceLE, Int.reduceSub, Nat.reduceEqDiff, Nat.reduceLT] at h); try exact nz h))
      all_goals (try exact cz)
      all_goals (try ((with_reducible show (_ : Nat) ≤ (_ : Nat)); exact hle))
      have hcnt := h1.cnt
      have hm1000 : m' ≤ 1000 := by have := hcnt.2 hi; omega
      refine ⟨fun mm st => ∃ (kk at' : Nat) (dn rs : List UInt8), (kk ≤ m' ∧ mm = m' - kk ∧ PrT s n' (m' - kk) at' (d + 1) rs j ∧ t1 = dn ++ rs) ∧ st = prS s d nm r m' (openT d ⟨nm, r, 0, m'⟩ ++ dn) at' kk, ⟨_, prS s d nm r m' (openT d ⟨nm, r, 0, m'⟩ ++ []) (i + 1) 0, reb_num [0] (by first | rfl | kernel_rfl) ⟨.refl _, .refl _, .refl _, wk_eq ?_, wk_int (by omega), .refl _, trivial⟩ ⟨⟨by decide, _, rfl, .refl _⟩, trivial⟩, 0, i + 1, [], t1, ⟨by omega, rfl, h1, rfl⟩, rfl⟩, ?_⟩
      · rw [List.append_nil]; rfl
      rintro mm st ⟨kk, at', dn, rs, ⟨hkk, rfl, hpr, htd⟩, rfl⟩
      have hol : (openT d ⟨nm, r, 0, m'⟩ ++ t1 ++ closeT d).length ≤ 1000000 := htl
      have hcl : (closeT d).length = 2 * d + 2 := by simp [closeT, blanksT]
      rw [htd] at hol
      simp only [List.length_append] at hol
      generalize openT d ⟨nm, r, 0, m'⟩ = op at *
      by_cases hin : kk < m'
      · obtain ⟨q, hq⟩ : ∃ q, m' - kk = q + 1 := ⟨m' - kk - 1, by omega⟩
        rw [hq] at hpr
        obtain ⟨tp, ip, tr, hp1, hp2, hrs⟩ := hpr.split
        subst hrs
        simp only [List.length_append] at hol
        have hatl : at' < s.length := hp1.one.1
        repeat' (first | (refine And.intro ?_ ?_) | (intro h; (try first | replace h := of_decide_eq_true h | replace h := of_decide_eq_false h); (try simp only [sg] at h); (try simp only [sx, ↓reduceIte, Nat.reduceAdd, reduceCtorEq, Int.reduceLT, Int.reduceLE, Int.reduceSub, Nat.reduceEqDiff, Nat.reduceLT] at h); try exact nz h))
        all_goals (try exact cz)
        refine ⟨s, n', at', d + 1, ip, tp, ?_, ⟨hp1, by omega, by omega, hs, by omega⟩, ?_⟩
        · rfl
        have hle : (op ++ dn).length + tp.length ≤ 9223372036854775807 := by rw [List.length_append]; omega
        repeat' (first | (refine And.intro ?_ ?_) | (intro h; (try first | replace h := of_decide_eq_true h | replace h := of_decide_eq_false h); (try simp only [sg] at h); (try simp only [sx, ↓reduceIte, Nat.reduceAdd, reduceCtorEq, Int.reduceLT, Int.reduceLE, Int.reduceSub, Nat.reduceEqDiff, Nat.reduceLT] at h); try exact nz h))
        all_goals (try exact cz)
        all_goals (try ((with_reducible show (_ : Nat) ≤ (_ : Nat)); exact hle))
        refine ⟨_, prS s d nm r m' (op ++ (dn ++ tp)) ip (kk + 1), reb_num [0] (by first | rfl | kernel_rfl) ⟨.refl _, .refl _, .refl _, wk_eq ?_, .refl _, wk_int (by omega), trivial⟩ ⟨⟨by decide, _, rfl, .refl _⟩, trivial⟩, ⟨kk + 1, ip, dn ++ tp, tr, ⟨by omega, rfl, ?_, ?_⟩, rfl⟩, by omega⟩
        · rw [← List.append_assoc]; rfl
        · rw [show m' - (kk + 1) = q by omega]; exact hp2
        · rw [htd, List.append_assoc]
      · obtain rfl : kk = m' := by omega
        rw [Nat.sub_self] at hpr
        cases hpr
        have hbl2 : (op ++ dn).length + (blanksT d).length ≤ 9223372036854775807 := by rw [List.length_append]; omega
        have hbl3 : (op ++ dn ++ blanksT d).length + 2 ≤ 9223372036854775807 := by simp only [List.length_append]; omega
        repeat' (first | (refine And.intro ?_ ?_) | (intro h; (try first | replace h := of_decide_eq_true h | replace h := of_decide_eq_false h); (try simp only [sg] at h); (try simp only [sx, ↓reduceIte, Nat.reduceAdd, reduceCtorEq, Int.reduceLT, Int.reduceLE, Int.reduceSub, Nat.reduceEqDiff, Nat.reduceLT] at h); try exact nz h))
        all_goals (try exact cz)
        refine ⟨d, rfl, by omega, ?_⟩
        repeat' (first | (refine And.intro ?_ ?_) | (intro h; (try first | replace h := of_decide_eq_true h | replace h := of_decide_eq_false h); (try simp only [sg] at h); (try simp only [sx, ↓reduceIte, Nat.reduceAdd, reduceCtorEq, Int.reduceLT, Int.reduceLE, Int.reduceSub, Nat.reduceEqDiff, Nat.reduceLT] at h); try exact nz h))
        all_goals (try exact cz)
        all_goals (try ((with_reducible show (_ : Nat) ≤ (_ : Nat)); first | exact hbl2 | exact hbl3))
        refine ⟨_, reb_flat [6, 7] rfl, _, rfl, ?_, rfl⟩
        have e : op ++ t1 ++ closeT d = op ++ dn ++ blanksT d ++ [125, 10] := by rw [htd, List.append_nil, closeT]; simp only [List.append_assoc]
        rw [e]; rfl
  · have hR : (rwR.getD (0 + r.toNat) []).getD 0 .any = .str (kwReps.getD r.toNat []) := by rw [Nat.zero_add]; exact rwR_at hr.1 hr.2
    have hK : (rwK.getD (0 + k.toNat) []).getD 0 .any = .str (kwKinds.getD k.toNat []) := by rw [Nat.zero_add]; exact rwK_at hk.1 hk.2
    have hRl := kwR_len hr.1 hr.2
    have hKl := kwK_len hk.1 hk.2
    have hX : asS ((rwR.getD (0 + r.toNat) []).getD 0 .any) = kwReps.getD r.toNat [] := by rw [hR]; rfl
    have hY : asS ((rwK.getD (0 + k.toNat) []).getD 0 .any) = kwKinds.getD k.toNat [] := by rw [hK]; rfl
    repeat' (first | (refine And.intro ?_ ?_) | (intro h; (try first | replace h := of_decide_eq_true h | replace h := of_decide_eq_false h); (try simp only [sg] at h); (try simp only [sx, ↓reduceIte, Nat.reduceAdd, reduceCtorEq, Int.reduceLT, Int.reduceLE, Int.reduceSub, Nat.reduceEqDiff, Nat.reduceLT] at h); try exact nz h))
    all_goals (try exact cz)
    refine ⟨d, rfl, by omega, ?_⟩
    repeat' (first | (refine And.intro ?_ ?_) | (intro h; (try first | replace h := of_decide_eq_true h | replace h := of_decide_eq_false h); (try simp only [sg] at h); (try simp only [sx, ↓reduceIte, Nat.reduceAdd, reduceCtorEq, Int.reduceLT, Int.reduceLE, Int.reduceSub, Nat.reduceEqDiff, Nat.reduceLT] at h); try exact nz h))
    all_goals (try exact cz)
    all_goals (try ((with_reducible show isC _ _ _ = true); first | (show isC _ _ ((rwR.getD (0 + r.toNat) []).getD 0 .any) = true; rw [hR]; rfl) | (show isC _ _ ((rwK.getD (0 + k.toNat) []).getD 0 .any) = true; rw [hK]; rfl)))
    · show (blanksT d).length + (asS ((rwR.getD (0 + r.toNat) []).getD 0 .any)).length ≤ _
      rw [hX]
      first | omega | (simp only [List.length_append, List.length_cons, List.length_nil]; omega)
    · show (blanksT d ++ asS ((rwR.getD (0 + r.toNat) []).getD 0 .any)).length + 1 ≤ _
      rw [hX]
      first | omega | (simp only [List.length_append, List.length_cons, List.length_nil]; omega)
    · show (blanksT d ++ asS ((rwR.getD (0 + r.toNat) []).getD 0 .any) ++ [32]).length + (asS ((rwK.getD (0 + k.toNat) []).getD 0 .any)).length ≤ _
      rw [hX, hY]
      simp only [List.length_append, List.length_cons, List.length_nil]
      omega
    · show (blanksT d ++ asS ((rwR.getD (0 + r.toNat) []).getD 0 .any) ++ [32] ++ asS ((rwK.getD (0 + k.toNat) []).getD 0 .any)).length + 1 ≤ _
      rw [hX, hY]
      simp only [List.length_append, List.length_cons, List.length_nil]
      omega
    · show (blanksT d ++ asS ((rwR.getD (0 + r.toNat) []).getD 0 .any) ++ [32] ++ asS ((rwK.getD (0 + k.toNat) []).getD 0 .any) ++ [32]).length + nm.length ≤ _
      rw [hX, hY]
      simp only [List.length_append, List.length_cons, List.length_nil]
      omega
    refine ⟨⟨[(0, vF s), (1, .int .i64 i), (2, .int .i64 d), (8, .ptr 0 0 0), (9, .str (frontT d ⟨nm, r, k, m⟩ ++ nm))], [(0, some (.cells [[.str nm, .int .i64 r, .int .i64 k, .int .i64 m]] false))], 1⟩, reb_num [0] (by first | rfl | kernel_rfl) ⟨.refl _, .refl _, .refl _, .refl _, wk_eq ?_, trivial⟩ ⟨⟨by decide, _, rfl, .refl _⟩, trivial⟩, ?_⟩
    · show AVal.str (blanksT d ++ asS ((rwR.getD (0 + r.toNat) []).getD 0 .any) ++ [32] ++ asS ((rwK.getD (0 + k.toNat) []).getD 0 .any) ++ [32] ++ nm) = AVal.str (frontT d ⟨nm, r, k, m⟩ ++ nm)
      rw [hX, hY, frontT, if_neg hd]
    have hfl2 : (frontT d ⟨nm, r, k, m⟩ ++ nm).length ≤ 2 * d + 15 + nm.length := by rw [List.length_append]; omega
    rcases hone with ⟨hk0, rfl, rfl⟩ | ⟨n', m', t1, hk0, rfl, hm, h1, rfl⟩
    · have hle : (frontT d ⟨nm, r, k, m⟩ ++ nm).length + 2 ≤ 9223372036854775807 := by omega
      repeat' (first | (refine And.intro ?_ ?_) | (intro h; (try first | replace h := of_decide_eq_true h | replace h := of_decide_eq_false h); (try simp only [sg] at h); (try simp only [sx, ↓reduceIte, Nat.reduceAdd, reduceCtorEq, Int.reduceLT, Int.reduceLE, Int.reduceSub, Nat.reduceEqDiff, Nat.reduceLT] at h); try exact nz h))
      all_goals (try exact cz)
      all_goals (try ((with_reducible show (_ : Nat) ≤ (_ : Nat)); exact hle))
      exact ⟨_, reb_flat [6, 7] rfl, _, rfl, rfl, rfl⟩
    · have hle : (frontT d ⟨nm, r, k, m⟩ ++ nm).length + 3 ≤ 9223372036854775807 := by omega
      subst hk0
      subst hm
      repeat' (first | (refine And.intro ?_ ?_) | (intro h; (try first | replace h := of_decide_eq_true h | replace h := of_decide_eq_false h); (try simp only [sg] at h); (try simp only [sx, ↓reduceIte, Nat.reduceAdd, reduceCtorEq, Int.reduceLT, Int.reduceLE, Int.reduceSub, Nat.reduceEqDiff, Nat.reduceLT] at h); try exact nz h))
      all_goals (try exact cz)
      all_goals (try ((with_reducible show (_ : Nat) ≤ (_ : Nat)); exact hle))
      have hcnt := h1.cnt
      have hm1000 : m' ≤ 1000 := by have := hcnt.2 hi; omega
      refine ⟨fun mm st => ∃ (kk at' : Nat) (dn rs : List UInt8), (kk ≤ m' ∧ mm = m' - kk ∧ PrT s n' (m' - kk) at' (d + 1) rs j ∧ t1 = dn ++ rs) ∧ st = prS s d nm r m' (openT d ⟨nm, r, 0, m'⟩ ++ dn) at' kk, ⟨_, prS s d nm r m' (openT d ⟨nm, r, 0, m'⟩ ++ []) (i + 1) 0, reb_num [0] (by first | rfl | kernel_rfl) ⟨.refl _, .refl _, .refl _, wk_eq ?_, wk_int (by omega), .refl _, trivial⟩ ⟨⟨by decide, _, rfl, .refl _⟩, trivial⟩, 0, i + 1, [], t1, ⟨by omega, rfl, h1, rfl⟩, rfl⟩, ?_⟩
      · rw [List.append_nil]; rfl
      rintro mm st ⟨kk, at', dn, rs, ⟨hkk, rfl, hpr, htd⟩, rfl⟩
      have hol : (openT d ⟨nm, r, 0, m'⟩ ++ t1 ++ closeT d).length ≤ 1000000 := htl
      have hcl : (closeT d).length = 2 * d + 2 := by simp [closeT, blanksT]
      rw [htd] at hol
      simp only [List.length_append] at hol
      generalize openT d ⟨nm, r, 0, m'⟩ = op at *
      by_cases hin : kk < m'
      · obtain ⟨q, hq⟩ : ∃ q, m' - kk = q + 1 := ⟨m' - kk - 1, by omega⟩
        rw [hq] at hpr
        obtain ⟨tp, ip, tr, hp1, hp2, hrs⟩ := hpr.split
        subst hrs
        simp only [List.length_append] at hol
        have hatl : at' < s.length := hp1.one.1
        repeat' (first | (refine And.intro ?_ ?_) | (intro h; (try first | replace h := of_decide_eq_true h | replace h := of_decide_eq_false h); (try simp only [sg] at h); (try simp only [sx, ↓reduceIte, Nat.reduceAdd, reduceCtorEq, Int.reduceLT, Int.reduceLE, Int.reduceSub, Nat.reduceEqDiff, Nat.reduceLT] at h); try exact nz h))
        all_goals (try exact cz)
        refine ⟨s, n', at', d + 1, ip, tp, ?_, ⟨hp1, by omega, by omega, hs, by omega⟩, ?_⟩
        · rfl
        have hle : (op ++ dn).length + tp.length ≤ 9223372036854775807 := by rw [List.length_append]; omega
        repeat' (first | (refine And.intro ?_ ?_) | (intro h; (try first | replace h := of_decide_eq_true h | replace h := of_decide_eq_false h); (try simp only [sg] at h); (try simp only [sx, ↓reduceIte, Nat.reduceAdd, reduceCtorEq, Int.reduceLT, Int.reduceLE, Int.reduceSub, Nat.reduceEqDiff, Nat.reduceLT] at h); try exact nz h))
        all_goals (try exact cz)
        all_goals (try ((with_reducible show (_ : Nat) ≤ (_ : Nat)); exact hle))
        refine ⟨_, prS s d nm r m' (op ++ (dn ++ tp)) ip (kk + 1), reb_num [0] (by first | rfl | kernel_rfl) ⟨.refl _, .refl _, .refl _, wk_eq ?_, .refl _, wk_int (by omega), trivial⟩ ⟨⟨by decide, _, rfl, .refl _⟩, trivial⟩, ⟨kk + 1, ip, dn ++ tp, tr, ⟨by omega, rfl, ?_, ?_⟩, rfl⟩, by omega⟩
        · rw [← List.append_assoc]; rfl
        · rw [show m' - (kk + 1) = q by omega]; exact hp2
        · rw [htd, List.append_assoc]
      · obtain rfl : kk = m' := by omega
        rw [Nat.sub_self] at hpr
        cases hpr
        have hbl2 : (op ++ dn).length + (blanksT d).length ≤ 9223372036854775807 := by rw [List.length_append]; omega
        have hbl3 : (op ++ dn ++ blanksT d).length + 2 ≤ 9223372036854775807 := by simp only [List.length_append]; omega
        repeat' (first | (refine And.intro ?_ ?_) | (intro h; (try first | replace h := of_decide_eq_true h | replace h := of_decide_eq_false h); (try simp only [sg] at h); (try simp only [sx, ↓reduceIte, Nat.reduceAdd, reduceCtorEq, Int.reduceLT, Int.reduceLE, Int.reduceSub, Nat.reduceEqDiff, Nat.reduceLT] at h); try exact nz h))
        all_goals (try exact cz)
        refine ⟨d, rfl, by omega, ?_⟩
        repeat' (first | (refine And.intro ?_ ?_) | (intro h; (try first | replace h := of_decide_eq_true h | replace h := of_decide_eq_false h); (try simp only [sg] at h); (try simp only [sx, ↓reduceIte, Nat.reduceAdd, reduceCtorEq, Int.reduceLT, Int.reduceLE, Int.reduceSub, Nat.reduceEqDiff, Nat.reduceLT] at h); try exact nz h))
        all_goals (try exact cz)
        all_goals (try ((with_reducible show (_ : Nat) ≤ (_ : Nat)); first | exact hbl2 | exact hbl3))
        refine ⟨_, reb_flat [6, 7] rfl, _, rfl, ?_, rfl⟩
        have e : op ++ t1 ++ closeT d = op ++ dn ++ blanksT d ++ [125, 10] := by rw [htd, List.append_nil, closeT]; simp only [List.append_assoc]
        rw [e]; rfl
theorem print_ok [Syms] : ∀ N, ImmOk Try.prog 20 (S_print N)
  | 0 => by
    rintro args K ⟨s, n, i, d, j, t, _, ⟨_, h, _⟩, _⟩
    exact absurd h (Nat.not_lt_zero _)
  | N + 1 => by
    rintro args K ⟨s, n, i, d, j, t, rfl, ⟨h1, h2, h3, h4, h5⟩, hk⟩
    exact ⟨rfl, _, rfl, hk, fnI tys_ok fns_ok cBl_det (cPr_ok (print_ok N)) mixed (print_t N s n i d j t h1 h2 h3 h4 h5)⟩
def S_Print : SpecI := fun args K => ∃ (s : List Fd) (n j : Nat) (t : List UInt8), args = [vF s] ∧ (PrT s n 1 0 0 t j ∧ n ≤ 20 ∧ PrOk s ∧ t.length ≤ 1000000) ∧ K (.str t)
theorem Print_t [Syms] (s : List Fd) (n j : Nat) (t : List UInt8) (h : PrT s n 1 0 0 t j) (hn : n ≤ 20) (hs : PrOk s) (htl : t.length ≤ 1000000) :
    fnT noneT (pickT 20 (immT (S_print 21)) noneT) (fnTab fns) (tyTab tys) (plTab plt) 100 13 [vF s] [] 0 (fun v H _ => v = .str t ∧ H = []) := by
  repeat' (first | (refine And.intro ?_ ?_) | (intro h; (try first | replace h := of_decide_eq_true h | replace h := of_decide_eq_false h); (try simp only [sg] at h); (try simp only [sx, ↓reduceIte, Nat.reduceAdd, reduceCtorEq, Int.reduceLT, Int.reduceLE, Int.reduceSub, Nat.reduceEqDiff, Nat.reduceLT] at h); try exact nz h))
  all_goals (try exact cz)
  refine ⟨s, n, 0, 0, j, t, rfl, ⟨h, by omega, by omega, hs, htl⟩, ?_⟩
  repeat' (first | (refine And.intro ?_ ?_) | (intro h; (try first | replace h := of_decide_eq_true h | replace h := of_decide_eq_false h); (try simp only [sg] at h); (try simp only [sx, ↓reduceIte, Nat.reduceAdd, reduceCtorEq, Int.reduceLT, Int.reduceLE, Int.reduceSub, Nat.reduceEqDiff, Nat.reduceLT] at h); try exact nz h))
  all_goals (try exact cz)
  exact ⟨_, reb_flat [2] rfl, _, rfl, rfl, rfl⟩
theorem Print_ok [Syms] : ImmOk Try.prog 13 S_Print := by
  rintro args K ⟨s, n, j, t, rfl, ⟨h1, h2, h3, h4⟩, hk⟩
  exact ⟨rfl, _, rfl, hk, fnI tys_ok fns_ok noneT_det (pickT_imm_ok (print_ok 21) noneT_ok) mixed (Print_t s n j t h1 h2 h3 h4)⟩
end Go.Proofs.Ytjffmehcbaechaa
