/-
  The printer's 'field': a field, and all in it. The program's.
-/
import Derived.Test.YtjffmehcbaechaaTxtLine
import Derived.Test.YtjffmehcbaechaaTxtPrint
set_option linter.unusedVariables false
set_option linter.unusedSimpArgs false
namespace Go.Proofs.Ytjffmehcbaechaa
open Go Go.Av
set_option maxRecDepth 100000
set_option maxHeartbeats 4000000
theorem vF_tail (f : Fd) (tl : List Fd) : AVal.vt 4 tl.length (fun i => encF ((f :: tl).getD (1 + i) default)) = vF tl := by
  have : (fun i => encF ((f :: tl).getD (1 + i) default)) = fun i => encF (tl.getD i default) := by funext i; rw [Nat.add_comm]; rfl
  exact congrArg (fun g => AVal.vt 4 tl.length g) this
theorem dropF_cons {s : List Fd} {i : Nat} (h : i < s.length) : s.drop i = s.getD i default :: s.drop (i + 1) := by
  rw [List.drop_eq_getElem_cons h, List.getD_eq_getElem?_getD, List.getElem?_eq_getElem h]; rfl
theorem join2 (a b : Wd) : Lib.join [a, b] [32] = a ++ [32] ++ b := by simp [Lib.join, List.intercalate]
theorem join3 (a b c : Wd) : Lib.join [a, b, c] [32] = a ++ [32] ++ b ++ [32] ++ c := by simp [Lib.join, List.intercalate]
theorem join4 (a b c e : Wd) : Lib.join [a, b, c, e] [32] = a ++ [32] ++ b ++ [32] ++ c ++ [32] ++ e := by simp [Lib.join, List.intercalate]
theorem leaf0 (f : Fd) : lineT 0 [kwMsg, f.name ++ [59]] = leafT 0 f := by simp [lineT, leafT, frontT, join2, blanksT]
theorem open0 (f : Fd) : lineT 0 [kwMsg, f.name, [123]] = openT 0 f := by simp [lineT, openT, frontT, join3, blanksT]
theorem leaf1 {d : Nat} (f : Fd) (hd : d ≠ 0) : lineT d [kwReps.getD f.rep.toNat [], kwKinds.getD f.kind.toNat [], f.name ++ [59]] = leafT d f := by simp [lineT, leafT, frontT, if_neg hd, join3]
theorem open1 {d : Nat} (f : Fd) (hd : d ≠ 0) : lineT d [kwReps.getD f.rep.toNat [], kwKinds.getD f.kind.toNat [], f.name, [123]] = openT d f := by simp [lineT, openT, frontT, if_neg hd, join4]
theorem close1 (d : Nat) : lineT d [[125]] = closeT d := by simp [lineT, closeT, Lib.join_one]
/-- The end: the printer and its text alone. -/
theorem fin_fld [Syms] {N : Nat} {Post : AVal → Heap → Nat → Prop} {tl : List Fd} {out : List UInt8} {env : Env} {H : Heap} {nx K : Nat} (hP : Post (.tup []) (hPr 2 tl (some out)) 3)
    (hn : NumsOk 2 nx [0, 1, K] = true) (h0 : H.get 0 = some (.cells [[vF tl, .ptr 0 0 1, .tslice K out.length 1 5]] false)) (h2 : H.get K = some (.cells (bR out) false)) :
    ∃ s3, Reb 2 N ⟨env, H, nx⟩ s3 ∧ ∃ v, resultsA (tyTab tys) s3 [] = some v ∧ Post v s3.heap s3.nx :=
  ⟨⟨[], hPr 2 tl (some out), 3⟩, reb_num [0, 1, K] hn trivial ⟨⟨show 0 < 3 by decide, _, h0, wkO rfl rfl rfl rfl⟩, ⟨show 2 < 3 by decide, _, h2, wkB_same (bR_flat _)⟩, trivial⟩, _, rfl, hP⟩
def prL (rest : List Fd) (d : Nat) (nm : List UInt8) (r : Int) (m : Nat) (out : List UInt8) (kk : Nat) : St := ⟨[(0, .ptr 0 0 0), (1, .int .i64 d), (4, .ptr 2 0 0), (6, .int .i64 kk)], [(0, oB rest (.ptr 0 0 1) (.tslice 3 out.length 1 5)), (2, some (.cells [[.str nm, .int .i64 r, .int .i64 0, .int .i64 m]] false)), (3, some (.cells (bR out) false))], 4⟩
/-- The loop's head, out of any state. -/
theorem reb_prL [Syms] {N : Nat} {rest : List Fd} {d : Nat} {nm : List UInt8} {r : Int} {m : Nat} {out : List UInt8} {kk : Nat} {env : Env} {H : Heap} {nx K : Nat} (hn : NumsOk 2 nx [0, 1, 2, K] = true)
    (e0 : env.get 0 = .ptr 0 0 0) (e1 : env.get 1 = .int .i64 d) (e4 : env.get 4 = .ptr 2 0 0) (e6 : env.get 6 = .int .i64 kk)
    (h0 : H.get 0 = some (.cells [[vF rest, .ptr 0 0 1, .tslice K out.length 1 5]] false)) (h2 : H.get 2 = some (.cells [[.str nm, .int .i64 r, .int .i64 0, .int .i64 m]] false)) (h3 : H.get K = some (.cells (bR out) false)) : Reb 2 N ⟨env, H, nx⟩ (prL rest d nm r m out kk) :=
  reb_num [0, 1, 2, K] hn ⟨by rw [e0]; exact .refl _, by rw [e1]; exact .refl _, by rw [e4]; exact .refl _, by rw [e6]; exact .refl _, trivial⟩ ⟨⟨show 0 < 4 by decide, _, h0, wkO rfl rfl rfl rfl⟩, ⟨show 2 < 4 by decide, _, h2, .refl _⟩, ⟨show 3 < 4 by decide, _, h3, wkB_same (bR_flat _)⟩, trivial⟩
def oOk (d : Nat) (o : Option (List UInt8)) : Prop := (d = 0 ∧ o = none) ∨ (d ≠ 0 ∧ ∃ out, o = some out)
def S_fld (N : Nat) : SpecT := fun args H nx Post => ∃ (s : List Fd) (n i d j : Nat) (t : List UInt8) (o : Option (List UInt8)), args = [.ptr 0 0 0, .int .i64 d] ∧ H = hPr 1 (s.drop i) o ∧ nx = 2 ∧
  (PrT s n 1 i d t j ∧ n < N ∧ d + n ≤ 900 ∧ PrOk s ∧ (outO o).length + t.length ≤ 100000 ∧ oOk d o) ∧ Post (.tup []) (hPr 2 (s.drop j) (some (outO o ++ t))) 3
abbrev cFld (N : Nat) : CallT := pickT 41 (immT S_reps) (pickT 42 (immT S_kinds) (pickT 54 (immT S_word) (pickT 55 (specT S_line) (pickT 34 (specT (S_fld N)) noneT))))
theorem cFld_ok [Syms] {N : Nat} (h : (S_fld N).ok Try.prog 34) : (cFld N).ok Try.prog := pickT_imm_ok reps_ok (pickT_imm_ok kinds_ok (pickT_imm_ok word_ok (pickT_spec line_ok (pickT_spec h noneT_ok))))
noncomputable abbrev plFld : Nat → Nat → Pl := plAdd [(34, 2)] (plTab plt)
abbrev cFd0 : CallT := pickT 41 (immT S_reps) (pickT 42 (immT S_kinds) (pickT 54 (immT S_word) noneT))
theorem cFd0_det [Syms] : cFd0.det Try.prog := pickT_imm reps_ok (pickT_imm kinds_ok (pickT_imm word_ok noneT_det))
theorem wkN {ρ : Nat → Nat} {s : List Fd} {R : List (List AVal)} (h : R = [[vF s, .tagp 0 70, .tnils]]) (h0 : ρ 0 = 0) : WkB (.cells R false) ((Blk.cells [[vF s, .tagp 0 70, .tnils]] false).ren ρ) := by
  show WkB _ (.cells [[vF s, .tagp (ρ 0) 70, .tnils]] false)
  rw [h0, h]
  exact .refl _
theorem wkFd {ρ : Nat → Nat} {f : Fd} {R : List (List AVal)} (h : R = [encF f]) : WkB (.cells R false) ((Blk.cells [[.str f.name, .int .i64 f.rep, .int .i64 f.kind, .int .i64 f.kids]] false).ren ρ) := by
  subst h
  exact .refl _

theorem prFld_t [Syms] {Post : AVal → Heap → Nat → Prop} (N : Nat) (s : List Fd) (n i d j : Nat) (t : List UInt8) (o : Option (List UInt8)) (h : PrT s n 1 i d t j) (hn : n < N + 1) (hdn : d + n ≤ 900) (hs : PrOk s) (htl : (outO o).length + t.length ≤ 100000) (ho : oOk d o)
    (hP : Post (.tup []) (hPr 2 (s.drop j) (some (outO o ++ t))) 3) :
    fnT cFd0 (cFld N) (fnTab fns) (tyTab tys) plFld 100 34 [.ptr 0 0 0, .int .i64 d] (hPr 1 (s.drop i) o) 2 Post := by
  obtain ⟨hi, hone⟩ := h.one
  have hsl := hs.len
  have hr := hs.rep i hi
  have hk := hs.kind i hi
  rw [dropF_cons hi]
  generalize hf : s.getD i default = f at *
  obtain ⟨nm, r, k, m⟩ := f
  simp only at hr hk hone
  generalize htle : s.drop (i + 1) = tl at *
  have htll : tl.length + 1 ≤ 1000 := by rw [← htle, List.length_drop]; omega
  have hlc : ((⟨nm, r, k, m⟩ : Fd) :: tl).length = tl.length + 1 := rfl
  have hr3 : r < ((kwReps.length : Nat) : Int) := by show r < 3; omega
  have hk5 : k < ((kwKinds.length : Nat) : Int) := by show k < 5; omega
  rcases ho with ⟨rfl, rfl⟩ | ⟨hd, out, rfl⟩
  · -- none
    have hol : t.length ≤ 100000 := by have h : 0 + t.length ≤ 100000 := htl; omega
    repeat' (first | (refine And.intro ?_ ?_) | (intro h; (try first | replace h := of_decide_eq_true h | replace h := of_decide_eq_false h); (try simp only [sg] at h); (try simp only [sx, ↓reduceIte, Nat.reduceAdd, reduceCtorEq, Int.reduceLT, Int.reduceLE, Int.reduceSub, Nat.reduceEqDiff, Nat.reduceLT] at h); try exact nz h))
    all_goals (try exact cz)
    refine ⟨⟨[(0, .ptr 0 0 0), (1, .int .i64 0), (4, .ptr 2 0 0)], [(0, oB tl (.tagp 0 70) .tnils), (2, some (.cells [[.str nm, .int .i64 r, .int .i64 k, .int .i64 m]] false))], 3⟩, reb_num [0, 1, 2] (by first | rfl | kernel_rfl) ⟨.refl _, .refl _, .refl _, trivial⟩ ⟨⟨by decide, _, rfl, wkN (congrArg (fun x => [[x, AVal.tagp 0 70, AVal.tnils]]) (vF_tail _ tl)) rfl⟩, ⟨by decide, _, rfl, .refl _⟩, trivial⟩, ?_⟩
    repeat' (first | (refine And.intro ?_ ?_) | (intro h; (try first | replace h := of_decide_eq_true h | replace h := of_decide_eq_false h); (try simp only [sg] at h); (try simp only [sx, ↓reduceIte, Nat.reduceAdd, reduceCtorEq, Int.reduceLT, Int.reduceLE, Int.reduceSub, Nat.reduceEqDiff, Nat.reduceLT] at h); try exact nz h))
    all_goals (try exact cz)
    refine ⟨kwReps, r, rfl, ⟨hr.1, hr3, by decide⟩, ?_⟩
    repeat' (first | (refine And.intro ?_ ?_) | (intro h; (try first | replace h := of_decide_eq_true h | replace h := of_decide_eq_false h); (try simp only [sg] at h); (try simp only [sx, ↓reduceIte, Nat.reduceAdd, reduceCtorEq, Int.reduceLT, Int.reduceLE, Int.reduceSub, Nat.reduceEqDiff, Nat.reduceLT] at h); try exact nz h))
    all_goals (try exact cz)
    refine ⟨kwKinds, k, rfl, ⟨hk.1, hk5, by decide⟩, ?_⟩
    rcases hone with ⟨hk0, rfl, rfl⟩ | ⟨n', m', t1, hk0, rfl, hm, h1, rfl⟩
    · have hnl : nm.length + 1 ≤ 9223372036854775807 := by simp only [leafT, List.length_append, List.length_cons, List.length_nil] at hol; omega
      repeat' (first | (refine And.intro ?_ ?_) | (intro h; (try first | replace h := of_decide_eq_true h | replace h := of_decide_eq_false h); (try simp only [sg] at h); (try simp only [sx, ↓reduceIte, Nat.reduceAdd, reduceCtorEq, Int.reduceLT, Int.reduceLE, Int.reduceSub, Nat.reduceEqDiff, Nat.reduceLT] at h); try exact nz h))
      all_goals (try exact cz)
      all_goals (try ((with_reducible show (_ : Nat) ≤ (_ : Nat)); exact hnl))
      refine ⟨[0, 1, 3 + 7 * RR + 1 + 1 + 1], [.ptr 0 0 0, .int .i64 (0 : Nat), .slice 2 0 2 1 none], [(0, oB tl (.tagp 0 70) .tnils), (2, some (.cells ([kwMsg, nm ++ [59]].map encS) false))], (by kernel_rfl), ⟨.refl _, .refl _, wk_slc rfl, trivial⟩, ⟨⟨by decide, _, rfl, .refl _⟩, ⟨by decide, _, rfl, .refl _⟩, trivial⟩, none, tl, (0 : Nat), [kwMsg, nm ++ [59]], rfl, rfl, rfl, ⟨by simp, by omega, by simp, ?_⟩, ?_⟩
      · rw [leaf0 ⟨nm, r, k, m⟩]; exact htl
      · repeat' (first | (refine And.intro ?_ ?_) | (intro h; (try first | replace h := of_decide_eq_true h | replace h := of_decide_eq_false h); (try simp only [sg] at h); (try simp only [sx, ↓reduceIte, Nat.reduceAdd, reduceCtorEq, Int.reduceLT, Int.reduceLE, Int.reduceSub, Nat.reduceEqDiff, Nat.reduceLT] at h); try exact nz h))
        all_goals (try exact cz)
        rw [← leaf0 ⟨nm, r, k, m⟩, htle] at hP
        exact fin_fld (K := rho [0, 1, 3 + 7 * RR + 1 + 1 + 1] (3 + 7 * RR + 1 + 1 + 1 + 1) 3) hP (by kernel_rfl) rfl (congrArg (fun R => some (Blk.cells R false)) (renB_flat _ (bR_flat _)))
    · subst hk0
      subst hm
      have hol2 := hol
      simp only [List.length_append] at hol2
      repeat' (first | (refine And.intro ?_ ?_) | (intro h; (try first | replace h := of_decide_eq_true h | replace h := of_decide_eq_false h); (try simp only [sg] at h); (try simp only [sx, ↓reduceIte, Nat.reduceAdd, reduceCtorEq, Int.reduceLT, Int.reduceLE, Int.reduceSub, Nat.reduceEqDiff, Nat.reduceLT] at h); try exact nz h))
      all_goals (try exact cz)
      refine ⟨[0, 1, 3 + 7 * RR + 1 + 1 + 1], [.ptr 0 0 0, .int .i64 (0 : Nat), .slice 2 0 3 1 none], [(0, oB tl (.tagp 0 70) .tnils), (2, some (.cells ([kwMsg, nm, [123]].map encS) false))], (by kernel_rfl), ⟨.refl _, .refl _, wk_slc rfl, trivial⟩, ⟨⟨by decide, _, rfl, .refl _⟩, ⟨by decide, _, rfl, .refl _⟩, trivial⟩, none, tl, (0 : Nat), [kwMsg, nm, [123]], rfl, rfl, rfl, ⟨by simp, by omega, by simp, ?_⟩, ?_⟩
      · rw [open0 ⟨nm, r, 0, m'⟩]
        show (outO none).length + _ ≤ _
        have h := htl
        simp only [List.length_append] at h
        omega
      rw [open0 ⟨nm, r, 0, m'⟩]
      repeat' (first | (refine And.intro ?_ ?_) | (intro h; (try first | replace h := of_decide_eq_true h | replace h := of_decide_eq_false h); (try simp only [sg] at h); (try simp only [sx, ↓reduceIte, Nat.reduceAdd, reduceCtorEq, Int.reduceLT, Int.reduceLE, Int.reduceSub, Nat.reduceEqDiff, Nat.reduceLT] at h); try exact nz h))
      all_goals (try exact cz)
      have hcnt := h1.cnt
      have hm1000 : m' ≤ 1000 := by have := hcnt.2 hi; omega
      refine ⟨fun mm st => ∃ (kk at' : Nat) (dn rs : List UInt8), (kk ≤ m' ∧ mm = m' - kk ∧ PrT s n' (m' - kk) at' (0 + 1) rs j ∧ t1 = dn ++ rs) ∧ st = prL (s.drop at') 0 nm r m' (outO none ++ openT 0 ⟨nm, r, 0, m'⟩ ++ dn) kk, ⟨_, prL (s.drop (i + 1)) 0 nm r m' (outO none ++ openT 0 ⟨nm, r, 0, m'⟩ ++ []) 0, ?_, 0, i + 1, [], t1, ⟨by omega, rfl, h1, rfl⟩, rfl⟩, ?_⟩
      · rw [List.append_nil, htle]
        exact reb_prL (K := rho [0, 1, 3 + 7 * RR + 1 + 1 + 1] (3 + 7 * RR + 1 + 1 + 1 + 1) 3) (by kernel_rfl) rfl rfl rfl rfl rfl rfl (congrArg (fun R => some (Blk.cells R false)) (renB_flat _ (bR_flat _)))
      rintro mm st ⟨kk, at', dn, rs, ⟨hkk, rfl, hpr, htd⟩, rfl⟩
      have htl2 : (outO none ++ openT 0 ⟨nm, r, 0, m'⟩ ++ t1).length + (closeT 0).length ≤ 100000 := by
        have h := htl
        simp only [List.length_append] at h ⊢
        omega
      have hP2 : Post (.tup []) (hPr 2 (s.drop j) (some (outO none ++ openT 0 ⟨nm, r, 0, m'⟩ ++ t1 ++ closeT 0))) 3 := by
        have h := hP
        rw [show outO none ++ openT 0 ⟨nm, r, 0, m'⟩ ++ t1 ++ closeT 0 = outO none ++ (openT 0 ⟨nm, r, 0, m'⟩ ++ t1 ++ closeT 0) by simp only [List.append_assoc]]
        exact h
      clear htl hP hol hol2
      generalize outO none ++ openT 0 ⟨nm, r, 0, m'⟩ = op at *
      have hdl : (s.drop at').length = s.length - at' := List.length_drop
      by_cases hin : kk < m'
      · obtain ⟨q, hq⟩ : ∃ q, m' - kk = q + 1 := ⟨m' - kk - 1, by omega⟩
        rw [hq] at hpr
        obtain ⟨tp, ip, tr, hp1, hp2, hrs⟩ := hpr.split
        subst hrs
        have hatl : at' < s.length := hp1.one.1
        rw [htd] at htl2
        simp only [List.length_append] at htl2
        have hlen : (op ++ dn).length + tp.length ≤ 100000 := by rw [List.length_append]; omega
        repeat' (first | (refine And.intro ?_ ?_) | (intro h; (try first | replace h := of_decide_eq_true h | replace h := of_decide_eq_false h); (try simp only [sg] at h); (try simp only [sx, ↓reduceIte, Nat.reduceAdd, reduceCtorEq, Int.reduceLT, Int.reduceLE, Int.reduceSub, Nat.reduceEqDiff, Nat.reduceLT] at h); try exact nz h))
        all_goals (try exact cz)
        refine ⟨[0, 3], [.ptr 0 0 0, .int .i64 (0 + 1 : Nat)], [(0, oB (s.drop at') (.ptr 0 0 1) (.tslice 1 (op ++ dn).length 1 5)), (1, some (.cells (bR (op ++ dn)) false))], (by kernel_rfl), ⟨.refl _, wk_int (by omega), trivial⟩, ⟨⟨by decide, _, rfl, .refl _⟩, ⟨by decide, _, rfl, wkB_same (bR_flat _)⟩, trivial⟩, s, n', at', 0 + 1, ip, tp, some (op ++ dn), rfl, rfl, rfl, ⟨hp1, by omega, by omega, hs, hlen, .inr ⟨by omega, _, rfl⟩⟩, ?_⟩
        repeat' (first | (refine And.intro ?_ ?_) | (intro h; (try first | replace h := of_decide_eq_true h | replace h := of_decide_eq_false h); (try simp only [sg] at h); (try simp only [sx, ↓reduceIte, Nat.reduceAdd, reduceCtorEq, Int.reduceLT, Int.reduceLE, Int.reduceSub, Nat.reduceEqDiff, Nat.reduceLT] at h); try exact nz h))
        all_goals (try exact cz)
        refine ⟨_, prL (s.drop ip) 0 nm r m' (op ++ (dn ++ tp)) (kk + 1), ?_, ⟨kk + 1, ip, dn ++ tp, tr, ⟨by omega, rfl, ?_, ?_⟩, rfl⟩, by omega⟩
        · rw [← List.append_assoc]
          exact reb_prL (K := 6) (by kernel_rfl) rfl rfl rfl rfl rfl rfl (congrArg (fun R => some (Blk.cells R false)) (renB_flat _ (bR_flat _)))
        · rw [show m' - (kk + 1) = q by omega]; exact hp2
        · rw [htd, List.append_assoc]
      · obtain rfl : kk = m' := by omega
        rw [Nat.sub_self] at hpr
        cases hpr
        rw [List.append_nil] at htd
        subst htd
        repeat' (first | (refine And.intro ?_ ?_) | (intro h; (try first | replace h := of_decide_eq_true h | replace h := of_decide_eq_false h); (try simp only [sg] at h); (try simp only [sx, ↓reduceIte, Nat.reduceAdd, reduceCtorEq, Int.reduceLT, Int.reduceLE, Int.reduceSub, Nat.reduceEqDiff, Nat.reduceLT] at h); try exact nz h))
        all_goals (try exact cz)
        refine ⟨[0, 3, 4], [.ptr 0 0 0, .int .i64 0, .slice 2 0 1 1 none], [(0, oB (s.drop j) (.ptr 0 0 1) (.tslice 1 (op ++ t1).length 1 5)), (1, some (.cells (bR (op ++ t1)) false)), (2, some (.cells ([[125]].map encS) false))], (by kernel_rfl), ⟨.refl _, .refl _, wk_slc rfl, trivial⟩, ⟨⟨by decide, _, rfl, .refl _⟩, ⟨by decide, _, rfl, wkB_same (bR_flat _)⟩, ⟨by decide, _, rfl, .refl _⟩, trivial⟩, some (op ++ t1), s.drop j, 0, [[125]], rfl, rfl, rfl, ⟨by simp, by omega, by simp, ?_⟩, ?_⟩
        · rw [close1]; exact htl2
        rw [close1]
        repeat' (first | (refine And.intro ?_ ?_) | (intro h; (try first | replace h := of_decide_eq_true h | replace h := of_decide_eq_false h); (try simp only [sg] at h); (try simp only [sx, ↓reduceIte, Nat.reduceAdd, reduceCtorEq, Int.reduceLT, Int.reduceLE, Int.reduceSub, Nat.reduceEqDiff, Nat.reduceLT] at h); try exact nz h))
        all_goals (try exact cz)
        exact fin_fld (K := 8) hP2 (by kernel_rfl) rfl (congrArg (fun R => some (Blk.cells R false)) (renB_flat _ (bR_flat _)))
  · -- some
    have hol : out.length + t.length ≤ 100000 := htl
    repeat' (first | (refine And.intro ?_ ?_) | (intro h; (try first | replace h := of_decide_eq_true h | replace h := of_decide_eq_false h); (try simp only [sg] at h); (try simp only [sx, ↓reduceIte, Nat.reduceAdd, reduceCtorEq, Int.reduceLT, Int.reduceLE, Int.reduceSub, Nat.reduceEqDiff, Nat.reduceLT] at h); try exact nz h))
    all_goals (try exact cz)
    refine ⟨⟨[(0, .ptr 0 0 0), (1, .int .i64 d), (4, .ptr 2 0 0)], [(0, oB tl (.ptr 0 0 1) (.tslice 1 out.length 1 5)), (1, some (.cells (bR out) false)), (2, some (.cells [[.str nm, .int .i64 r, .int .i64 k, .int .i64 m]] false))], 3⟩, reb_num [0, 1, 2] (by first | rfl | kernel_rfl) ⟨.refl _, .refl _, .refl _, trivial⟩ ⟨⟨by decide, _, rfl, wkO (congrArg (fun x => [[x, AVal.ptr 0 0 1, AVal.tslice 1 out.length 1 5]]) (vF_tail _ tl)) rfl rfl rfl⟩, ⟨by decide, _, rfl, wkB_same (bR_flat _)⟩, ⟨by decide, _, rfl, .refl _⟩, trivial⟩, ?_⟩
    repeat' (first | (refine And.intro ?_ ?_) | (intro h; (try first | replace h := of_decide_eq_true h | replace h := of_decide_eq_false h); (try simp only [sg] at h); (try simp only [sx, ↓reduceIte, Nat.reduceAdd, reduceCtorEq, Int.reduceLT, Int.reduceLE, Int.reduceSub, Nat.reduceEqDiff, Nat.reduceLT] at h); try exact nz h))
    all_goals (try exact cz)
    refine ⟨kwReps, r, rfl, ⟨hr.1, hr3, by decide⟩, ?_⟩
    repeat' (first | (refine And.intro ?_ ?_) | (intro h; (try first | replace h := of_decide_eq_true h | replace h := of_decide_eq_false h); (try simp only [sg] at h); (try simp only [sx, ↓reduceIte, Nat.reduceAdd, reduceCtorEq, Int.reduceLT, Int.reduceLE, Int.reduceSub, Nat.reduceEqDiff, Nat.reduceLT] at h); try exact nz h))
    all_goals (try exact cz)
    refine ⟨kwKinds, k, rfl, ⟨hk.1, hk5, by decide⟩, ?_⟩
    rcases hone with ⟨hk0, rfl, rfl⟩ | ⟨n', m', t1, hk0, rfl, hm, h1, rfl⟩
    · have hnl : nm.length + 1 ≤ 9223372036854775807 := by simp only [leafT, List.length_append, List.length_cons, List.length_nil] at hol; omega
      repeat' (first | (refine And.intro ?_ ?_) | (intro h; (try first | replace h := of_decide_eq_true h | replace h := of_decide_eq_false h); (try simp only [sg] at h); (try simp only [sx, ↓reduceIte, Nat.reduceAdd, reduceCtorEq, Int.reduceLT, Int.reduceLE, Int.reduceSub, Nat.reduceEqDiff, Nat.reduceLT] at h); try exact nz h))
      all_goals (try exact cz)
      all_goals (try ((with_reducible show (_ : Nat) ≤ (_ : Nat)); exact hnl))
      refine ⟨[0, 1, 3 + 7 * RR + 1 + 1], [.ptr 0 0 0, .int .i64 d, .slice 2 0 3 1 none], [(0, oB tl (.ptr 0 0 1) (.tslice 1 out.length 1 5)), (1, some (.cells (bR out) false)), (2, some (.cells ([kwReps.getD r.toNat [], kwKinds.getD k.toNat [], nm ++ [59]].map encS) false))], (by kernel_rfl), ⟨.refl _, .refl _, wk_slc rfl, trivial⟩, ⟨⟨by decide, _, rfl, .refl _⟩, ⟨by decide, _, rfl, wkB_same (bR_flat _)⟩, ⟨by decide, _, rfl, .refl _⟩, trivial⟩, (some out), tl, d, [kwReps.getD r.toNat [], kwKinds.getD k.toNat [], nm ++ [59]], rfl, rfl, rfl, ⟨by simp, by omega, by simp, ?_⟩, ?_⟩
      · rw [leaf1 ⟨nm, r, k, m⟩ hd]; exact htl
      · repeat' (first | (refine And.intro ?_ ?_) | (intro h; (try first | replace h := of_decide_eq_true h | replace h := of_decide_eq_false h); (try simp only [sg] at h); (try simp only [sx, ↓reduceIte, Nat.reduceAdd, reduceCtorEq, Int.reduceLT, Int.reduceLE, Int.reduceSub, Nat.reduceEqDiff, Nat.reduceLT] at h); try exact nz h))
        all_goals (try exact cz)
        rw [← leaf1 ⟨nm, r, k, m⟩ hd, htle] at hP
        exact fin_fld (K := rho [0, 1, 3 + 7 * RR + 1 + 1] (3 + 7 * RR + 1 + 1 + 1) 3) hP (by kernel_rfl) rfl (congrArg (fun R => some (Blk.cells R false)) (renB_flat _ (bR_flat _)))
    · subst hk0
      subst hm
      have hol2 := hol
      simp only [List.length_append] at hol2
      repeat' (first | (refine And.intro ?_ ?_) | (intro h; (try first | replace h := of_decide_eq_true h | replace h := of_decide_eq_false h); (try simp only [sg] at h); (try simp only [sx, ↓reduceIte, Nat.reduceAdd, reduceCtorEq, Int.reduceLT, Int.reduceLE, Int.reduceSub, Nat.reduceEqDiff, Nat.reduceLT] at h); try exact nz h))
      all_goals (try exact cz)
      refine ⟨[0, 1, 3 + 7 * RR + 1 + 1], [.ptr 0 0 0, .int .i64 d, .slice 2 0 4 1 none], [(0, oB tl (.ptr 0 0 1) (.tslice 1 out.length 1 5)), (1, some (.cells (bR out) false)), (2, some (.cells ([kwReps.getD r.toNat [], kwKinds.getD (Int.toNat 0) [], nm, [123]].map encS) false))], (by kernel_rfl), ⟨.refl _, .refl _, wk_slc rfl, trivial⟩, ⟨⟨by decide, _, rfl, .refl _⟩, ⟨by decide, _, rfl, wkB_same (bR_flat _)⟩, ⟨by decide, _, rfl, .refl _⟩, trivial⟩, (some out), tl, d, [kwReps.getD r.toNat [], kwKinds.getD (Int.toNat 0) [], nm, [123]], rfl, rfl, rfl, ⟨by simp, by omega, by simp, ?_⟩, ?_⟩
      · rw [open1 ⟨nm, r, 0, m'⟩ hd]
        show (outO (some out)).length + _ ≤ _
        have h := htl
        simp only [List.length_append] at h
        omega
      rw [open1 ⟨nm, r, 0, m'⟩ hd]
      repeat' (first | (refine And.intro ?_ ?_) | (intro h; (try first | replace h := of_decide_eq_true h | replace h := of_decide_eq_false h); (try simp only [sg] at h); (try simp only [sx, ↓reduceIte, Nat.reduceAdd, reduceCtorEq, Int.reduceLT, Int.reduceLE, Int.reduceSub, Nat.reduceEqDiff, Nat.reduceLT] at h); try exact nz h))
      all_goals (try exact cz)
      have hcnt := h1.cnt
      have hm1000 : m' ≤ 1000 := by have := hcnt.2 hi; omega
      refine ⟨fun mm st => ∃ (kk at' : Nat) (dn rs : List UInt8), (kk ≤ m' ∧ mm = m' - kk ∧ PrT s n' (m' - kk) at' (d + 1) rs j ∧ t1 = dn ++ rs) ∧ st = prL (s.drop at') d nm r m' (outO (some out) ++ openT d ⟨nm, r, 0, m'⟩ ++ dn) kk, ⟨_, prL (s.drop (i + 1)) d nm r m' (outO (some out) ++ openT d ⟨nm, r, 0, m'⟩ ++ []) 0, ?_, 0, i + 1, [], t1, ⟨by omega, rfl, h1, rfl⟩, rfl⟩, ?_⟩
      · rw [List.append_nil, htle]
        exact reb_prL (K := rho [0, 1, 3 + 7 * RR + 1 + 1] (3 + 7 * RR + 1 + 1 + 1) 3) (by kernel_rfl) rfl rfl rfl rfl rfl rfl (congrArg (fun R => some (Blk.cells R false)) (renB_flat _ (bR_flat _)))
      rintro mm st ⟨kk, at', dn, rs, ⟨hkk, rfl, hpr, htd⟩, rfl⟩
      have htl2 : (outO (some out) ++ openT d ⟨nm, r, 0, m'⟩ ++ t1).length + (closeT d).length ≤ 100000 := by
        have h := htl
        simp only [List.length_append] at h ⊢
        omega
      have hP2 : Post (.tup []) (hPr 2 (s.drop j) (some (outO (some out) ++ openT d ⟨nm, r, 0, m'⟩ ++ t1 ++ closeT d))) 3 := by
        have h := hP
        rw [show outO (some out) ++ openT d ⟨nm, r, 0, m'⟩ ++ t1 ++ closeT d = outO (some out) ++ (openT d ⟨nm, r, 0, m'⟩ ++ t1 ++ closeT d) by simp only [List.append_assoc]]
        exact h
      clear htl hP hol hol2
      generalize outO (some out) ++ openT d ⟨nm, r, 0, m'⟩ = op at *
      have hdl : (s.drop at').length = s.length - at' := List.length_drop
      by_cases hin : kk < m'
      · obtain ⟨q, hq⟩ : ∃ q, m' - kk = q + 1 := ⟨m' - kk - 1, by omega⟩
        rw [hq] at hpr
        obtain ⟨tp, ip, tr, hp1, hp2, hrs⟩ := hpr.split
        subst hrs
        have hatl : at' < s.length := hp1.one.1
        rw [htd] at htl2
        simp only [List.length_append] at htl2
        have hlen : (op ++ dn).length + tp.length ≤ 100000 := by rw [List.length_append]; omega
        repeat' (first | (refine And.intro ?_ ?_) | (intro h; (try first | replace h := of_decide_eq_true h | replace h := of_decide_eq_false h); (try simp only [sg] at h); (try simp only [sx, ↓reduceIte, Nat.reduceAdd, reduceCtorEq, Int.reduceLT, Int.reduceLE, Int.reduceSub, Nat.reduceEqDiff, Nat.reduceLT] at h); try exact nz h))
        all_goals (try exact cz)
        refine ⟨[0, 3], [.ptr 0 0 0, .int .i64 (d + 1 : Nat)], [(0, oB (s.drop at') (.ptr 0 0 1) (.tslice 1 (op ++ dn).length 1 5)), (1, some (.cells (bR (op ++ dn)) false))], (by kernel_rfl), ⟨.refl _, wk_int (by omega), trivial⟩, ⟨⟨by decide, _, rfl, .refl _⟩, ⟨by decide, _, rfl, wkB_same (bR_flat _)⟩, trivial⟩, s, n', at', d + 1, ip, tp, some (op ++ dn), rfl, rfl, rfl, ⟨hp1, by omega, by omega, hs, hlen, .inr ⟨by omega, _, rfl⟩⟩, ?_⟩
        repeat' (first | (refine And.intro ?_ ?_) | (intro h; (try first | replace h := of_decide_eq_true h | replace h := of_decide_eq_false h); (try simp only [sg] at h); (try simp only [sx, ↓reduceIte, Nat.reduceAdd, reduceCtorEq, Int.reduceLT, Int.reduceLE, Int.reduceSub, Nat.reduceEqDiff, Nat.reduceLT] at h); try exact nz h))
        all_goals (try exact cz)
        refine ⟨_, prL (s.drop ip) d nm r m' (op ++ (dn ++ tp)) (kk + 1), ?_, ⟨kk + 1, ip, dn ++ tp, tr, ⟨by omega, rfl, ?_, ?_⟩, rfl⟩, by omega⟩
        · rw [← List.append_assoc]
          exact reb_prL (K := 6) (by kernel_rfl) rfl rfl rfl rfl rfl rfl (congrArg (fun R => some (Blk.cells R false)) (renB_flat _ (bR_flat _)))
        · rw [show m' - (kk + 1) = q by omega]; exact hp2
        · rw [htd, List.append_assoc]
      · obtain rfl : kk = m' := by omega
        rw [Nat.sub_self] at hpr
        cases hpr
        rw [List.append_nil] at htd
        subst htd
        repeat' (first | (refine And.intro ?_ ?_) | (intro h; (try first | replace h := of_decide_eq_true h | replace h := of_decide_eq_false h); (try simp only [sg] at h); (try simp only [sx, ↓reduceIte, Nat.reduceAdd, reduceCtorEq, Int.reduceLT, Int.reduceLE, Int.reduceSub, Nat.reduceEqDiff, Nat.reduceLT] at h); try exact nz h))
        all_goals (try exact cz)
        refine ⟨[0, 3, 4], [.ptr 0 0 0, .int .i64 d, .slice 2 0 1 1 none], [(0, oB (s.drop j) (.ptr 0 0 1) (.tslice 1 (op ++ t1).length 1 5)), (1, some (.cells (bR (op ++ t1)) false)), (2, some (.cells ([[125]].map encS) false))], (by kernel_rfl), ⟨.refl _, .refl _, wk_slc rfl, trivial⟩, ⟨⟨by decide, _, rfl, .refl _⟩, ⟨by decide, _, rfl, wkB_same (bR_flat _)⟩, ⟨by decide, _, rfl, .refl _⟩, trivial⟩, some (op ++ t1), s.drop j, d, [[125]], rfl, rfl, rfl, ⟨by simp, by omega, by simp, ?_⟩, ?_⟩
        · rw [close1]; exact htl2
        rw [close1]
        repeat' (first | (refine And.intro ?_ ?_) | (intro h; (try first | replace h := of_decide_eq_true h | replace h := of_decide_eq_false h); (try simp only [sg] at h); (try simp only [sx, ↓reduceIte, Nat.reduceAdd, reduceCtorEq, Int.reduceLT, Int.reduceLE, Int.reduceSub, Nat.reduceEqDiff, Nat.reduceLT] at h); try exact nz h))
        all_goals (try exact cz)
        exact fin_fld (K := 8) hP2 (by kernel_rfl) rfl (congrArg (fun R => some (Blk.cells R false)) (renB_flat _ (bR_flat _)))
theorem prFld_ok [Syms] : ∀ N, (S_fld N).ok Try.prog 34
  | 0 => by
    rintro args H nx Post ⟨s, n, i, d, j, t, o, _, _, _, ⟨_, h, _⟩, _⟩
    exact absurd h (Nat.not_lt_zero _)
  | N + 1 => by
    rintro args H nx Post ⟨s, n, i, d, j, t, o, rfl, rfl, rfl, ⟨h1, h2, h3, h4, h5, h6⟩, h7⟩
    exact fnT_sound tys_ok fns_ok cFd0_det (cFld_ok (prFld_ok N)) mixed (prFld_t N s n i d j t o h1 h2 h3 h4 h5 h6 h7)
end Go.Proofs.Ytjffmehcbaechaa
