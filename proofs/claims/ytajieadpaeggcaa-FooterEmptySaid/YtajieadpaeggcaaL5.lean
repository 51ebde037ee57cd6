/-
  The reader of a schema's bytes: a field. The program's. The footer's reader: what is wrong, so many bytes, a number. The program's. A schema's bytes, read: the loop's parts. The program's. 'name': is a text a name? The program's; a field's check. 'check': what is wrong with one field.
-/
import Derived.Test.YtajieadpaeggcaaL4
import Derived.Test.YtajieadpaeggcaaL2
import Derived.Laws.RangeAny
set_option linter.unusedVariables false
set_option linter.unusedSimpArgs false
section
set_option linter.unusedVariables false
set_option linter.unusedSimpArgs false
namespace Go.Proofs.Ytajieadpaeggcaa
open Go Go.Av
set_option maxRecDepth 100000
set_option maxHeartbeats 4000000
abbrev cFl : CallT := pickT 99 (specT S_rbyte) (pickT 80 (specT S_rnum) (pickT 98 (specT S_rtake) noneT))
theorem cFl_ok [Syms] : cFl.ok Try.prog := pickT_spec rbyte_ok (pickT_spec rnum_ok (pickT_spec rtake_ok noneT_ok))
theorem failR_b (r : BR) (x : Int) : (failR r x).b = r.b := by unfold failR; split <;> rfl
theorem fixR_len (n : Nat) (r : BR) : (fixR n r).2.b.length ≤ r.b.length := takeR_len n r
theorem numR_len (m : Nat) (w : Int) (r : BR) : (numR m w r).2.b.length ≤ r.b.length := by
  have h1 : (numR1 m w r).b = r.b := by unfold numR1; split <;> simp [failR_b]
  have h2 := takeR_len (getV r.b 0 0).2.1 (numR1 m w r)
  rw [h1] at h2
  unfold numR
  split
  · exact Nat.le_refl _
  · split <;> exact h2
theorem bytesB : ∀ (l : List UInt8), areBytes (l.map encB) = true ∧ bytesOf (l.map encB) = l
  | [] => ⟨rfl, rfl⟩
  | b :: l => by
    obtain ⟨h1, h2⟩ := bytesB l
    have hb := b.toNat_lt
    refine ⟨?_, ?_⟩
    · rw [List.map_cons, areBytes, List.all_cons, Bool.and_eq_true]
      exact ⟨by simp [isByteRow, encB], h1⟩
    · rw [List.map_cons, bytesOf, List.map_cons]
      have e : UInt8.ofNat (asI ((encB b).getD 0 .any)).toNat = b := by
        show UInt8.ofNat ((b.toNat : Int)).toNat = b
        rw [Int.toNat_natCast, UInt8.ofNat_toNat]
      rw [e]
      exact congrArg (b :: ·) h2
theorem bytesT (t : List UInt8) : areBytes (tabR t.length fun i => encB (t.getD i 0)) = true ∧ bytesOf (tabR t.length fun i => encB (t.getD i 0)) = t := by
  rw [tabR_map encB 0 t]; exact bytesB t
theorem numR_le {m : Nat} {w : Int} (hw : w ≠ 0) (r : BR) : (numR m w r).1 ≤ m := by
  unfold numR
  by_cases h : r.e ≠ 0
  · rw [if_pos h]; exact Nat.zero_le _
  · rw [if_neg h]
    by_cases h2 : (takeR (getV r.b 0 0).2.1 (numR1 m w r)).2.e ≠ 0
    · rw [if_pos h2]; exact Nat.zero_le _
    · rw [if_neg h2]
      show (getV r.b 0 0).1 ≤ m
      apply Decidable.byContradiction
      intro hc
      apply h2
      have h0 : r.e = 0 := Decidable.not_not.1 h
      have hf : ∀ y, failR r y = ⟨r.b, y⟩ := fun y => if_pos h0
      have hq : (numR1 m w r).e ≠ 0 := by
        unfold numR1
        by_cases hx : (getV r.b 0 0).2.2 = 0
        · rw [if_pos ⟨hx, by omega⟩, hf, hx]
          exact hw
        · rw [if_neg (fun hh => hx hh.1), hf]
          exact hx
      rw [takeR_err hq]
      exact hq
theorem rfield_t [Syms] {Post : AVal → Heap → Nat → Prop} (r : BR) (hl : r.b.length ≤ 1000000) (hP : Post (.agg (encF (fieldR r).1)) [(0, rdB (fieldR r).2), (1, some (.cells [encF (fieldR r).1] false))] 2) :
    fnT noneT cFl (fnTab fns) (tyTab tys) (plTab plt) 100 81 [.ptr 0 0 0] [(0, rdB r)] 1 Post := by
  unfold fieldR at hP
  simp only at hP
  refine ⟨[0], [.ptr 0 0 0], [(0, rdB r)], rfl, ⟨.refl _, trivial⟩, ⟨⟨by decide, _, rfl, .refl _⟩, trivial⟩, r, rfl, rfl, rfl, hl, ?_⟩
  have l1 := fixR_len 1 r
  generalize fixR 1 r = q1 at *
  obtain ⟨v1, r1⟩ := q1
  have l1 : r1.b.length ≤ r.b.length := l1
  refine ⟨[0], [.ptr 0 0 0], [(0, rdB r1)], rfl, ⟨.refl _, trivial⟩, ⟨⟨by decide, _, rfl, .refl _⟩, trivial⟩, r1, rfl, rfl, rfl, by omega, ?_⟩
  have l2 := fixR_len 1 r1
  have hP : Post (.agg (encF ⟨(takeR (numR 12 5 (numR 40 14 (fixR 1 r1).2).2).1 (numR 12 5 (numR 40 14 (fixR 1 r1).2).2).2).1, v1, (fixR 1 r1).1, (numR 40 14 (fixR 1 r1).2).1⟩)) [(0, rdB (takeR (numR 12 5 (numR 40 14 (fixR 1 r1).2).2).1 (numR 12 5 (numR 40 14 (fixR 1 r1).2).2).2).2), (1, some (.cells [encF ⟨(takeR (numR 12 5 (numR 40 14 (fixR 1 r1).2).2).1 (numR 12 5 (numR 40 14 (fixR 1 r1).2).2).2).1, v1, (fixR 1 r1).1, (numR 40 14 (fixR 1 r1).2).1⟩] false))] 2 := hP
  generalize fixR 1 r1 = q2 at *
  obtain ⟨v2, r2⟩ := q2
  have l2 : r2.b.length ≤ r1.b.length := l2
  refine ⟨[0], [.ptr 0 0 0, .int .i64 ((40 : Nat) : Int), .int .i64 14], [(0, rdB r2)], rfl, ⟨.refl _, .refl _, .refl _, trivial⟩, ⟨⟨by decide, _, rfl, .refl _⟩, trivial⟩, r2, 40, 14, rfl, rfl, rfl, ⟨by omega, by omega, by decide⟩, ?_⟩
  have l3 := numR_len 40 14 r2
  generalize numR 40 14 r2 = q3 at *
  obtain ⟨v3, r3⟩ := q3
  have l3 : r3.b.length ≤ r2.b.length := l3
  repeat' (first | (refine And.intro ?_ ?_) | (intro h; (try first | replace h := of_decide_eq_true h | replace h := of_decide_eq_false h); (try simp only [sg] at h); (try simp only [sx, ↓reduceIte, Nat.reduceAdd, reduceCtorEq, Int.reduceLT, Int.reduceLE, Int.reduceSub, Nat.reduceEqDiff, Nat.reduceLT] at h); try exact nz h))
  all_goals (try exact cz)
  refine ⟨[0], [.ptr 0 0 0, .int .i64 ((12 : Nat) : Int), .int .i64 5], [(0, rdB r3)], rfl, ⟨.refl _, .refl _, .refl _, trivial⟩, ⟨⟨by decide, _, rfl, .refl _⟩, trivial⟩, r3, 12, 5, rfl, rfl, rfl, ⟨by omega, by omega, by decide⟩, ?_⟩
  have l4 := numR_len 12 5 r3
  have l5 : (numR 12 5 r3).1 ≤ 1000000000 := by have := numR_le (m := 12) (w := 5) (by decide) r3; omega
  generalize numR 12 5 r3 = q4 at *
  obtain ⟨v4, r4⟩ := q4
  have l4 : r4.b.length ≤ r3.b.length := l4
  refine ⟨[0], [.ptr 0 0 0, .int .i64 (v4 : Nat)], [(0, rdB r4)], rfl, ⟨.refl _, .refl _, trivial⟩, ⟨⟨by decide, _, rfl, .refl _⟩, trivial⟩, r4, v4, rfl, rfl, rfl, ⟨by omega, l5⟩, ?_⟩
  generalize takeR v4 r4 = q5 at *
  obtain ⟨t, r5⟩ := q5
  repeat' (first | (refine And.intro ?_ ?_) | (intro h; (try first | replace h := of_decide_eq_true h | replace h := of_decide_eq_false h); (try simp only [sg] at h); (try simp only [sx, ↓reduceIte, Nat.reduceAdd, reduceCtorEq, Int.reduceLT, Int.reduceLE, Int.reduceSub, Nat.reduceEqDiff, Nat.reduceLT] at h); try exact nz h))
  all_goals (try exact cz)
  · exact (bytesT t).1
  refine ⟨⟨[(2, .ptr 1 0 0)], [(0, rdB r5), (1, some (.cells [encF ⟨t, v1, v2, v3⟩] false))], 2⟩, reb_num [0, 1] (by first | rfl | kernel_rfl) ⟨.refl _, trivial⟩ ⟨⟨by decide, _, rfl, .refl _⟩, ⟨by decide, _, rfl, wkB_eq ?_ (fF [⟨t, v1, v2, v3⟩])⟩, trivial⟩, _, rfl, hP⟩
  show [[AVal.str (bytesOf (tabR t.length fun i => encB (t.getD i 0))), .int .i64 v1, .int .i64 v2, .int .i64 v3]] = _
  rw [(bytesT t).2]; rfl
def S_rfield : SpecT := fun args H nx Post => ∃ (r : BR), args = [.ptr 0 0 0] ∧ H = [(0, rdB r)] ∧ nx = 1 ∧ r.b.length ≤ 1000000 ∧ Post (.agg (encF (fieldR r).1)) [(0, rdB (fieldR r).2), (1, some (.cells [encF (fieldR r).1] false))] 2
theorem rfield_ok [Syms] : S_rfield.ok Try.prog 81 := by
  rintro args H nx Post ⟨r, rfl, rfl, rfl, h1, h⟩
  exact fnT_sound tys_ok fns_ok noneT_det cFl_ok mixed (rfield_t r h1 h)
end Go.Proofs.Ytajieadpaeggcaa

end
section
set_option linter.unusedVariables false
set_option linter.unusedSimpArgs false
namespace Go.Proofs.Ytajieadpaeggcaa
open Go Go.Av
set_option maxRecDepth 100000
set_option maxHeartbeats 4000000
theorem ffail_t [Syms] {Post : AVal → Heap → Nat → Prop} (r : BR) (x : Int) (hP : Post (.tup []) [(0, rdB (failR r x))] 1) :
    fnT noneT noneT (fnTab fns) (tyTab tys) (plTab plt) 100 27 [.ptr 0 0 0, .int .i64 x] [(0, rdB r)] 1 Post := by
  obtain ⟨b, e⟩ := r
  by_cases h0 : e = 0
  · subst h0
    rw [failR, if_pos rfl] at hP
    repeat' (first | (refine And.intro ?_ ?_) | (intro h; (try first | replace h := of_decide_eq_true h | replace h := of_decide_eq_false h); (try simp only [sg] at h); (try simp only [sx, ↓reduceIte, Nat.reduceAdd, reduceCtorEq, Int.reduceLT, Int.reduceLE, Int.reduceSub, Nat.reduceEqDiff, Nat.reduceLT] at h); try exact nz h))
    all_goals (try exact cz)
    exact ⟨⟨[], [(0, rdB ⟨b, x⟩)], 1⟩, reb_num [0] (by first | rfl | kernel_rfl) trivial ⟨⟨by decide, _, rfl, .refl _⟩, trivial⟩, _, rfl, hP⟩
  · rw [failR, if_neg h0] at hP
    repeat' (first | (refine And.intro ?_ ?_) | (intro h; (try first | replace h := of_decide_eq_true h | replace h := of_decide_eq_false h); (try simp only [sg] at h); (try simp only [sx, ↓reduceIte, Nat.reduceAdd, reduceCtorEq, Int.reduceLT, Int.reduceLE, Int.reduceSub, Nat.reduceEqDiff, Nat.reduceLT] at h); try exact nz h))
    all_goals (try exact cz)
    exact ⟨⟨[], [(0, rdB ⟨b, e⟩)], 1⟩, reb_num [0] (by first | rfl | kernel_rfl) trivial ⟨⟨by decide, _, rfl, .refl _⟩, trivial⟩, _, rfl, hP⟩
def S_ffail : SpecT := fun args H nx Post => ∃ (r : BR) (x : Int), args = [.ptr 0 0 0, .int .i64 x] ∧ H = [(0, rdB r)] ∧ nx = 1 ∧ Post (.tup []) [(0, rdB (failR r x))] 1
theorem ffail_ok [Syms] : S_ffail.ok Try.prog 27 := by
  rintro args H nx Post ⟨r, x, rfl, rfl, rfl, h⟩
  exact fnT_sound tys_ok fns_ok noneT_det noneT_ok mixed (ffail_t r x h)
abbrev cFTk : CallT := pickT 27 (specT S_ffail) noneT
theorem cFTk_ok [Syms] : cFTk.ok Try.prog := pickT_spec ffail_ok noneT_ok
theorem ftake_t [Syms] {Post : AVal → Heap → Nat → Prop} (r : BR) (n : Nat) (hl : r.b.length ≤ 1000000) (hn : n ≤ 1000000000) (hP : Post (vB (takeR n r).1) [(0, rdB (takeR n r).2)] 1) :
    fnT noneT cFTk (fnTab fns) (tyTab tys) (plTab plt) 100 54 [.ptr 0 0 0, .int .i64 n] [(0, rdB r)] 1 Post := by
  obtain ⟨b, e⟩ := r
  have hl : b.length ≤ 1000000 := hl
  unfold takeR at hP
  by_cases h1 : b.length < n
  · simp only [if_pos h1] at hP
    by_cases h0 : e = 0
    · subst h0
      have hP : Post (vB []) [(0, rdB ⟨b, 8⟩)] 1 := hP
      have hx1 : failR ⟨b, 0⟩ 8 = ⟨b, 8⟩ := rfl
      have hx2 : ¬ (8 : Int) = 0 := by decide
      have hx3 := ren_e b 8
      have hx4 := hx2
      repeat' (first | (refine And.intro ?_ ?_) | (intro h; (try first | replace h := of_decide_eq_true h | replace h := of_decide_eq_false h); (try simp only [sg] at h); (try simp only [sx, ↓reduceIte, Nat.reduceAdd, reduceCtorEq, Int.reduceLT, Int.reduceLE, Int.reduceSub, Nat.reduceEqDiff, Nat.reduceLT] at h); try exact nz h))
      all_goals (try exact cz)
      refine ⟨[0], [.ptr 0 0 0, .int .i64 8], [(0, rdB ⟨b, 0⟩)], rfl, ⟨.refl _, .refl _, trivial⟩, ⟨⟨by decide, _, rfl, .refl _⟩, trivial⟩, ⟨b, 0⟩, 8, rfl, rfl, rfl, ?_⟩
      rw [hx1, show rdB ⟨b, 8⟩ = some (.cells [[vB b, .int .i64 8]] false) from rfl]
      repeat' (first | (refine And.intro ?_ ?_) | (intro h; (try first | replace h := of_decide_eq_true h | replace h := of_decide_eq_false h); (try simp only [sg, hx1, hx2, hx3, hx4] at h); (try simp only [sx, ↓reduceIte, Nat.reduceAdd, reduceCtorEq, Int.reduceLT, Int.reduceLE, Int.reduceSub, Nat.reduceEqDiff, Nat.reduceLT] at h); try exact nz h))
      all_goals (try exact cz)
      exact ⟨_, reb_none (k := 4) (by first | rfl | kernel_rfl) rfl rfl, _, rfl, hP⟩
    · have hf : failR ⟨b, e⟩ 8 = ⟨b, e⟩ := if_neg h0
      rw [hf, if_pos h0] at hP
      repeat' (first | (refine And.intro ?_ ?_) | (intro h; (try first | replace h := of_decide_eq_true h | replace h := of_decide_eq_false h); (try simp only [sg] at h); (try simp only [sx, ↓reduceIte, Nat.reduceAdd, reduceCtorEq, Int.reduceLT, Int.reduceLE, Int.reduceSub, Nat.reduceEqDiff, Nat.reduceLT] at h); try exact nz h))
      all_goals (try exact cz)
      refine ⟨[0], [.ptr 0 0 0, .int .i64 8], [(0, rdB ⟨b, e⟩)], rfl, ⟨.refl _, .refl _, trivial⟩, ⟨⟨by decide, _, rfl, .refl _⟩, trivial⟩, ⟨b, e⟩, 8, rfl, rfl, rfl, ?_⟩
      rw [hf, show rdB ⟨b, e⟩ = some (.cells [[vB b, .int .i64 e]] false) from rfl]
      have hx1 := ren_e b e
      have hx2 := hx1
      have hx3 := hx1
      have hx4 := hx1
      repeat' (first | (refine And.intro ?_ ?_) | (intro h; (try first | replace h := of_decide_eq_true h | replace h := of_decide_eq_false h); (try simp only [sg, hx1, hx2, hx3, hx4] at h); (try simp only [sx, ↓reduceIte, Nat.reduceAdd, reduceCtorEq, Int.reduceLT, Int.reduceLE, Int.reduceSub, Nat.reduceEqDiff, Nat.reduceLT] at h); try exact nz h))
      all_goals (try exact cz)
      exact ⟨_, reb_none (k := 4) (by first | rfl | kernel_rfl) rfl rfl, _, rfl, hP⟩
  · simp only [if_neg h1] at hP
    by_cases h0 : e = 0
    · subst h0
      have hP : Post (vB (b.take n)) [(0, rdB ⟨b.drop n, 0⟩)] 1 := hP
      repeat' (first | (refine And.intro ?_ ?_) | (intro h; (try first | replace h := of_decide_eq_true h | replace h := of_decide_eq_false h); (try simp only [sg] at h); (try simp only [sx, ↓reduceIte, Nat.reduceAdd, reduceCtorEq, Int.reduceLT, Int.reduceLE, Int.reduceSub, Nat.reduceEqDiff, Nat.reduceLT] at h); try exact nz h))
      all_goals (try exact cz)
      exact ⟨_, reb_take (k := 4) (b := b) (n := n) (by omega) (by first | rfl | kernel_rfl) rfl rfl, _, rfl, hP⟩
    · rw [if_pos h0] at hP
      repeat' (first | (refine And.intro ?_ ?_) | (intro h; (try first | replace h := of_decide_eq_true h | replace h := of_decide_eq_false h); (try simp only [sg] at h); (try simp only [sx, ↓reduceIte, Nat.reduceAdd, reduceCtorEq, Int.reduceLT, Int.reduceLE, Int.reduceSub, Nat.reduceEqDiff, Nat.reduceLT] at h); try exact nz h))
      all_goals (try exact cz)
      exact ⟨_, reb_none (k := 4) (by first | rfl | kernel_rfl) rfl rfl, _, rfl, hP⟩
def S_ftake : SpecT := fun args H nx Post => ∃ (r : BR) (n : Nat), args = [.ptr 0 0 0, .int .i64 n] ∧ H = [(0, rdB r)] ∧ nx = 1 ∧ (r.b.length ≤ 1000000 ∧ n ≤ 1000000000) ∧ Post (vB (takeR n r).1) [(0, rdB (takeR n r).2)] 1
theorem ftake_ok [Syms] : S_ftake.ok Try.prog 54 := by
  rintro args H nx Post ⟨r, n, rfl, rfl, rfl, ⟨h1, h2⟩, h⟩
  exact fnT_sound tys_ok fns_ok noneT_det cFTk_ok mixed (ftake_t r n h1 h2 h)
abbrev cFNm : CallT := pickT 79 (immT S_get) (pickT 27 (specT S_ffail) (pickT 54 (specT S_ftake) noneT))
theorem cFNm_ok [Syms] : cFNm.ok Try.prog := pickT_imm_ok get_ok (pickT_spec ffail_ok (pickT_spec ftake_ok noneT_ok))
theorem fnum_t [Syms] {Post : AVal → Heap → Nat → Prop} (r : BR) (most : Nat) (wrong : Int) (hl : r.b.length ≤ 1000000) (hm : most ≤ 2000000) (hw : wrong ≠ 0) (hP : Post (.int .i64 ((numR most wrong r).1 : Nat)) [(0, rdB (numR most wrong r).2)] 1) :
    fnT noneT cFNm (fnTab fns) (tyTab tys) (plTab plt) 100 55 [.ptr 0 0 0, .int .i64 most, .int .i64 wrong] [(0, rdB r)] 1 Post := by
  obtain ⟨b, e⟩ := r
  have hl : b.length ≤ 1000000 := hl
  unfold numR at hP
  by_cases h0 : e = 0
  · subst h0
    have hk := getV_len b 0 0
    rw [if_neg (by simp)] at hP
    unfold numR1 at hP
    simp only at hP
    repeat' (first | (refine And.intro ?_ ?_) | (intro h; (try first | replace h := of_decide_eq_true h | replace h := of_decide_eq_false h); (try simp only [sg] at h); (try simp only [sx, ↓reduceIte, Nat.reduceAdd, reduceCtorEq, Int.reduceLT, Int.reduceLE, Int.reduceSub, Nat.reduceEqDiff, Nat.reduceLT] at h); try exact nz h))
    all_goals (try exact cz)
    refine ⟨b, rfl, hl, ?_⟩
    rcases hg : getV b 0 0 with ⟨v, k, x⟩
    rw [hg] at hP hk
    simp only at hP hk
    repeat' (first | (refine And.intro ?_ ?_) | (intro h; (try first | replace h := of_decide_eq_true h | replace h := of_decide_eq_false h); (try simp only [sg] at h); (try simp only [sx, ↓reduceIte, Nat.reduceAdd, reduceCtorEq, Int.reduceLT, Int.reduceLE, Int.reduceSub, Nat.reduceEqDiff, Nat.reduceLT] at h); try exact nz h))
    all_goals (try exact cz)
    refine ⟨[0], [.ptr 0 0 0, .int .i64 x], [(0, rdB ⟨b, 0⟩)], rfl, ⟨.refl _, .refl _, trivial⟩, ⟨⟨by decide, _, rfl, .refl _⟩, trivial⟩, ⟨b, 0⟩, x, rfl, rfl, rfl, ?_⟩
    have hf : ∀ y : Int, failR ⟨b, 0⟩ y = ⟨b, y⟩ := fun _ => rfl
    have hq : ∀ y : Int, rdB ⟨b, y⟩ = some (.cells [[vB b, .int .i64 y]] false) := fun _ => rfl
    have hx1 := fun ρ => ren_e2 ρ b
    have hx2 := wrUN (n := most) (by omega)
    by_cases h2 : x = 0 ∧ most < v
    · obtain ⟨hx0, h2'⟩ := h2
      subst hx0
      rw [hf, if_pos (show (0 : Int) = 0 ∧ most < v from ⟨rfl, h2'⟩), hf, takeR_err (show (BR.mk b wrong).e ≠ 0 from hw), if_pos (show (([] : List UInt8), BR.mk b wrong).2.e ≠ 0 from hw)] at hP
      rw [hf, hq]
      have hx3 := hw
      have hx4 := hw
      repeat' (first | (refine And.intro ?_ ?_) | (intro h; (try first | replace h := of_decide_eq_true h | replace h := of_decide_eq_false h); (try simp only [sg, hx1, hx2, hx3, hx4] at h); (try simp only [sx, ↓reduceIte, Nat.reduceAdd, reduceCtorEq, Int.reduceLT, Int.reduceLE, Int.reduceSub, Nat.reduceEqDiff, Nat.reduceLT] at h); try exact nz h))
      all_goals (try exact cz)
      refine ⟨[0], [.ptr 0 0 0, .int .i64 wrong], [(0, rdB ⟨b, 0⟩)], rfl, ⟨.refl _, .refl _, trivial⟩, ⟨⟨by decide, _, rfl, .refl _⟩, trivial⟩, ⟨b, 0⟩, wrong, rfl, rfl, rfl, ?_⟩
      rw [hf, hq]
      repeat' (first | (refine And.intro ?_ ?_) | (intro h; (try first | replace h := of_decide_eq_true h | replace h := of_decide_eq_false h); (try simp only [sg, hx1, hx2, hx3, hx4] at h); (try simp only [sx, ↓reduceIte, Nat.reduceAdd, reduceCtorEq, Int.reduceLT, Int.reduceLE, Int.reduceSub, Nat.reduceEqDiff, Nat.reduceLT] at h); try exact nz h))
      all_goals (try exact cz)
      refine ⟨[0], [.ptr 0 0 0, .int .i64 k], [(0, rdB ⟨b, wrong⟩)], rfl, ⟨.refl _, .refl _, trivial⟩, ⟨⟨by decide, _, rfl, .refl _⟩, trivial⟩, ⟨b, wrong⟩, k, rfl, rfl, rfl, ⟨hl, by omega⟩, ?_⟩
      rw [takeR_err (show (BR.mk b wrong).e ≠ 0 from hw), hq]
      repeat' (first | (refine And.intro ?_ ?_) | (intro h; (try first | replace h := of_decide_eq_true h | replace h := of_decide_eq_false h); (try simp only [sg, hx1, hx2, hx3, hx4] at h); (try simp only [sx, ↓reduceIte, Nat.reduceAdd, reduceCtorEq, Int.reduceLT, Int.reduceLE, Int.reduceSub, Nat.reduceEqDiff, Nat.reduceLT] at h); try exact nz h))
      all_goals (try exact cz)
      exact ⟨⟨[(6, .int .i64 0)], [(0, rdB ⟨b, wrong⟩)], 1⟩, reb_num [0] (by first | rfl | kernel_rfl) ⟨.refl _, trivial⟩ ⟨⟨by decide, _, rfl, .refl _⟩, trivial⟩, _, rfl, hP⟩
    · rw [hf, if_neg h2] at hP
      rw [hf, hq]
      by_cases h3 : x = 0
      · subst h3
        have h4 : v ≤ most := by omega
        have hx4 := wrIN (n := v) (by omega)
        have hx3 := hx4
        repeat' (first | (refine And.intro ?_ ?_) | (intro h; (try first | replace h := of_decide_eq_true h | replace h := of_decide_eq_false h); (try simp only [sg, hx1, hx2, hx3, hx4] at h); (try simp only [sx, ↓reduceIte, Nat.reduceAdd, reduceCtorEq, Int.reduceLT, Int.reduceLE, Int.reduceSub, Nat.reduceEqDiff, Nat.reduceLT] at h); try exact nz h))
        all_goals (try exact cz)
        refine ⟨[0], [.ptr 0 0 0, .int .i64 k], [(0, rdB ⟨b, 0⟩)], rfl, ⟨.refl _, .refl _, trivial⟩, ⟨⟨by decide, _, rfl, .refl _⟩, trivial⟩, ⟨b, 0⟩, k, rfl, rfl, rfl, ⟨hl, by omega⟩, ?_⟩
        rcases ht : takeR k ⟨b, 0⟩ with ⟨t, b', e'⟩
        rw [ht] at hP
        have hx3 := fun ρ => ren_e2 ρ b' e'
        rw [show rdB (t, BR.mk b' e').2 = some (.cells [[vB b', .int .i64 e']] false) from rfl]
        by_cases h5 : e' = 0
        · rw [if_neg (show ¬ (t, BR.mk b' e').2.e ≠ 0 from fun h => h h5)] at hP
          repeat' (first | (refine And.intro ?_ ?_) | (intro h; (try first | replace h := of_decide_eq_true h | replace h := of_decide_eq_false h); (try simp only [sg, hx1, hx2, hx3, hx4] at h); (try simp only [sx, ↓reduceIte, Nat.reduceAdd, reduceCtorEq, Int.reduceLT, Int.reduceLE, Int.reduceSub, Nat.reduceEqDiff, Nat.reduceLT] at h); try exact nz h))
          all_goals (try exact cz)
          refine ⟨⟨[(6, .int .i64 (v : Nat))], [(0, rdB ⟨b', e'⟩)], 1⟩, reb_num [0] (by first | rfl | kernel_rfl) ⟨wk_int hx4, trivial⟩ ⟨⟨by decide, _, rfl, .refl _⟩, trivial⟩, _, rfl, hP⟩
        · rw [if_pos (show (t, BR.mk b' e').2.e ≠ 0 from h5)] at hP
          repeat' (first | (refine And.intro ?_ ?_) | (intro h; (try first | replace h := of_decide_eq_true h | replace h := of_decide_eq_false h); (try simp only [sg, hx1, hx2, hx3, hx4] at h); (try simp only [sx, ↓reduceIte, Nat.reduceAdd, reduceCtorEq, Int.reduceLT, Int.reduceLE, Int.reduceSub, Nat.reduceEqDiff, Nat.reduceLT] at h); try exact nz h))
          all_goals (try exact cz)
          exact ⟨⟨[(6, .int .i64 0)], [(0, rdB ⟨b', e'⟩)], 1⟩, reb_num [0] (by first | rfl | kernel_rfl) ⟨.refl _, trivial⟩ ⟨⟨by decide, _, rfl, .refl _⟩, trivial⟩, _, rfl, hP⟩
      · rw [takeR_err (show (BR.mk b x).e ≠ 0 from h3), if_pos (show (([] : List UInt8), BR.mk b x).2.e ≠ 0 from h3)] at hP
        have hx3 := h3
        have hx4 := h3
        repeat' (first | (refine And.intro ?_ ?_) | (intro h; (try first | replace h := of_decide_eq_true h | replace h := of_decide_eq_false h); (try simp only [sg, hx1, hx2, hx3, hx4] at h); (try simp only [sx, ↓reduceIte, Nat.reduceAdd, reduceCtorEq, Int.reduceLT, Int.reduceLE, Int.reduceSub, Nat.reduceEqDiff, Nat.reduceLT] at h); try exact nz h))
        all_goals (try exact cz)
        refine ⟨[0], [.ptr 0 0 0, .int .i64 k], [(0, rdB ⟨b, x⟩)], rfl, ⟨.refl _, .refl _, trivial⟩, ⟨⟨by decide, _, rfl, .refl _⟩, trivial⟩, ⟨b, x⟩, k, rfl, rfl, rfl, ⟨hl, by omega⟩, ?_⟩
        rw [takeR_err (show (BR.mk b x).e ≠ 0 from h3), hq]
        repeat' (first | (refine And.intro ?_ ?_) | (intro h; (try first | replace h := of_decide_eq_true h | replace h := of_decide_eq_false h); (try simp only [sg, hx1, hx2, hx3, hx4] at h); (try simp only [sx, ↓reduceIte, Nat.reduceAdd, reduceCtorEq, Int.reduceLT, Int.reduceLE, Int.reduceSub, Nat.reduceEqDiff, Nat.reduceLT] at h); try exact nz h))
        all_goals (try exact cz)
        exact ⟨⟨[(6, .int .i64 0)], [(0, rdB ⟨b, x⟩)], 1⟩, reb_num [0] (by first | rfl | kernel_rfl) ⟨.refl _, trivial⟩ ⟨⟨by decide, _, rfl, .refl _⟩, trivial⟩, _, rfl, hP⟩
  · rw [if_pos h0] at hP
    repeat' (first | (refine And.intro ?_ ?_) | (intro h; (try first | replace h := of_decide_eq_true h | replace h := of_decide_eq_false h); (try simp only [sg] at h); (try simp only [sx, ↓reduceIte, Nat.reduceAdd, reduceCtorEq, Int.reduceLT, Int.reduceLE, Int.reduceSub, Nat.reduceEqDiff, Nat.reduceLT] at h); try exact nz h))
    all_goals (try exact cz)
    exact ⟨⟨[(6, .int .i64 0)], [(0, rdB ⟨b, e⟩)], 1⟩, reb_num [0] (by first | rfl | kernel_rfl) ⟨.refl _, trivial⟩ ⟨⟨by decide, _, rfl, .refl _⟩, trivial⟩, _, rfl, hP⟩
def S_fnum : SpecT := fun args H nx Post => ∃ (r : BR) (most : Nat) (wrong : Int), args = [.ptr 0 0 0, .int .i64 most, .int .i64 wrong] ∧ H = [(0, rdB r)] ∧ nx = 1 ∧ (r.b.length ≤ 1000000 ∧ most ≤ 2000000 ∧ wrong ≠ 0) ∧ Post (.int .i64 ((numR most wrong r).1 : Nat)) [(0, rdB (numR most wrong r).2)] 1
theorem fnum_ok [Syms] : S_fnum.ok Try.prog 55 := by
  rintro args H nx Post ⟨r, most, wrong, rfl, rfl, rfl, ⟨h1, h2, h3⟩, h⟩
  exact fnT_sound tys_ok fns_ok noneT_det cFNm_ok mixed (fnum_t r most wrong h1 h2 h3 h)
end Go.Proofs.Ytajieadpaeggcaa

end
section
set_option linter.unusedVariables false
set_option linter.unusedSimpArgs false
namespace Go.Proofs.Ytajieadpaeggcaa
open Go Go.Av
set_option maxRecDepth 100000
set_option maxHeartbeats 4000000
/-- What stands at the loop's head: the reader's block, the fields' own block. -/
def prS (r : BR) (n i : Nat) (fs : List Fd) : St := ⟨[(4, .ptr 0 0 0), (5, .int .i64 n), (6, .slice 1 0 fs.length 4 none), (7, .int .i64 i)], [(0, rdB r), (1, some (.cells (fs.map encF) false))], 2⟩
def prN (r : BR) (n : Nat) : St := ⟨[(4, .ptr 0 0 0), (5, .int .i64 n), (6, .nils), (7, .int .i64 (0 : Nat))], [(0, rdB r)], 1⟩
theorem fieldR_len (r : BR) : (fieldR r).2.b.length ≤ r.b.length := by
  unfold fieldR
  simp only
  exact Nat.le_trans (takeR_len _ _) (Nat.le_trans (numR_len _ _ _) (Nat.le_trans (numR_len _ _ _) (Nat.le_trans (fixR_len _ _) (fixR_len _ _))))
/-- What the fields' loop goes through, from the front. -/
theorem fieldsR_step (k : Nat) (r : BR) (s : List Fd) (h : r.e = 0) : fieldsR (k + 1) r s = fieldsR k (fieldR r).2 (s ++ [(fieldR r).1]) := by
  rw [fieldsR, if_neg (fun x => x h)]
theorem fieldsR_stop (k : Nat) (r : BR) (s : List Fd) (h : r.e ≠ 0) : fieldsR k r s = (s, r) := by
  cases k with
  | zero => rfl
  | succ k => rw [fieldsR, if_pos h]
end Go.Proofs.Ytajieadpaeggcaa

end
section
set_option linter.unusedVariables false
set_option linter.unusedSimpArgs false
namespace Go.Proofs.Ytajieadpaeggcaa
open Go Go.Av
set_option maxRecDepth 100000
set_option maxHeartbeats 4000000
def nmS (s : List UInt8) (k : Nat) : St := ⟨[(0, .str s), (14, .obj 0)], [(0, some (.iter s k))], 1⟩
theorem eqb_nil {s : List UInt8} (h : s ≠ []) : eqb s [] = false := by
  cases s with
  | nil => exact absurd rfl h
  | cons a l => rfl
theorem dec_low {s : List UInt8} {k : Nat} (hk : k < s.length) (ha : (s.getD k 0).toNat < 128) : Utf8.decode ⟨⟨s⟩⟩ k = ((s.getD k 0).toNat, 1) := by
  have e : s.getD k 0 = s[k] := by simp [hk]
  have := decode_ascii ⟨⟨s⟩⟩ k hk (by rw [e] at ha; exact ha)
  rw [this, e]; rfl
theorem dec_high {s : List UInt8} {k : Nat} (hk : k < s.length) (ha : 128 ≤ (s.getD k 0).toNat) : 128 ≤ (Utf8.decode ⟨⟨s⟩⟩ k).1 ∧ 1 ≤ (Utf8.decode ⟨⟨s⟩⟩ k).2 := by
  have e : s.getD k 0 = s[k] := by simp [hk]
  exact decode_high ⟨⟨s⟩⟩ k hk (by rw [e] at ha; exact ha)
/-- A name's sign at a place. -/
def okAt (s : List UInt8) (k : Nat) : Bool := signF (s.getD k 0) && (decide (0 < k) || letterF (s.getD k 0))
theorem nameF_of {s : List UInt8} (h0 : s ≠ []) (hl : ¬ 12 < s.length) : nameF s = true ↔ ∀ k, k < s.length → okAt s k = true := by
  have hp : 0 < s.length := List.length_pos_iff.2 h0
  have e0 : s.headD 0 = s.getD 0 0 := by cases s with | nil => exact absurd rfl h0 | cons a l => rfl
  rw [nameF, decide_eq_true (show 1 ≤ s.length by omega), decide_eq_true (show s.length ≤ 12 by omega), Bool.true_and, Bool.true_and, Bool.and_eq_true, List.all_eq_true, e0]
  constructor
  · rintro ⟨h1, h2⟩ k hk
    have := h2 (s.getD k 0) (by rw [List.getD_eq_getElem?_getD, List.getElem?_eq_getElem hk]; exact List.getElem_mem hk)
    rw [okAt, this, Bool.true_and, Bool.or_eq_true]
    by_cases hk0 : 0 < k
    · exact .inl (decide_eq_true hk0)
    · obtain rfl : k = 0 := by omega
      exact .inr h1
  · intro h
    refine ⟨?_, fun c hc => ?_⟩
    · have := h 0 hp
      rw [okAt, Bool.and_eq_true, Bool.or_eq_true] at this
      rcases this.2 with h | h
      · exact absurd (of_decide_eq_true h) (by omega)
      · exact h
    · obtain ⟨k, hk, rfl⟩ := List.getElem_of_mem hc
      have := h k hk
      rw [okAt, Bool.and_eq_true] at this
      have e : s.getD k 0 = s[k] := by simp [hk]
      rw [e] at this
      exact this.1
theorem okAt_num (s : List UInt8) (k : Nat) : okAt s k = true ↔ (97 ≤ (s.getD k 0).toNat ∧ (s.getD k 0).toNat ≤ 122) ∨ (0 < k ∧ ((48 ≤ (s.getD k 0).toNat ∧ (s.getD k 0).toNat ≤ 57) ∨ (s.getD k 0).toNat = 95)) := by
  simp only [okAt, signF, letterF, Bool.and_eq_true, Bool.or_eq_true, decide_eq_true_eq]
  omega
theorem nameF_no {s : List UInt8} {k : Nat} (h0 : s ≠ []) (hl : ¬ 12 < s.length) (hk : k < s.length) (h : ¬ ((97 ≤ (s.getD k 0).toNat ∧ (s.getD k 0).toNat ≤ 122) ∨ (0 < k ∧ ((48 ≤ (s.getD k 0).toNat ∧ (s.getD k 0).toNat ≤ 57) ∨ (s.getD k 0).toNat = 95)))) : nameF s = false := by
  refine Bool.eq_false_iff.2 fun hn => h ?_
  exact (okAt_num s k).1 ((nameF_of h0 hl).1 hn k hk)
theorem name_t [Syms] (s : List UInt8) (hs : s.length ≤ 1000) :
    fnT noneT noneT (fnTab fns) (tyTab tys) (plTab plt) 100 113 [.str s] [] 0 (fun v H _ => v = .bool (nameF s) ∧ H = []) := by
  by_cases h0 : s = []
  · subst h0
    refine And.intro (fun _ => ?_) (fun h => absurd (show true = false from h) (by decide))
    refine And.intro (fun _ => ?_) (fun h => absurd (show true = false from h) (by decide))
    exact ⟨_, reb_flat [2] rfl, _, rfl, rfl, rfl⟩
  have hl0 : 0 < s.length := List.length_pos_iff.2 h0
  have hx1 := eqb_nil h0
  by_cases hl : 12 < s.length
  · have hn : nameF s = false := by rw [nameF, decide_eq_false (show ¬ s.length ≤ 12 by omega)]; simp
    rw [hn]
    repeat' (first | (refine And.intro ?_ ?_) | (intro h; (try first | replace h := of_decide_eq_true h | replace h := of_decide_eq_false h); (try simp only [sg, hx1] at h); (try simp only [sx, ↓reduceIte, Nat.reduceAdd, reduceCtorEq, Int.reduceLT, Int.reduceLE, Int.reduceSub, Nat.reduceEqDiff, Nat.reduceLT] at h); try exact nz h))
    all_goals (try exact cz)
    exact ⟨_, reb_flat [2] rfl, _, rfl, rfl, rfl⟩
  · repeat' (first | (refine And.intro ?_ ?_) | (intro h; (try first | replace h := of_decide_eq_true h | replace h := of_decide_eq_false h); (try simp only [sg, hx1] at h); (try simp only [sx, ↓reduceIte, Nat.reduceAdd, reduceCtorEq, Int.reduceLT, Int.reduceLE, Int.reduceSub, Nat.reduceEqDiff, Nat.reduceLT] at h); try exact nz h))
    all_goals (try exact cz)
    refine ⟨fun m st => ∃ k : Nat, (k ≤ s.length ∧ m = s.length - k ∧ ∀ j, j < k → okAt s j = true) ∧ st = nmS s k, ⟨_, nmS s 0, reb_num [0] rfl ⟨.refl _, .refl _, trivial⟩ ⟨⟨by decide, _, rfl, .refl _⟩, trivial⟩, 0, ⟨by omega, rfl, fun j h => by omega⟩, rfl⟩, ?_⟩
    rintro m st ⟨k, ⟨hk, rfl, hj⟩, rfl⟩
    by_cases hin : k < s.length
    · have hnext : okAt s k = true → ∀ j, j < k + 1 → okAt s j = true := fun h j hlt => by
        rcases Nat.lt_or_ge j k with h' | h'
        · exact hj j h'
        · obtain rfl : j = k := by omega
          exact h
      have hok := okAt_num s k
      have hno := nameF_no (k := k) h0 hl hin
      by_cases hb : (s.getD k 0).toNat < 128
      · have hd := dec_low hin hb
        generalize (s.getD k 0).toNat = c at *
        by_cases hc : (97 ≤ c ∧ c ≤ 122) ∨ (0 < k ∧ ((48 ≤ c ∧ c ≤ 57) ∨ c = 95))
        · have hnx := hnext (hok.2 hc)
          have hx1 := congrArg Prod.fst hd
          have hx2 := congrArg Prod.snd hd
          simp only at hx1 hx2
          rcases hc with hc | ⟨hc1, hc2 | hc2⟩
          all_goals
            repeat' (first | (refine And.intro ?_ ?_) | (intro h; (try first | replace h := of_decide_eq_true h | replace h := of_decide_eq_false h); (try simp only [sg] at h); (try simp only [sx, ↓reduceIte, Nat.reduceAdd, reduceCtorEq, Int.reduceLT, Int.reduceLE, Int.reduceSub, Nat.reduceEqDiff, Nat.reduceLT] at h); try exact nz h))
            all_goals (try exact cz)
            exact ⟨_, nmS s (k + 1), reb_num [0] rfl ⟨.refl _, .refl _, trivial⟩ ⟨⟨by decide, _, rfl, by rw [hx2]; exact .refl _⟩, trivial⟩, ⟨k + 1, ⟨by omega, rfl, hnx⟩, rfl⟩, by omega⟩
        · have hnn := hno hc
          have hx1 := congrArg Prod.fst hd
          have hx2 := congrArg Prod.snd hd
          simp only at hx1 hx2
          rw [hnn]
          repeat' (first | (refine And.intro ?_ ?_) | (intro h; (try first | replace h := of_decide_eq_true h | replace h := of_decide_eq_false h); (try simp only [sg] at h); (try simp only [sx, ↓reduceIte, Nat.reduceAdd, reduceCtorEq, Int.reduceLT, Int.reduceLE, Int.reduceSub, Nat.reduceEqDiff, Nat.reduceLT] at h); try exact nz h))
          all_goals (try exact cz)
          all_goals exact ⟨_, reb_flat [2] rfl, _, rfl, rfl, rfl⟩
      · have hd := dec_high hin (by omega)
        have hnn := hno (by omega)
        rw [hnn]
        repeat' (first | (refine And.intro ?_ ?_) | (intro h; (try first | replace h := of_decide_eq_true h | replace h := of_decide_eq_false h); (try simp only [sg] at h); (try simp only [sx, ↓reduceIte, Nat.reduceAdd, reduceCtorEq, Int.reduceLT, Int.reduceLE, Int.reduceSub, Nat.reduceEqDiff, Nat.reduceLT] at h); try exact nz h))
        all_goals (try exact cz)
        all_goals exact ⟨_, reb_flat [2] rfl, _, rfl, rfl, rfl⟩
    · have hn : nameF s = true := (nameF_of h0 hl).2 fun j hjl => hj j (by omega)
      rw [hn]
      repeat' (first | (refine And.intro ?_ ?_) | (intro h; (try first | replace h := of_decide_eq_true h | replace h := of_decide_eq_false h); (try simp only [sg, hx1] at h); (try simp only [sx, ↓reduceIte, Nat.reduceAdd, reduceCtorEq, Int.reduceLT, Int.reduceLE, Int.reduceSub, Nat.reduceEqDiff, Nat.reduceLT] at h); try exact nz h))
      all_goals (try exact cz)
      exact ⟨_, reb_flat [2] rfl, _, rfl, rfl, rfl⟩
end Go.Proofs.Ytajieadpaeggcaa

end
section
set_option linter.unusedVariables false
set_option linter.unusedSimpArgs false
namespace Go.Proofs.Ytajieadpaeggcaa
open Go Go.Av
set_option maxRecDepth 100000
set_option maxHeartbeats 4000000
def S_name : SpecI := fun args K => ∃ s, args = [.str s] ∧ s.length ≤ 1000 ∧ K (.bool (nameF s))
theorem name_ok [Syms] : ImmOk Try.prog 113 S_name := by
  rintro args K ⟨s, rfl, h, hk⟩
  exact ⟨rfl, _, rfl, hk, fnI tys_ok fns_ok noneT_det noneT_ok mixed (name_t s h)⟩
def S_twin : SpecI := fun args K => ∃ (fs : List Fd) (ps : List Int) (i : Nat), args = [vF fs, vI ps, .int .i64 i] ∧ (i < fs.length ∧ ps.length = fs.length ∧ fs.length < 1000) ∧ K (.bool (twinF fs ps i))
theorem twin_ok [Syms] : ImmOk Try.prog 114 S_twin := by
  rintro args K ⟨fs, ps, i, rfl, ⟨h1, h2, h3⟩, hk⟩
  exact ⟨rfl, _, rfl, hk, fnI tys_ok fns_ok noneT_det noneT_ok mixed (twin_t fs ps i h1 h2 h3)⟩
abbrev cCk : CallT := pickT 113 (immT S_name) (pickT 114 (immT S_twin) noneT)
theorem cCk_ok [Syms] : cCk.ok Try.prog := pickT_imm_ok name_ok (pickT_imm_ok twin_ok noneT_ok)
theorem cCk_det [Syms] : cCk.det Try.prog := pickT_imm name_ok (pickT_imm twin_ok noneT_det)
theorem check_t [Syms] (fs : List Fd) (ps : List Int) (i : Nat) (dep : Int) (hi : i < fs.length) (hp : ps.length = fs.length) (hl : fs.length < 1000) (hnl : (fs.getD i default).name.length ≤ 1000) :
    fnT cCk cCk (fnTab fns) (tyTab tys) (plTab plt) 100 101 [vF fs, vI ps, .int .i64 i, .int .i64 dep] [] 0 (fun v H _ => v = .int .i64 (chkAt fs ps i dep) ∧ H = []) := by
  generalize he : chkAt fs ps i dep = e
  unfold chkAt chk1 at he
  cases hnm : nameF (fs.getD i default).name
  · simp only [hnm, reduceCtorEq, or_true, or_false, true_or, false_or, if_true, if_false] at he
    refine .inl ?_
    repeat' (first | (refine And.intro ?_ ?_) | (intro h; (try first | replace h := of_decide_eq_true h | replace h := of_decide_eq_false h); (try simp only [sg] at h); (try simp only [sx, ↓reduceIte, Nat.reduceAdd, reduceCtorEq, Int.reduceLT, Int.reduceLE, Int.reduceSub, Nat.reduceEqDiff, Nat.reduceLT] at h); try exact nz h))
    all_goals (try exact cz)
    all_goals (try (refine ⟨_, reb_flat [8] rfl, _, rfl, congrArg (AVal.int .i64) ?_, rfl⟩; (repeat' (split at he)) <;> omega))
    all_goals (refine ⟨(fs.getD i default).name, rfl, hnl, ?_⟩; rw [hnm])
    all_goals
      repeat' (first | (refine And.intro ?_ ?_) | (intro h; (try first | replace h := of_decide_eq_true h | replace h := of_decide_eq_false h); (try simp only [sg] at h); (try simp only [sx, ↓reduceIte, Nat.reduceAdd, reduceCtorEq, Int.reduceLT, Int.reduceLE, Int.reduceSub, Nat.reduceEqDiff, Nat.reduceLT] at h); try exact nz h))
      all_goals (try exact cz)
    all_goals (try (refine ⟨_, reb_flat [8] rfl, _, rfl, congrArg (AVal.int .i64) ?_, rfl⟩; (repeat' (split at he)) <;> omega))
  cases htw : twinF fs ps i
  all_goals
    simp only [hnm, htw, reduceCtorEq, or_true, or_false, true_or, false_or, if_true, if_false] at he
    refine .inl ?_
    repeat' (first | (refine And.intro ?_ ?_) | (intro h; (try first | replace h := of_decide_eq_true h | replace h := of_decide_eq_false h); (try simp only [sg] at h); (try simp only [sx, ↓reduceIte, Nat.reduceAdd, reduceCtorEq, Int.reduceLT, Int.reduceLE, Int.reduceSub, Nat.reduceEqDiff, Nat.reduceLT] at h); try exact nz h))
    all_goals (try exact cz)
  all_goals (try (refine ⟨_, reb_flat [8] rfl, _, rfl, congrArg (AVal.int .i64) ?_, rfl⟩; (repeat' (split at he)) <;> omega))
  all_goals (refine ⟨(fs.getD i default).name, rfl, hnl, ?_⟩; rw [hnm])
  all_goals
    repeat' (first | (refine And.intro ?_ ?_) | (intro h; (try first | replace h := of_decide_eq_true h | replace h := of_decide_eq_false h); (try simp only [sg] at h); (try simp only [sx, ↓reduceIte, Nat.reduceAdd, reduceCtorEq, Int.reduceLT, Int.reduceLE, Int.reduceSub, Nat.reduceEqDiff, Nat.reduceLT] at h); try exact nz h))
    all_goals (try exact cz)
  all_goals (try (refine ⟨_, reb_flat [8] rfl, _, rfl, congrArg (AVal.int .i64) ?_, rfl⟩; (repeat' (split at he)) <;> omega))
  all_goals (refine ⟨fs, ps, i, rfl, ⟨hi, hp, hl⟩, ?_⟩; rw [htw])
  all_goals
    repeat' (first | (refine And.intro ?_ ?_) | (intro h; (try first | replace h := of_decide_eq_true h | replace h := of_decide_eq_false h); (try simp only [sg] at h); (try simp only [sx, ↓reduceIte, Nat.reduceAdd, reduceCtorEq, Int.reduceLT, Int.reduceLE, Int.reduceSub, Nat.reduceEqDiff, Nat.reduceLT] at h); try exact nz h))
    all_goals (try exact cz)
  all_goals (try have q0 : (fs.getD i default).rep < 0 := by assumption)
  all_goals (try have q1 : 0 ≤ (fs.getD i default).rep := by assumption)
  all_goals (try have q2 : 2 < (fs.getD i default).rep := by assumption)
  all_goals (try have q3 : (fs.getD i default).rep ≤ 2 := by assumption)
  all_goals (try have q4 : (fs.getD i default).kind < 0 := by assumption)
  all_goals (try have q5 : 0 ≤ (fs.getD i default).kind := by assumption)
  all_goals (try have q6 : 4 < (fs.getD i default).kind := by assumption)
  all_goals (try have q7 : (fs.getD i default).kind ≤ 4 := by assumption)
  all_goals (try have q8 : (fs.getD i default).rep = 0 := by assumption)
  all_goals (try have q9 : ¬ (fs.getD i default).rep = 0 := by assumption)
  all_goals (try have q10 : (fs.getD i default).kind = 0 := by assumption)
  all_goals (try have q11 : ¬ (fs.getD i default).kind = 0 := by assumption)
  all_goals (try have q12 : (fs.getD i default).kids < 1 := by assumption)
  all_goals (try have q13 : 1 ≤ (fs.getD i default).kids := by assumption)
  all_goals (try have q14 : (fs.getD i default).kids = 0 := by assumption)
  all_goals (try have q15 : ¬ (fs.getD i default).kids = 0 := by assumption)
  all_goals (try (refine ⟨_, reb_flat [8] rfl, _, rfl, congrArg (AVal.int .i64) ?_, rfl⟩; (repeat' (split at he)) <;> omega))
def S_check1 : SpecI := fun args K => ∃ (fs : List Fd) (ps : List Int) (i : Nat) (dep : Int), args = [vF fs, vI ps, .int .i64 i, .int .i64 dep] ∧ (i < fs.length ∧ ps.length = fs.length ∧ fs.length < 1000 ∧ (fs.getD i default).name.length ≤ 1000) ∧ K (.int .i64 (chkAt fs ps i dep))
theorem check1_ok [Syms] : ImmOk Try.prog 101 S_check1 := by
  rintro args K ⟨fs, ps, i, dep, rfl, ⟨h1, h2, h3, h4⟩, hk⟩
  exact ⟨rfl, _, rfl, hk, fnI tys_ok fns_ok cCk_det cCk_ok mixed (check_t fs ps i dep h1 h2 h3 h4)⟩
end Go.Proofs.Ytajieadpaeggcaa

end
