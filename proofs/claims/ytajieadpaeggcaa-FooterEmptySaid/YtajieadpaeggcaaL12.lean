/-
  What may be of all that is said. The program's. What a file says of itself, read. The program's. A schema's bytes. The program's.
-/
import Derived.Test.YtajieadpaeggcaaL11
import Derived.Test.YtajieadpaeggcaaL7
import Derived.Test.YtajieadpaeggcaaL4
set_option linter.unusedVariables false
set_option linter.unusedSimpArgs false
section
set_option linter.unusedVariables false
set_option linter.unusedSimpArgs false
namespace Go.Proofs.Ytajieadpaeggcaa
open Go Go.Av
set_option maxRecDepth 100000
set_option maxHeartbeats 4000000
structure RwOk (L : Nat) (g : Rw) : Prop where
  n : 0 ≤ g.n ∧ g.n ≤ 1048576
  len : g.chunks.length ≤ L
  pages : ∀ c ∈ g.chunks, (∀ p ∈ c.pages, PgOk p) ∧ c.pages.length ≤ 200
structure MtOk (m : Mt) : Prop where
  fs : FsOk m.s
  len : m.groups.length ≤ 200
  groups : ∀ g ∈ m.groups, RwOk (leavesF m.s).length g
theorem sumR_app : ∀ (l m : List Rw), sumR (l ++ m) = sumR l + sumR m
  | [], m => by rw [List.nil_append, sumR]; omega
  | x :: l, m => by rw [List.cons_append, sumR, sumR, sumR_app l m]; omega
theorem sumR_take {l : List Rw} {i : Nat} (h : i < l.length) : sumR (l.take (i + 1)) = sumR (l.take i) + (l.getD i default).n := by
  rw [List.take_add_one, sumR_app, List.getD_eq_getElem?_getD, List.getElem?_eq_getElem h]
  simp [sumR]
theorem sumR_le : ∀ (l : List Rw), (∀ g ∈ l, 0 ≤ g.n ∧ g.n ≤ 1048576) → 0 ≤ sumR l ∧ sumR l ≤ 1048576 * l.length
  | [], _ => ⟨Int.le_refl _, by simp [sumR]⟩
  | x :: l, h => by
    have h1 := h x (List.mem_cons_self ..)
    have h2 := sumR_le l fun p hp => h p (List.mem_cons_of_mem _ hp)
    rw [sumR, List.length_cons]
    omega
theorem allR_take (f : Rw → Bool) {l : List Rw} {i : Nat} (h : i < l.length) : (l.take (i + 1)).all f = ((l.take i).all f && f (l.getD i default)) := by
  rw [List.take_add_one, List.all_append, List.getD_eq_getElem?_getD, List.getElem?_eq_getElem h]
  simp
theorem sounds_drop {n : Int} {ls : List Lf} {cs : List Ck} {j : Nat} (h1 : j < cs.length) (h2 : cs.length ≤ ls.length) : soundsF n ((kindsL ls).drop j) (cs.drop j) = (soundF (ls.getD j default).kind n (cs.getD j default) && soundsF n ((kindsL ls).drop (j + 1)) (cs.drop (j + 1))) := by
  have e1 : (kindsL ls).drop j = (ls.getD j default).kind :: (kindsL ls).drop (j + 1) := by
    rw [List.drop_eq_getElem_cons (by simp; omega)]
    simp [show j < ls.length by omega]
  have e2 : cs.drop j = cs.getD j default :: cs.drop (j + 1) := by
    rw [List.drop_eq_getElem_cons h1]
    simp [h1]
  rw [e1, e2, soundsF]
noncomputable def plWh : Nat → Nat → Pl := plAdd [(28, 5), (28, 11)] (plTab plt)
abbrev dWh : CallT := pickT 60 (immT S_sound) noneT
theorem dWh_ok [Syms] : dWh.det Try.prog := pickT_imm sound_ok noneT_det
abbrev cWh : CallT := pickT 44 (immT (seeW S_leaves)) noneT
theorem cWh_ok [Syms] : cWh.ok Try.prog := pickT_imm_ok leaves_ok.seeW noneT_ok
def whS (m : Mt) (ls : List Lf) (i : Nat) (sm : Int) : St := ⟨[(1, .ptr 0 0 0), (3, vL ls), (4, .int .i64 sm), (13, vR m.groups), (14, .int .i64 m.groups.length), (15, .int .i64 i)], [(0, some (.cells [encM m] false))], 1⟩
def whB (m : Mt) (ls : List Lf) (i : Nat) (sm : Int) (g : Rw) : St := ⟨[(1, .ptr 0 0 0), (3, vL ls), (4, .int .i64 sm), (6, .ptr 1 0 0), (13, vR m.groups), (14, .int .i64 m.groups.length), (15, .int .i64 i)], [(0, some (.cells [encM m] false)), (1, some (.cells [encR g] false))], 2⟩
def whI (m : Mt) (ls : List Lf) (i : Nat) (sm : Int) (g : Rw) (j : Nat) : St := ⟨[(1, .ptr 0 0 0), (3, vL ls), (4, .int .i64 sm), (6, .ptr 1 0 0), (13, vR m.groups), (14, .int .i64 m.groups.length), (15, .int .i64 i), (27, vC g.chunks), (28, .int .i64 g.chunks.length), (29, .int .i64 j)], [(0, some (.cells [encM m] false)), (1, some (.cells [encR g] false))], 2⟩
def whC (m : Mt) (ls : List Lf) (i : Nat) (sm : Int) (g : Rw) (j : Nat) (c : Ck) : St := ⟨[(1, .ptr 0 0 0), (3, vL ls), (4, .int .i64 sm), (6, .ptr 1 0 0), (7, .int .i64 j), (8, .ptr 2 0 0), (13, vR m.groups), (14, .int .i64 m.groups.length), (15, .int .i64 i), (27, vC g.chunks), (28, .int .i64 g.chunks.length), (29, .int .i64 j)], [(0, some (.cells [encM m] false)), (1, some (.cells [encR g] false)), (2, some (.cells [encC c] false))], 3⟩
theorem whole_t [Syms] (m : Mt) (h : MtOk m) :
    fnT dWh cWh (fnTab fns) (tyTab tys) plWh 100 28 [.agg (encM m)] [] 0 (fun v H _ => v = .bool (wholeF m) ∧ H = []) := by
  obtain ⟨hfs, hgl, hgr⟩ := h
  repeat' (first | (refine And.intro ?_ ?_) | (intro h; (try first | replace h := of_decide_eq_true h | replace h := of_decide_eq_false h); (try simp only [sg, sq] at h); (try simp only [sx, ↓reduceIte, Nat.reduceAdd, reduceCtorEq, Int.reduceLT, Int.reduceLE, Int.reduceSub, Nat.reduceEqDiff, Nat.reduceLT] at h); try exact nz h))
  all_goals (try exact cz)
  refine ⟨[vF m.s], ⟨.tab rfl, trivial⟩, m.s, rfl, hfs, ?_⟩
  have hll : (leavesF m.s).length ≤ 1000 := by have h1 : (leavesF m.s).length ≤ m.s.length := lvOut_len_le _ _ _; have h2 := hfs.len; omega
  have hwh : wholeF m = ((m.groups.all fun g => decide (g.n ≠ 0) && soundsF g.n (kindsL (leavesF m.s)) g.chunks) && decide (sumR m.groups = m.n ∧ sumR m.groups ≤ 200)) := rfl
  generalize leavesF m.s = ls at *
  repeat' (first | (refine And.intro ?_ ?_) | (intro h; (try first | replace h := of_decide_eq_true h | replace h := of_decide_eq_false h); (try simp only [sg, sq] at h); (try simp only [sx, ↓reduceIte, Nat.reduceAdd, reduceCtorEq, Int.reduceLT, Int.reduceLE, Int.reduceSub, Nat.reduceEqDiff, Nat.reduceLT] at h); try exact nz h))
  all_goals (try exact cz)
  refine ⟨fun q s => ∃ (i : Nat) (sm : Int), (i ≤ m.groups.length ∧ q = m.groups.length - i ∧ sm = sumR (m.groups.take i) ∧ (m.groups.take i).all (fun g => decide (g.n ≠ 0) && soundsF g.n (kindsL ls) g.chunks) = true) ∧ s = whS m ls i sm, ⟨_, whS m ls 0 0, reb_num [0] (by exact rfl) ⟨.refl _, .refl _, .refl _, .tab rfl, wk_int (by show ((List.length _ : Nat) : Int) = _; rw [List.length_map]), .refl _, trivial⟩ ⟨⟨by decide, _, rfl, .refl _⟩, trivial⟩, 0, 0, ⟨by omega, rfl, rfl, rfl⟩, rfl⟩, ?_⟩
  rintro q s ⟨i, sm, ⟨hi, rfl, hsm, hal⟩, rfl⟩
  have hb := sumR_le (m.groups.take i) fun p hq => (hgr p (List.mem_of_mem_take hq)).n
  have htl : (m.groups.take i).length ≤ 200 := by rw [List.length_take]; omega
  rw [← hsm] at hb
  by_cases h1 : i < m.groups.length
  · have hgi : RwOk ls.length (m.groups.getD i default) := by
      rw [List.getD_eq_getElem?_getD, List.getElem?_eq_getElem h1]; exact hgr _ (List.getElem_mem h1)
    have e1 := sumR_take h1
    have e2 := allR_take (fun g => decide (g.n ≠ 0) && soundsF g.n (kindsL ls) g.chunks) h1
    have hbad : (decide ((m.groups.getD i default).n ≠ 0) && soundsF (m.groups.getD i default).n (kindsL ls) (m.groups.getD i default).chunks) = false → wholeF m = false := by
      intro hb
      have : (m.groups.all fun g => decide (g.n ≠ 0) && soundsF g.n (kindsL ls) g.chunks) = false := by
        rw [List.all_eq_false]
        refine ⟨_, List.getElem_mem h1, ?_⟩
        rw [List.getD_eq_getElem?_getD, List.getElem?_eq_getElem h1] at hb
        rw [show m.groups[i] = (some m.groups[i]).getD default from rfl, hb]; decide
      rw [hwh, this]; rfl
    rw [← hsm] at e1
    rw [hal] at e2
    obtain ⟨hn, hcl, hpg⟩ := hgi
    repeat' (first | (refine And.intro ?_ ?_) | (intro h; (try first | replace h := of_decide_eq_true h | replace h := of_decide_eq_false h); (try simp only [sg, sq] at h); (try simp only [sx, ↓reduceIte, Nat.reduceAdd, reduceCtorEq, Int.reduceLT, Int.reduceLE, Int.reduceSub, Nat.reduceEqDiff, Nat.reduceLT] at h); try exact nz h))
    all_goals (try exact cz)
    all_goals (try ((with_reducible first | show (_ : Int) ≤ _ | show (_ : Int) < _); (try simp only [sg, sq]); omega))
    refine ⟨whB m ls i sm (m.groups.getD i default), reb_num [0, 1] (by exact rfl) ⟨.refl _, .refl _, .refl _, .refl _, .refl _, .refl _, .refl _, trivial⟩ ⟨⟨by decide, _, rfl, .refl _⟩, ⟨by decide, _, rfl, wkB_row (row := encR (m.groups.getD i default)) ⟨.refl _, .refl _, trivial⟩ (eR _)⟩, trivial⟩, ?_⟩
    generalize m.groups.getD i default = g at *
    by_cases h2 : g.n = 0
    · repeat' (first | (refine And.intro ?_ ?_) | (intro h; (try first | replace h := of_decide_eq_true h | replace h := of_decide_eq_false h); (try simp only [sg, sq] at h); (try simp only [sx, ↓reduceIte, Nat.reduceAdd, reduceCtorEq, Int.reduceLT, Int.reduceLE, Int.reduceSub, Nat.reduceEqDiff, Nat.reduceLT] at h); try exact nz h))
      all_goals (try exact cz)
      all_goals (try ((with_reducible first | show (_ : Int) ≤ _ | show (_ : Int) < _); (try simp only [sg, sq]); omega))
      exact ⟨_, reb_flat [2] rfl, _, rfl, by rw [hbad (by rw [h2]; rfl)]; rfl, rfl⟩
    · rw [decide_eq_true h2, Bool.true_and] at hbad e2
      repeat' (first | (refine And.intro ?_ ?_) | (intro h; (try first | replace h := of_decide_eq_true h | replace h := of_decide_eq_false h); (try simp only [sg, sq] at h); (try simp only [sx, ↓reduceIte, Nat.reduceAdd, reduceCtorEq, Int.reduceLT, Int.reduceLE, Int.reduceSub, Nat.reduceEqDiff, Nat.reduceLT] at h); try exact nz h))
      all_goals (try exact cz)
      all_goals (try ((with_reducible first | show (_ : Int) ≤ _ | show (_ : Int) < _); (try simp only [sg, sq]); omega))
      refine ⟨fun q s => ∃ (j : Nat), (j ≤ g.chunks.length ∧ q = g.chunks.length - j ∧ soundsF g.n (kindsL ls) g.chunks = soundsF g.n ((kindsL ls).drop j) (g.chunks.drop j)) ∧ s = whI m ls i (sm + g.n) g j, ⟨_, whI m ls i (sm + g.n) g 0, reb_num [0, 1] (by exact rfl) ⟨.refl _, .refl _, .refl _, .refl _, .refl _, .refl _, .refl _, .tab rfl, wk_int (by show (((g.chunks.map encC).length : Nat) : Int) = _; rw [List.length_map]), .refl _, trivial⟩ ⟨⟨by decide, _, rfl, .refl _⟩, ⟨by decide, _, rfl, .refl _⟩, trivial⟩, 0, ⟨by omega, rfl, rfl⟩, rfl⟩, ?_⟩
      rintro q s ⟨j, ⟨hj, rfl, hso⟩, rfl⟩
      by_cases h3 : j < g.chunks.length
      · have hd := sounds_drop (n := g.n) h3 hcl
        have hpj : (∀ p ∈ (g.chunks.getD j default).pages, PgOk p) ∧ (g.chunks.getD j default).pages.length ≤ 200 := by
          rw [List.getD_eq_getElem?_getD, List.getElem?_eq_getElem h3]; exact hpg _ (List.getElem_mem h3)
        repeat' (first | (refine And.intro ?_ ?_) | (intro h; (try first | replace h := of_decide_eq_true h | replace h := of_decide_eq_false h); (try simp only [sg, sq] at h); (try simp only [sx, ↓reduceIte, Nat.reduceAdd, reduceCtorEq, Int.reduceLT, Int.reduceLE, Int.reduceSub, Nat.reduceEqDiff, Nat.reduceLT] at h); try exact nz h))
        all_goals (try exact cz)
        all_goals (try ((with_reducible first | show (_ : Int) ≤ _ | show (_ : Int) < _); (try simp only [sg, sq]); omega))
        refine ⟨whC m ls i (sm + g.n) g j (g.chunks.getD j default), reb_num [0, 1, 2] (by exact rfl) ⟨.refl _, .refl _, .refl _, .refl _, .refl _, .refl _, .refl _, .refl _, .refl _, .refl _, .refl _, .refl _, trivial⟩ ⟨⟨by decide, _, rfl, .refl _⟩, ⟨by decide, _, rfl, .refl _⟩, ⟨by decide, _, rfl, wkB_row (row := encC (g.chunks.getD j default)) ⟨.refl _, .refl _, .refl _, .refl _, .refl _, .refl _, .refl _, .refl _, .refl _, .refl _, .refl _, trivial⟩ (eC _)⟩, trivial⟩, ?_⟩
        generalize g.chunks.getD j default = c at *
        repeat' (first | (refine And.intro ?_ ?_) | (intro h; (try first | replace h := of_decide_eq_true h | replace h := of_decide_eq_false h); (try simp only [sg, sq] at h); (try simp only [sx, ↓reduceIte, Nat.reduceAdd, reduceCtorEq, Int.reduceLT, Int.reduceLE, Int.reduceSub, Nat.reduceEqDiff, Nat.reduceLT] at h); try exact nz h))
        all_goals (try exact cz)
        all_goals (try ((with_reducible first | show (_ : Int) ≤ _ | show (_ : Int) < _); (try simp only [sg, sq]); omega))
        refine ⟨(ls.getD j default).kind, g.n, c, rfl, hpj, ?_⟩
        cases hs : soundF (ls.getD j default).kind g.n c
        · skip
          have hx1 := hs
          have hx2 := hs
          have hx3 := hs
          have hx4 := hs
          repeat' (first | (refine And.intro ?_ ?_) | (intro h; (try first | replace h := of_decide_eq_true h | replace h := of_decide_eq_false h); (try simp only [sg, sq, hx1, hx2, hx3, hx4] at h); (try simp only [sx, ↓reduceIte, Nat.reduceAdd, reduceCtorEq, Int.reduceLT, Int.reduceLE, Int.reduceSub, Nat.reduceEqDiff, Nat.reduceLT] at h); try exact nz h))
          all_goals (try exact cz)
          all_goals (try ((with_reducible first | show (_ : Int) ≤ _ | show (_ : Int) < _); (try simp only [sg, sq]); omega))
          exact ⟨_, reb_flat [2] rfl, _, rfl, by rw [hbad (by rw [hso, hd, hs]; rfl)]; rfl, rfl⟩
        · rw [hs, Bool.true_and] at hd
          have hx1 := hs
          have hx2 := hs
          have hx3 := hs
          have hx4 := hs
          repeat' (first | (refine And.intro ?_ ?_) | (intro h; (try first | replace h := of_decide_eq_true h | replace h := of_decide_eq_false h); (try simp only [sg, sq, hx1, hx2, hx3, hx4] at h); (try simp only [sx, ↓reduceIte, Nat.reduceAdd, reduceCtorEq, Int.reduceLT, Int.reduceLE, Int.reduceSub, Nat.reduceEqDiff, Nat.reduceLT] at h); try exact nz h))
          all_goals (try exact cz)
          all_goals (try ((with_reducible first | show (_ : Int) ≤ _ | show (_ : Int) < _); (try simp only [sg, sq]); omega))
          exact ⟨_, whI m ls i (sm + g.n) g (j + 1), reb_num [0, 1] (by exact rfl) ⟨.refl _, .refl _, .refl _, .refl _, .refl _, .refl _, .refl _, .refl _, .refl _, wk_int (by omega), trivial⟩ ⟨⟨by decide, _, rfl, .refl _⟩, ⟨by decide, _, rfl, .refl _⟩, trivial⟩, ⟨j + 1, ⟨by omega, rfl, by rw [hso, hd]⟩, rfl⟩, by omega⟩
      · obtain rfl : j = g.chunks.length := by omega
        have hs1 : soundsF g.n (kindsL ls) g.chunks = true := by
          rw [hso, List.drop_length]
          cases (kindsL ls).drop g.chunks.length <;> rfl
        rw [hs1] at e2
        repeat' (first | (refine And.intro ?_ ?_) | (intro h; (try first | replace h := of_decide_eq_true h | replace h := of_decide_eq_false h); (try simp only [sg, sq] at h); (try simp only [sx, ↓reduceIte, Nat.reduceAdd, reduceCtorEq, Int.reduceLT, Int.reduceLE, Int.reduceSub, Nat.reduceEqDiff, Nat.reduceLT] at h); try exact nz h))
        all_goals (try exact cz)
        all_goals (try ((with_reducible first | show (_ : Int) ≤ _ | show (_ : Int) < _); (try simp only [sg, sq]); omega))
        exact ⟨_, whS m ls (i + 1) (sm + g.n), reb_num [0] (by exact rfl) ⟨.refl _, .refl _, .refl _, .refl _, .refl _, wk_int (by omega), trivial⟩ ⟨⟨by decide, _, rfl, .refl _⟩, trivial⟩, ⟨i + 1, sm + g.n, ⟨by omega, rfl, e1.symm, e2⟩, rfl⟩, by omega⟩
  · obtain rfl : i = m.groups.length := by omega
    rw [List.take_length] at hsm hal
    rw [hwh, hal, ← hsm, Bool.true_and]
    have hx1 : (encM m).getD 1 .any = .int .i64 m.n := rfl
    have hx2 : (encM m).getD (0 + 1) .any = .int .i64 m.n := rfl
    have hx3 := hx1
    have hx4 := hx2
    clear hsm hwh
    by_cases h2 : sm = m.n
    · by_cases h3 : sm ≤ 200
      · repeat' (first | (refine And.intro ?_ ?_) | (intro h; (try first | replace h := of_decide_eq_true h | replace h := of_decide_eq_false h); (try simp only [sg, sq, hx1, hx2, hx3, hx4] at h); (try simp only [sx, ↓reduceIte, Nat.reduceAdd, reduceCtorEq, Int.reduceLT, Int.reduceLE, Int.reduceSub, Nat.reduceEqDiff, Nat.reduceLT] at h); try exact nz h))
        all_goals (try exact cz)
        all_goals (try ((with_reducible first | show (_ : Int) ≤ _ | show (_ : Int) < _); (try simp only [sg, sq]); omega))
        all_goals exact ⟨_, reb_flat [2] rfl, _, rfl, congrArg AVal.bool (by simp [*]), rfl⟩
      · repeat' (first | (refine And.intro ?_ ?_) | (intro h; (try first | replace h := of_decide_eq_true h | replace h := of_decide_eq_false h); (try simp only [sg, sq, hx1, hx2, hx3, hx4] at h); (try simp only [sx, ↓reduceIte, Nat.reduceAdd, reduceCtorEq, Int.reduceLT, Int.reduceLE, Int.reduceSub, Nat.reduceEqDiff, Nat.reduceLT] at h); try exact nz h))
        all_goals (try exact cz)
        all_goals (try ((with_reducible first | show (_ : Int) ≤ _ | show (_ : Int) < _); (try simp only [sg, sq]); omega))
        all_goals exact ⟨_, reb_flat [2] rfl, _, rfl, congrArg AVal.bool (by simp [*]), rfl⟩
    · repeat' (first | (refine And.intro ?_ ?_) | (intro h; (try first | replace h := of_decide_eq_true h | replace h := of_decide_eq_false h); (try simp only [sg, sq, hx1, hx2, hx3, hx4] at h); (try simp only [sx, ↓reduceIte, Nat.reduceAdd, reduceCtorEq, Int.reduceLT, Int.reduceLE, Int.reduceSub, Nat.reduceEqDiff, Nat.reduceLT] at h); try exact nz h))
      all_goals (try exact cz)
      all_goals (try ((with_reducible first | show (_ : Int) ≤ _ | show (_ : Int) < _); (try simp only [sg, sq]); omega))
      all_goals exact ⟨_, reb_flat [2] rfl, _, rfl, congrArg AVal.bool (by simp [*]), rfl⟩
def S_whole : SpecI := fun args K => ∃ m, args = [.agg (encM m)] ∧ MtOk m ∧ K (.bool (wholeF m))
theorem whole_ok [Syms] : ImmOk Try.prog 28 S_whole := by
  rintro args K ⟨m, rfl, h, hk⟩
  exact ⟨rfl, _, rfl, hk, fnI tys_ok fns_ok dWh_ok cWh_ok mixed (whole_t m h)⟩
end Go.Proofs.Ytajieadpaeggcaa

end
section
set_option linter.unusedVariables false
set_option linter.unusedSimpArgs false
namespace Go.Proofs.Ytajieadpaeggcaa
open Go Go.Av
set_option maxRecDepth 100000
set_option maxHeartbeats 4000000
theorem plainR_le (r : BR) : (plainR r).1 ≤ 1048576 := numR_le (by decide) r
theorem pageR_ok (r : BR) : PgOk (pageR r).1 := by
  have h1 := plainR_le r
  have h2 := plainR_le (plainR r).2
  show (0 ≤ (((plainR r).1 : Nat) : Int) ∧ (((plainR r).1 : Nat) : Int) ≤ 1048576) ∧ (0 ≤ (((plainR (plainR r).2).1 : Nat) : Int) ∧ (((plainR (plainR r).2).1 : Nat) : Int) ≤ 1048576)
  omega
theorem pagesR_ok : ∀ (k : Nat) (r : BR) (s : List Pg), (∀ p ∈ s, PgOk p) → (∀ p ∈ (pagesR k r s).1, PgOk p) ∧ (pagesR k r s).1.length ≤ s.length + k
  | 0, r, s, h => ⟨h, Nat.le_refl _⟩
  | k + 1, r, s, h => by
    rw [pagesR]
    split
    · exact ⟨h, by dsimp only; omega⟩
    · obtain ⟨h1, h2⟩ := pagesR_ok k (pageR r).2 (s ++ [(pageR r).1]) fun p hp => by
        rcases List.mem_append.1 hp with k | k
        · exact h p k
        · rw [List.mem_singleton.1 k]; exact pageR_ok r
      exact ⟨h1, by rw [List.length_append] at h2; simp at h2; omega⟩
theorem chunkR_ok (k : Int) (r : BR) : (∀ p ∈ (chunkR k r).1.pages, PgOk p) ∧ (chunkR k r).1.pages.length ≤ 200 := by
  obtain ⟨h1, h2⟩ := pagesR_ok (numR 200 4 (ckR0 r).2).1 (numR 200 4 (ckR0 r).2).2 [] (fun p hp => nomatch hp)
  have h3 := numR_le (m := 200) (w := 4) (by decide) (ckR0 r).2
  refine ⟨h1, ?_⟩
  show (pagesR (numR 200 4 (ckR0 r).2).1 (numR 200 4 (ckR0 r).2).2 []).1.length ≤ 200
  simp at h2
  omega
theorem chunksR_ok : ∀ (ks : List Int) (r : BR) (s : List Ck), (∀ c ∈ s, (∀ p ∈ c.pages, PgOk p) ∧ c.pages.length ≤ 200) → (∀ c ∈ (chunksR ks r s).1, (∀ p ∈ c.pages, PgOk p) ∧ c.pages.length ≤ 200) ∧ (chunksR ks r s).1.length ≤ s.length + ks.length
  | [], r, s, h => ⟨h, Nat.le_refl _⟩
  | k :: ks, r, s, h => by
    rw [chunksR]
    split
    · exact ⟨h, by dsimp only; omega⟩
    · obtain ⟨h1, h2⟩ := chunksR_ok ks (chunkR k r).2 (s ++ [(chunkR k r).1]) fun p hp => by
        rcases List.mem_append.1 hp with j | j
        · exact h p j
        · rw [List.mem_singleton.1 j]; exact chunkR_ok k r
      exact ⟨h1, by rw [List.length_append] at h2; simp at h2 ⊢; omega⟩
theorem groupR_ok (ks : List Int) (r : BR) : RwOk ks.length (groupR ks r).1 := by
  obtain ⟨h1, h2⟩ := chunksR_ok ks (plainR r).2 [] (fun p hp => nomatch hp)
  have h3 := plainR_le r
  refine ⟨?_, ?_, h1⟩
  · show 0 ≤ (((plainR r).1 : Nat) : Int) ∧ (((plainR r).1 : Nat) : Int) ≤ 1048576; omega
  · show (chunksR ks (plainR r).2 []).1.length ≤ ks.length
    simpa using h2
theorem groupsR_ok (ks : List Int) : ∀ (k : Nat) (r : BR) (s : List Rw), (∀ g ∈ s, RwOk ks.length g) → (∀ g ∈ (groupsR ks k r s).1, RwOk ks.length g) ∧ (groupsR ks k r s).1.length ≤ s.length + k
  | 0, r, s, h => ⟨h, Nat.le_refl _⟩
  | k + 1, r, s, h => by
    rw [groupsR]
    split
    · exact ⟨h, by dsimp only; omega⟩
    · obtain ⟨h1, h2⟩ := groupsR_ok ks k (groupR ks r).2 (s ++ [(groupR ks r).1]) fun p hp => by
        rcases List.mem_append.1 hp with j | j
        · exact h p j
        · rw [List.mem_singleton.1 j]; exact groupR_ok ks r
      exact ⟨h1, by rw [List.length_append] at h2; simp at h2; omega⟩
theorem metaR_ok (r : BR) : MtOk (metaR r).1 := by
  unfold metaR
  dsimp only
  split
  · exact ⟨FdsOk.fs (fs := []) (fun f hf => nomatch hf) (Nat.zero_le _), Nat.zero_le _, fun g hg => nomatch hg⟩
  · generalize (takeR (numR 2000 5 r).1 (numR 2000 5 r).2) = y
    obtain ⟨h1, h2⟩ := parseSF_ok y.1
    have h4 := numR_le (m := 200) (w := 4) (by decide) (plainR (failR y.2 (parseSF y.1).2)).2
    obtain ⟨h5, h6⟩ := groupsR_ok (kindsF (parseSF y.1).1) (numR 200 4 (plainR (failR y.2 (parseSF y.1).2)).2).1 (numR 200 4 (plainR (failR y.2 (parseSF y.1).2)).2).2 [] (fun p hp => nomatch hp)
    refine ⟨h1.fs h2, ?_, fun g hg => ?_⟩
    · simp at h6; show (groupsR _ _ _ _).1.length ≤ 200; omega
    · have := h5 g hg
      rwa [show (kindsF (parseSF y.1).1).length = (leavesF (parseSF y.1).1).length from List.length_map ..] at this
abbrev cFpa : CallT := pickT 26 (specT S_fmeta) (pickT 27 (specT S_ffail) (pickT 28 (immT S_whole) noneT))
theorem cFpa_ok [Syms] : cFpa.ok Try.prog := pickT_spec fmeta_ok (pickT_spec ffail_ok (pickT_imm_ok whole_ok noneT_ok))
noncomputable def plFp : Nat → Nat → Pl := plAdd [(15, 1), (15, 2), (15, 8)] (plTab plt)
def fpS (r : BR) (m : Mt) : St := ⟨[(2, .ptr 1 0 0), (3, .int .i64 0), (4, .ptr 0 0 0), (5, .ptr 2 0 0)], [(0, rdB r), (1, some (.cells [rowM .nils 0 .nils] false)), (2, some (.cells [encM m] false))], 3⟩
theorem fin_fp [Syms] {Post : AVal → Heap → Nat → Prop} {N nx : Nat} {x : Int} {e : Env} {H : Heap} {row : List AVal} {m : Mt} {p : Mt × Int} {rs : List ResultVar} (h2 : e.get 2 = .ptr 1 0 0) (h3 : e.get 3 = .int .i64 x) (H1 : H.get 1 = some (.cells [row] false)) (hrow : WkVs row (encM m)) (hn : NumsOk 0 nx [0, 1] = true) (hp : p = (m, x))
    (hrs : resultsA (tyTab tys) ⟨[(2, .ptr 1 0 0), (3, .int .i64 x)], [(1, some (.cells [encM m] false))], 2⟩ rs = some (.tup [.agg (encM m), .int .i64 x])) (hP : Post (.tup [.agg (encM p.1), .int .i64 p.2]) [] 2) :
    ∃ s3, Reb 0 N ⟨e, H, nx⟩ s3 ∧ ∃ v, resultsA (tyTab tys) s3 rs = some v ∧ subP Post v s3.heap s3.nx := by
  subst hp
  exact ⟨⟨[(2, .ptr 1 0 0), (3, .int .i64 x)], [(1, some (.cells [encM m] false))], 2⟩, reb_num [0, 1] hn ⟨by rw [h2]; exact .refl _, by rw [h3]; exact .refl _, trivial⟩ ⟨⟨Nat.lt_succ_self _, _, H1, wkB_row hrow (eM m)⟩, trivial⟩, _, hrs, [], fun n b h => (by rw [Heap.get_nil] at h; cases h), hP⟩
def fpZ (x : Int) : St := ⟨[(2, .ptr 1 0 0), (3, .int .i64 x)], [(1, some (.cells [encM mt0] false))], 2⟩
theorem fpz_reb [Syms] {N nx : Nat} {e : Env} {H : Heap} {x x' : Int} (h2 : e.get 2 = .ptr 1 0 0) (h3 : e.get 3 = .int .i64 x') (hx : x' = x) (H1 : H.get 1 = some (.cells [[.nils, .int .i64 0, .nils]] false)) (hn : NumsOk 0 nx [0, 1] = true) : Reb 0 N ⟨e, H, nx⟩ (fpZ x) := by
  subst hx
  exact reb_num [0, 1] hn ⟨by rw [h2]; exact .refl _, by rw [h3]; exact .refl _, trivial⟩ ⟨⟨Nat.lt_succ_self _, _, H1, wkB_row (row := encM mt0) ⟨.zero _ _ rfl, .refl _, .zero _ _ rfl, trivial⟩ (eM mt0)⟩, trivial⟩
/-- What is answered, of what was read and the reader. -/
def finMF (q : Mt × BR) : Mt × Int :=
  let r1 := if q.2.b ≠ [] then failR q.2 9 else q.2
  let r2 := if r1.e = 0 ∧ wholeF q.1 = false then failR r1 10 else r1
  if r2.e ≠ 0 then (mt0, r2.e) else (q.1, 0)
theorem finMF_eq {m : Mt} {r r1 r2 : BR} (h1 : (if r.b ≠ [] then failR r 9 else r) = r1) (h2 : (if r1.e = 0 ∧ wholeF m = false then failR r1 10 else r1) = r2) : finMF (m, r) = if r2.e ≠ 0 then (mt0, r2.e) else (m, 0) := by subst h1 h2; rfl
theorem finMF_bad {m : Mt} {b : List UInt8} {e : Int} (h : e ≠ 0) : finMF (m, ⟨b, e⟩) = (mt0, e) := by
  have hf : failR ⟨b, e⟩ 9 = ⟨b, e⟩ := if_neg h
  have he : (if b ≠ [] then failR ⟨b, e⟩ 9 else ⟨b, e⟩) = ⟨b, e⟩ := by rw [hf]; split <;> rfl
  exact (finMF_eq he (if_neg (fun hh => h hh.1))).trans (if_pos h)
theorem finMF_more {m : Mt} {b : List UInt8} (h : b ≠ []) : finMF (m, ⟨b, 0⟩) = (mt0, 9) :=
  (finMF_eq (r1 := ⟨b, 9⟩) (r2 := ⟨b, 9⟩) (if_pos h) (if_neg (fun hh => absurd (show (9 : Int) = 0 from hh.1) (by decide)))).trans (if_pos (show (9 : Int) ≠ 0 by decide))
theorem finMF_end {m : Mt} : finMF (m, ⟨[], 0⟩) = if wholeF m = false then (mt0, 10) else (m, 0) := by
  unfold finMF
  cases h : wholeF m <;> simp [h, failR]
theorem fparse_t [Syms] {Post : AVal → Heap → Nat → Prop} (b : List UInt8) (hl : b.length ≤ 1000000) (p : Mt × Int) (hp : p = parseMF b) (hP : Post (.tup [.agg (encM p.1), .int .i64 p.2]) [] 2) :
    fnT noneT cFpa (fnTab fns) (tyTab tys) plFp 100 15 [vB b] [] 0 (subP Post) := by
  repeat' (first | (refine And.intro ?_ ?_) | (intro h; (try first | replace h := of_decide_eq_true h | replace h := of_decide_eq_false h); (try simp only [sg] at h); (try simp only [sx, ↓reduceIte, Nat.reduceAdd, reduceCtorEq, Int.reduceLT, Int.reduceLE, Int.reduceSub, Nat.reduceEqDiff, Nat.reduceLT] at h); try exact nz h))
  all_goals (try exact cz)
  refine ⟨⟨[(2, .ptr 1 0 0), (3, .int .i64 0), (4, .ptr 0 0 0)], [(0, rdB ⟨b, 0⟩), (1, some (.cells [rowM .nils 0 .nils] false))], 2⟩, reb_num [1, 0] (by exact rfl) ⟨.refl _, .refl _, .refl _, trivial⟩ ⟨⟨by decide, _, rfl, .refl _⟩, ⟨by decide, _, rfl, .refl _⟩, trivial⟩, ?_⟩
  refine ⟨[0], [.ptr 0 0 0], [(0, rdB ⟨b, 0⟩)], rfl, ⟨.refl _, trivial⟩, ⟨⟨by decide, _, rfl, .refl _⟩, trivial⟩, ⟨b, 0⟩, rfl, rfl, rfl, hl, ?_⟩
  have hok := metaR_ok ⟨b, 0⟩
  have hp : p = finMF (metaR ⟨b, 0⟩) := hp
  generalize metaR ⟨b, 0⟩ = q at *
  obtain ⟨m, b', e'⟩ := q
  dsimp only at hok
  repeat' (first | (refine And.intro ?_ ?_) | (intro h; (try first | replace h := of_decide_eq_true h | replace h := of_decide_eq_false h); (try simp only [sg] at h); (try simp only [sx, ↓reduceIte, Nat.reduceAdd, reduceCtorEq, Int.reduceLT, Int.reduceLE, Int.reduceSub, Nat.reduceEqDiff, Nat.reduceLT] at h); try exact nz h))
  all_goals (try exact cz)
  refine ⟨fpS ⟨b', e'⟩ m, reb_num [0, 1, 4] (by exact rfl) ⟨.refl _, .refl _, .refl _, .refl _, trivial⟩ ⟨⟨by decide, _, rfl, .refl _⟩, ⟨by decide, _, rfl, .refl _⟩, ⟨by decide, _, rfl, wkB_row (row := encM m) ⟨.refl _, .refl _, .refl _, trivial⟩ (eM _)⟩, trivial⟩, ?_⟩
  by_cases hb : b' = []
  · subst hb
    by_cases he : e' = 0
    · subst he
      rw [finMF_end] at hp
      cases hw : wholeF m
      · rw [if_pos hw] at hp
        repeat' (first | (refine And.intro ?_ ?_) | (intro h; (try first | replace h := of_decide_eq_true h | replace h := of_decide_eq_false h); (try simp only [sg, sq] at h); (try simp only [sx, ↓reduceIte, Nat.reduceAdd, reduceCtorEq, Int.reduceLT, Int.reduceLE, Int.reduceSub, Nat.reduceEqDiff, Nat.reduceLT] at h); try exact nz h))
        all_goals (try exact cz)
        refine ⟨m, rfl, hok, ?_⟩
        have hx1 := hw
        have hx2 := hw
        have hx3 := hw
        have hx4 := hw
        repeat' (first | (refine And.intro ?_ ?_) | (intro h; (try first | replace h := of_decide_eq_true h | replace h := of_decide_eq_false h); (try simp only [sg, sq, hx1, hx2, hx3, hx4] at h); (try simp only [sx, ↓reduceIte, Nat.reduceAdd, reduceCtorEq, Int.reduceLT, Int.reduceLE, Int.reduceSub, Nat.reduceEqDiff, Nat.reduceLT] at h); try exact nz h))
        all_goals (try exact cz)
        refine ⟨[0], [.ptr 0 0 0, .int .i64 10], [(0, rdB ⟨[], 0⟩)], rfl, ⟨.refl _, .refl _, trivial⟩, ⟨⟨by decide, _, rfl, .refl _⟩, trivial⟩, ⟨[], 0⟩, 10, rfl, rfl, rfl, ?_⟩
        rw [show failR ⟨[], 0⟩ 10 = ⟨[], 10⟩ from rfl, show rdB ⟨[], 10⟩ = some (.cells [[vB [], .int .i64 10]] false) from rfl]
        have hx1 := fun ρ => ren_e2 ρ ([]) (10)
        have hx2 := hx1
        have hx3 := hx1
        have hx4 := hx1
        repeat' (first | (refine And.intro ?_ ?_) | (intro h; (try first | replace h := of_decide_eq_true h | replace h := of_decide_eq_false h); (try simp only [sg, sq, hx1, hx2, hx3, hx4] at h); (try simp only [sx, ↓reduceIte, Nat.reduceAdd, reduceCtorEq, Int.reduceLT, Int.reduceLE, Int.reduceSub, Nat.reduceEqDiff, Nat.reduceLT] at h); try exact nz h))
        all_goals (try exact cz)
        refine ⟨fpZ (10), ?_, ?_⟩
        · repeat' (first | (refine And.intro ?_ ?_) | (intro h; (try first | replace h := of_decide_eq_true h | replace h := of_decide_eq_false h); (try simp only [sg, sq, hx1, hx2, hx3, hx4] at h); (try simp only [sx, ↓reduceIte, Nat.reduceAdd, reduceCtorEq, Int.reduceLT, Int.reduceLE, Int.reduceSub, Nat.reduceEqDiff, Nat.reduceLT] at h); try exact nz h))
          all_goals (try exact cz)
          all_goals exact Exists.intro () (fpz_reb rfl rfl rfl rfl (by exact rfl))
        · exact fin_fp (row := encM mt0) (m := mt0) rfl rfl rfl ⟨.refl _, .refl _, .refl _, trivial⟩ (by exact rfl) hp (by exact rfl) hP
      · rw [if_neg (by rw [hw]; decide)] at hp
        repeat' (first | (refine And.intro ?_ ?_) | (intro h; (try first | replace h := of_decide_eq_true h | replace h := of_decide_eq_false h); (try simp only [sg, sq] at h); (try simp only [sx, ↓reduceIte, Nat.reduceAdd, reduceCtorEq, Int.reduceLT, Int.reduceLE, Int.reduceSub, Nat.reduceEqDiff, Nat.reduceLT] at h); try exact nz h))
        all_goals (try exact cz)
        refine ⟨m, rfl, hok, ?_⟩
        have hx1 := hw
        have hx2 := hw
        have hx3 := hw
        have hx4 := hw
        repeat' (first | (refine And.intro ?_ ?_) | (intro h; (try first | replace h := of_decide_eq_true h | replace h := of_decide_eq_false h); (try simp only [sg, sq, hx1, hx2, hx3, hx4] at h); (try simp only [sx, ↓reduceIte, Nat.reduceAdd, reduceCtorEq, Int.reduceLT, Int.reduceLE, Int.reduceSub, Nat.reduceEqDiff, Nat.reduceLT] at h); try exact nz h))
        all_goals (try exact cz)
        exact fin_fp (row := encM m) (m := m) rfl rfl rfl ⟨.refl _, .refl _, .refl _, trivial⟩ (by exact rfl) hp (by exact rfl) hP
    · rw [finMF_bad he] at hp
      repeat' (first | (refine And.intro ?_ ?_) | (intro h; (try first | replace h := of_decide_eq_true h | replace h := of_decide_eq_false h); (try simp only [sg, sq] at h); (try simp only [sx, ↓reduceIte, Nat.reduceAdd, reduceCtorEq, Int.reduceLT, Int.reduceLE, Int.reduceSub, Nat.reduceEqDiff, Nat.reduceLT] at h); try exact nz h))
      all_goals (try exact cz)
      have hx1 := he
      have hx2 := he
      have hx3 := he
      have hx4 := he
      refine ⟨fpZ (e'), ?_, ?_⟩
      · repeat' (first | (refine And.intro ?_ ?_) | (intro h; (try first | replace h := of_decide_eq_true h | replace h := of_decide_eq_false h); (try simp only [sg, sq, hx1, hx2, hx3, hx4] at h); (try simp only [sx, ↓reduceIte, Nat.reduceAdd, reduceCtorEq, Int.reduceLT, Int.reduceLE, Int.reduceSub, Nat.reduceEqDiff, Nat.reduceLT] at h); try exact nz h))
        all_goals (try exact cz)
        all_goals exact Exists.intro () (fpz_reb rfl rfl rfl rfl (by exact rfl))
      · exact fin_fp (row := encM mt0) (m := mt0) rfl rfl rfl ⟨.refl _, .refl _, .refl _, trivial⟩ (by exact rfl) hp (by exact rfl) hP
  · have hbl := List.length_pos_iff.2 hb
    repeat' (first | (refine And.intro ?_ ?_) | (intro h; (try first | replace h := of_decide_eq_true h | replace h := of_decide_eq_false h); (try simp only [sg, sq] at h); (try simp only [sx, ↓reduceIte, Nat.reduceAdd, reduceCtorEq, Int.reduceLT, Int.reduceLE, Int.reduceSub, Nat.reduceEqDiff, Nat.reduceLT] at h); try exact nz h))
    all_goals (try exact cz)
    refine ⟨[0], [.ptr 0 0 0, .int .i64 9], [(0, rdB ⟨b', e'⟩)], rfl, ⟨.refl _, .refl _, trivial⟩, ⟨⟨by decide, _, rfl, .refl _⟩, trivial⟩, ⟨b', e'⟩, 9, rfl, rfl, rfl, ?_⟩
    by_cases he : e' = 0
    · subst he
      rw [finMF_more hb] at hp
      rw [show failR ⟨b', 0⟩ 9 = ⟨b', 9⟩ from rfl, show rdB ⟨b', 9⟩ = some (.cells [[vB b', .int .i64 9]] false) from rfl]
      have hx1 := fun ρ => ren_e2 ρ (b') (9)
      have hx2 := hx1
      have hx3 := hx1
      have hx4 := hx1
      repeat' (first | (refine And.intro ?_ ?_) | (intro h; (try first | replace h := of_decide_eq_true h | replace h := of_decide_eq_false h); (try simp only [sg, sq, hx1, hx2, hx3, hx4] at h); (try simp only [sx, ↓reduceIte, Nat.reduceAdd, reduceCtorEq, Int.reduceLT, Int.reduceLE, Int.reduceSub, Nat.reduceEqDiff, Nat.reduceLT] at h); try exact nz h))
      all_goals (try exact cz)
      refine ⟨fpZ (9), ?_, ?_⟩
      · repeat' (first | (refine And.intro ?_ ?_) | (intro h; (try first | replace h := of_decide_eq_true h | replace h := of_decide_eq_false h); (try simp only [sg, sq, hx1, hx2, hx3, hx4] at h); (try simp only [sx, ↓reduceIte, Nat.reduceAdd, reduceCtorEq, Int.reduceLT, Int.reduceLE, Int.reduceSub, Nat.reduceEqDiff, Nat.reduceLT] at h); try exact nz h))
        all_goals (try exact cz)
        all_goals exact Exists.intro () (fpz_reb rfl rfl rfl rfl (by exact rfl))
      · exact fin_fp (row := encM mt0) (m := mt0) rfl rfl rfl ⟨.refl _, .refl _, .refl _, trivial⟩ (by exact rfl) hp (by exact rfl) hP
    · rw [finMF_bad he] at hp
      rw [show failR ⟨b', e'⟩ 9 = ⟨b', e'⟩ from if_neg he, show rdB ⟨b', e'⟩ = some (.cells [[vB b', .int .i64 e']] false) from rfl]
      have hx1 := fun ρ => ren_e2 ρ (b') (e')
      have hx2 := hx1
      have hx3 := hx1
      have hx4 := hx1
      repeat' (first | (refine And.intro ?_ ?_) | (intro h; (try first | replace h := of_decide_eq_true h | replace h := of_decide_eq_false h); (try simp only [sg, sq, hx1, hx2, hx3, hx4] at h); (try simp only [sx, ↓reduceIte, Nat.reduceAdd, reduceCtorEq, Int.reduceLT, Int.reduceLE, Int.reduceSub, Nat.reduceEqDiff, Nat.reduceLT] at h); try exact nz h))
      all_goals (try exact cz)
      refine ⟨fpZ (e'), ?_, ?_⟩
      · repeat' (first | (refine And.intro ?_ ?_) | (intro h; (try first | replace h := of_decide_eq_true h | replace h := of_decide_eq_false h); (try simp only [sg, sq, hx1, hx2, hx3, hx4] at h); (try simp only [sx, ↓reduceIte, Nat.reduceAdd, reduceCtorEq, Int.reduceLT, Int.reduceLE, Int.reduceSub, Nat.reduceEqDiff, Nat.reduceLT] at h); try exact nz h))
        all_goals (try exact cz)
        all_goals exact Exists.intro () (fpz_reb rfl rfl rfl rfl (by exact rfl))
      · exact fin_fp (row := encM mt0) (m := mt0) rfl rfl rfl ⟨.refl _, .refl _, .refl _, trivial⟩ (by exact rfl) hp (by exact rfl) hP
def S_fparse : SpecT := fun args H nx Post => ∃ b, args = [vB b] ∧ H = [] ∧ nx = 0 ∧ b.length ≤ 1000000 ∧ Post (.tup [.agg (encM (parseMF b).1), .int .i64 (parseMF b).2]) [] 2
theorem fparse_ok [Syms] : S_fparse.ok Try.prog 15 := by
  rintro args H nx Post ⟨b, rfl, rfl, rfl, h1, h⟩
  exact FnSem.forget (fnT_sound tys_ok fns_ok noneT_det cFpa_ok mixed (fparse_t b h1 _ rfl h))
end Go.Proofs.Ytajieadpaeggcaa

end
section
set_option linter.unusedVariables false
set_option linter.unusedSimpArgs false
namespace Go.Proofs.Ytajieadpaeggcaa
open Go Go.Av
set_option maxRecDepth 100000
set_option maxHeartbeats 4000000
abbrev cSB : CallT := pickT 71 (ownT S_put) (pickT 72 (ownT S_cput) noneT)
theorem cSB_det [Syms] : cSB.det Try.prog := pickT_own put_ok (pickT_own cput_ok noneT_det)
theorem cSB_ok [Syms] : cSB.ok Try.prog := cSB_det.ok
def sbS (s : List Fd) (o : List UInt8) (i : Nat) : St := ⟨[(3, .slice 0 0 o.length 1 none), (10, vF s), (11, .int .i64 s.length), (12, .int .i64 i)], [(0, some (.cells (o.map encB) false))], 1⟩
theorem sbL_app : ∀ (l m : List Fd), sbL (l ++ m) = sbL l ++ sbL m
  | [], m => rfl
  | x :: l, m => by rw [List.cons_append, sbL, sbL, sbL_app l m, List.append_assoc]
theorem sbL_take {s : List Fd} {i : Nat} (h : i < s.length) : sbL (s.take (i + 1)) = sbL (s.take i) ++ sbF1 (s.getD i default) := by
  rw [List.take_add_one, sbL_app, List.getD_eq_getElem?_getD, List.getElem?_eq_getElem h]
  simp [sbL]
theorem sbL_le (s : List Fd) (i : Nat) : (sbL (s.take i)).length ≤ (sbL s).length := by
  have : sbL s = sbL (s.take i) ++ sbL (s.drop i) := by rw [← sbL_app, List.take_append_drop]
  rw [this, List.length_append]; omega
theorem fin_sb [Syms] {N K nx i : Nat} {s : List Fd} {o : List UInt8} {rows : List (List AVal)} {len : Nat} {env : Env} {H : Heap} (hn : NumsOk 0 nx [K] = true) (e3 : env.get 3 = .slice K 0 len 1 none) (e10 : env.get 10 = vF s) (e11 : env.get 11 = .int .i64 s.length) (e12 : env.get 12 = .int .i64 ((i : Int) + 1))
    (hb : H.get K = some (.cells rows false)) (hr : rows = o.map encB) (hl : len = o.length) : Reb 0 N ⟨env, H, nx⟩ (sbS s o (i + 1)) :=
  reb_num [K] hn ⟨by rw [e3]; exact wk_slc hl, by rw [e10]; exact .refl _, by rw [e11]; exact .refl _, by rw [e12]; exact wk_int (by omega), trivial⟩ ⟨⟨show 0 < 1 by decide, _, hb, wkB_eq hr (fB _)⟩, trivial⟩
theorem sbytes_t [Syms] (s : List Fd) (hl : (sbF s).length ≤ 1000000) (hl2 : s.length ≤ 100000) (hk : ∀ f ∈ s, (0 ≤ f.rep ∧ f.rep < 256) ∧ (0 ≤ f.kind ∧ f.kind < 256) ∧ 0 ≤ f.kids ∧ f.kids < 1000000) :
    fnT cSB cSB (fnTab fns) (tyTab tys) (plTab plt) 100 42 [vF s] [] 0 (ownP (sbF s)) := by
  have hw : wr .u64 (s.length : Int) = ((s.length : Nat) : Int) := wrU (by omega)
  have hlF : (sbF s).length = (varB s.length).length + (sbL s).length := by rw [sbF, List.length_append]
  refine ⟨[vB [], .int .u64 (wr .u64 (s.length : Int))], ⟨.nil _ encB 0, .imm _ rfl, trivial⟩, [], s.length, congrArg (fun z => [vB [], AVal.int .u64 z]) hw, by simp, by omega, ?_⟩
  refine ⟨fun m t => ∃ i : Nat, (i ≤ s.length ∧ m = s.length - i) ∧ t = sbS s (varB s.length ++ sbL (s.take i)) i, ⟨_, sbS s (varB s.length ++ sbL (s.take 0)) 0, reb_num [0] rfl ⟨wk_slc (by simp [sbL]), .refl _, .refl _, wk_int (by rfl), trivial⟩ ⟨⟨by decide, _, rfl, wkB_eq ?_ (fB _)⟩, trivial⟩, 0, ⟨by omega, rfl⟩, rfl⟩, ?_⟩
  · rw [List.take_zero, sbL, List.append_nil]; rfl
  rintro m t ⟨i, ⟨hi, rfl⟩, rfl⟩
  have hli := sbL_le s i
  by_cases h1 : i < s.length
  · have hst := sbL_take h1
    have hli1 := sbL_le s (i + 1)
    obtain ⟨⟨hr0, hr1⟩, ⟨hk0, hk1⟩, hc0, hc1⟩ : (0 ≤ (s.getD i default).rep ∧ (s.getD i default).rep < 256) ∧ (0 ≤ (s.getD i default).kind ∧ (s.getD i default).kind < 256) ∧ 0 ≤ (s.getD i default).kids ∧ (s.getD i default).kids < 1000000 := by
      rw [List.getD_eq_getElem?_getD, List.getElem?_eq_getElem h1]; exact hk _ (List.getElem_mem h1)
    have hwr : wr .u64 (s.getD i default).rep = (((s.getD i default).rep.toNat : Nat) : Int) := wrU (by omega)
    have hwk : wr .u64 (s.getD i default).kind = (((s.getD i default).kind.toNat : Nat) : Int) := wrU (by omega)
    have hwc : wr .u64 (s.getD i default).kids = (((s.getD i default).kids.toNat : Nat) : Int) := wrU (by omega)
    have hL : (sbF1 (s.getD i default)).length = 1 + (1 + ((varB (s.getD i default).kids.toNat).length + ((varB (s.getD i default).name.length).length + (s.getD i default).name.length))) := by
      simp only [sbF1, List.length_append, leB_len]
    have hT : (varB s.length ++ sbL (s.take i)).length + (sbF1 (s.getD i default)).length ≤ 1000000 := by
      rw [hst, List.length_append] at hli1
      rw [List.length_append]; omega
    have hwn : wr .u64 ((s.getD i default).name.length : Int) = (((s.getD i default).name.length : Nat) : Int) := wrU (by omega)
    have hend : varB s.length ++ sbL (s.take (i + 1)) = (varB s.length ++ sbL (s.take i)) ++ leB 1 (s.getD i default).rep.toNat ++ leB 1 (s.getD i default).kind.toNat ++ varB (s.getD i default).kids.toNat ++ varB (s.getD i default).name.length ++ (s.getD i default).name := by
      rw [hst, sbF1]; simp only [List.append_assoc]
    clear hli1 hst hli
    generalize varB s.length ++ sbL (s.take i) = o at *
    repeat' (first | (refine And.intro ?_ ?_) | (intro h; (try first | replace h := of_decide_eq_true h | replace h := of_decide_eq_false h); (try simp only [sg] at h); (try simp only [sx, ↓reduceIte, Nat.reduceAdd, reduceCtorEq, Int.reduceLT, Int.reduceLE, Int.reduceSub, Nat.reduceEqDiff, Nat.reduceLT] at h); try exact nz h))
    all_goals (try exact cz)
    refine ⟨[vB o, .int .i64 ((1 : Nat) : Int), .int .u64 (wr .u64 (s.getD i default).rep)], ⟨.byt rfl rfl rfl, .imm _ rfl, .imm _ rfl, trivial⟩, o, 1, (s.getD i default).rep.toNat, congrArg (fun z => [vB o, .int .i64 ((1 : Nat) : Int), AVal.int .u64 z]) hwr, by omega, by omega, ?_⟩
    repeat' (first | (refine And.intro ?_ ?_) | (intro h; (try first | replace h := of_decide_eq_true h | replace h := of_decide_eq_false h); (try simp only [sg] at h); (try simp only [sx, ↓reduceIte, Nat.reduceAdd, reduceCtorEq, Int.reduceLT, Int.reduceLE, Int.reduceSub, Nat.reduceEqDiff, Nat.reduceLT] at h); try exact nz h))
    all_goals (try exact cz)
    refine ⟨[vB (o ++ leB 1 (s.getD i default).rep.toNat), .int .i64 ((1 : Nat) : Int), .int .u64 (wr .u64 (s.getD i default).kind)], ⟨.byt rfl rfl rfl, .imm _ rfl, .imm _ rfl, trivial⟩, o ++ leB 1 (s.getD i default).rep.toNat, 1, (s.getD i default).kind.toNat, congrArg (fun z => [vB (o ++ leB 1 (s.getD i default).rep.toNat), .int .i64 ((1 : Nat) : Int), AVal.int .u64 z]) hwk, by simp only [List.length_append, leB_len]; omega, by omega, ?_⟩
    repeat' (first | (refine And.intro ?_ ?_) | (intro h; (try first | replace h := of_decide_eq_true h | replace h := of_decide_eq_false h); (try simp only [sg] at h); (try simp only [sx, ↓reduceIte, Nat.reduceAdd, reduceCtorEq, Int.reduceLT, Int.reduceLE, Int.reduceSub, Nat.reduceEqDiff, Nat.reduceLT] at h); try exact nz h))
    all_goals (try exact cz)
    have hl1 : (leB 1 (s.getD i default).rep.toNat).length = 1 := leB_len _ _
    have hl2 : (leB 1 (s.getD i default).kind.toNat).length = 1 := leB_len _ _
    generalize ho2 : o ++ leB 1 (s.getD i default).rep.toNat ++ leB 1 (s.getD i default).kind.toNat = o2 at *
    have hL2 : o2.length = o.length + 1 + 1 := by rw [← ho2, List.length_append, List.length_append, hl1, hl2]
    refine ⟨[vB o2, .int .u64 (wr .u64 (s.getD i default).kids)], ⟨.byt rfl rfl rfl, .imm _ rfl, trivial⟩, o2, (s.getD i default).kids.toNat, congrArg (fun z => [vB o2, AVal.int .u64 z]) hwc, by omega, by omega, ?_⟩
    repeat' (first | (refine And.intro ?_ ?_) | (intro h; (try first | replace h := of_decide_eq_true h | replace h := of_decide_eq_false h); (try simp only [sg] at h); (try simp only [sx, ↓reduceIte, Nat.reduceAdd, reduceCtorEq, Int.reduceLT, Int.reduceLE, Int.reduceSub, Nat.reduceEqDiff, Nat.reduceLT] at h); try exact nz h))
    all_goals (try exact cz)
    refine ⟨[vB (o2 ++ varB (s.getD i default).kids.toNat), .int .u64 (wr .u64 ((s.getD i default).name.length : Int))], ⟨.byt rfl rfl rfl, .imm _ rfl, trivial⟩, o2 ++ varB (s.getD i default).kids.toNat, (s.getD i default).name.length, congrArg (fun z => [vB (o2 ++ varB (s.getD i default).kids.toNat), AVal.int .u64 z]) hwn, by rw [List.length_append]; omega, by omega, ?_⟩
    repeat' (first | (refine And.intro ?_ ?_) | (intro h; (try first | replace h := of_decide_eq_true h | replace h := of_decide_eq_false h); (try simp only [sg] at h); (try simp only [sx, ↓reduceIte, Nat.reduceAdd, reduceCtorEq, Int.reduceLT, Int.reduceLE, Int.reduceSub, Nat.reduceEqDiff, Nat.reduceLT] at h); try exact nz h))
    all_goals (try exact cz)
    · show allLen 1 ((s.getD i default).name.map encB) = true
      exact allLen_map (enc := encB) (z := 1) (fun _ => rfl) _
    · show ((o2 ++ varB (s.getD i default).kids.toNat ++ varB (s.getD i default).name.length).length + ((s.getD i default).name.map encB).length) * 1 ≤ _
      rw [List.length_map, List.length_append, List.length_append]; omega
    · show ((o2 ++ varB (s.getD i default).kids.toNat ++ varB (s.getD i default).name.length).length + ((s.getD i default).name.map encB).length) ≤ _
      rw [List.length_map, List.length_append, List.length_append]; omega
    · have hnm : (s.getD i default).name = [] := by
        have h0 : (s.getD i default).name.length = 0 := h
        exact List.eq_nil_of_length_eq_zero h0
      refine ⟨_, _, fin_sb (K := 1 + 1 + 1 + 8 * RR + 1 + 9 * RR) (by kernel_rfl) rfl rfl rfl rfl rfl rfl rfl, ⟨i + 1, ⟨by omega, rfl⟩, congrArg (fun o => sbS s o (i + 1)) (hend.trans (by rw [hnm, List.append_nil])).symm⟩, by omega⟩
    · refine ⟨_, _, fin_sb (K := 1 + 1 + 1 + 8 * RR + 1 + 9 * RR + 1) (by kernel_rfl) rfl rfl rfl rfl rfl ?_ ?_, ⟨i + 1, ⟨by omega, rfl⟩, congrArg (fun o => sbS s o (i + 1)) hend.symm⟩, by omega⟩
      · show List.take (o2 ++ varB (s.getD i default).kids.toNat ++ varB (s.getD i default).name.length).length (List.drop 0 ((o2 ++ varB (s.getD i default).kids.toNat ++ varB (s.getD i default).name.length).map encB)) ++ (s.getD i default).name.map encB = _
        rw [List.drop_zero, List.take_of_length_le (by simp), ← List.map_append]
      · show (o2 ++ varB (s.getD i default).kids.toNat ++ varB (s.getD i default).name.length).length + ((s.getD i default).name.map encB).length = _
        rw [List.length_map, ← List.length_append]
  · obtain rfl : i = s.length := by omega
    rw [List.take_length]
    have ho : varB s.length ++ sbL s = sbF s := rfl
    have hpos := putV_pos 9 s.length
    have hnz : 0 < (sbF s).length := by rw [hlF]; exact Nat.lt_of_lt_of_le hpos (Nat.le_add_right _ _)
    rw [ho]
    generalize sbF s = o at *
    repeat' (first | (refine And.intro ?_ ?_) | (intro h; (try first | replace h := of_decide_eq_true h | replace h := of_decide_eq_false h); (try simp only [sg] at h); (try simp only [sx, ↓reduceIte, Nat.reduceAdd, reduceCtorEq, Int.reduceLT, Int.reduceLE, Int.reduceSub, Nat.reduceEqDiff, Nat.reduceLT] at h); try exact nz h))
    all_goals (try exact cz)
    · show allLen 1 (List.take o.length (List.drop 0 (o.map encB))) = true
      rw [List.drop_zero, List.take_of_length_le (by simp)]; exact allLen_map (enc := encB) (z := 1) (fun _ => rfl) _
    · refine ⟨_, reb_own1 (k := 2) (l := o) rfl rfl rfl ?_ ?_, _, rfl, own_eq rfl⟩
      · show List.take o.length (List.drop 0 (o.map encB)) = _
        rw [List.drop_zero, List.take_of_length_le (by simp)]
      · rfl
def S_sbytes : SpecY := fun args K => ∃ s, args = [vF s] ∧ ((sbF s).length ≤ 1000000 ∧ s.length ≤ 100000 ∧ ∀ f ∈ s, (0 ≤ f.rep ∧ f.rep < 256) ∧ (0 ≤ f.kind ∧ f.kind < 256) ∧ 0 ≤ f.kids ∧ f.kids < 1000000) ∧ K (sbF s)
theorem sbytes_ok [Syms] : BytOk Try.prog 42 S_sbytes := by
  rintro args K ⟨s, rfl, ⟨h1, h2, h3⟩, hk⟩
  exact ⟨_, hk, fnT_sound tys_ok fns_ok cSB_det cSB_ok mixed (sbytes_t s h1 h2 h3)⟩
end Go.Proofs.Ytajieadpaeggcaa

end
