/-
  What a file says of itself, as bytes. The program's. What is asked of 'Make', and what it answers. Files' descriptions made of raw numbers, as plain data. Plain. A value of a kind, of a raw one; a number from 0 to n - 1; the chapter's example.
-/
import Derived.Test.YtajieadpaeggcaaL13
import Derived.Test.YtajieadpaeggcaaL2
import Derived.Test.YtajieadpaeggcaaWithin
set_option linter.unusedVariables false
set_option linter.unusedSimpArgs false
section
set_option linter.unusedVariables false
set_option linter.unusedSimpArgs false
namespace Go.Proofs.Ytajieadpaeggcaa
open Go Go.Av
set_option maxRecDepth 100000
set_option maxHeartbeats 4000000
structure RwB (L : Nat) (g : Rw) : Prop where
  n : NumOk g.n
  len : g.chunks.length ≤ L
  chunks : ∀ c ∈ g.chunks, CkB c
structure MtB (m : Mt) : Prop where
  fs : FsOk m.s
  sb : ∀ f ∈ m.s, (0 ≤ f.rep ∧ f.rep < 256) ∧ (0 ≤ f.kind ∧ f.kind < 256) ∧ 0 ≤ f.kids ∧ f.kids < 1000000
  n : NumOk m.n
  len : m.groups.length ≤ 100000
  groups : ∀ g ∈ m.groups, RwB (leavesF m.s).length g
theorem cksB_nil (ks : List Int) : cksB ks [] = [] := by cases ks <;> rfl
theorem cksB_take : ∀ {ks : List Int} {cs : List Ck} {j : Nat}, j < cs.length → cs.length ≤ ks.length → cksB ks (cs.take (j + 1)) = cksB ks (cs.take j) ++ ckB (ks.getD j 0) (cs.getD j default)
  | ks, [], j, h, _ => by simp at h
  | [], c :: cs, j, _, h => by simp at h
  | k :: ks, c :: cs, 0, _, _ => by simp [cksB]
  | k :: ks, c :: cs, j + 1, h, h2 => by
    have := cksB_take (ks := ks) (cs := cs) (j := j) (by simpa using h) (by simpa using h2)
    rw [List.take_succ_cons, List.take_succ_cons, cksB, cksB, this, List.append_assoc]
    rfl
theorem cksB_le : ∀ (ks : List Int) (cs : List Ck) (j : Nat), (cksB ks (cs.take j)).length ≤ (cksB ks cs).length
  | ks, [], j => by simp
  | [], c :: cs, j => by cases j <;> simp [cksB]
  | k :: ks, c :: cs, 0 => by cases ks <;> simp [cksB]
  | k :: ks, c :: cs, j + 1 => by
    have := cksB_le ks cs j
    rw [List.take_succ_cons, cksB, cksB, List.length_append, List.length_append]; omega
theorem rwsB_app (ks : List Int) : ∀ (l m : List Rw), rwsB ks (l ++ m) = rwsB ks l ++ rwsB ks m
  | [], m => rfl
  | x :: l, m => by rw [List.cons_append, rwsB, rwsB, rwsB_app ks l m, List.append_assoc]
theorem rwsB_take {ks : List Int} {l : List Rw} {i : Nat} (h : i < l.length) : rwsB ks (l.take (i + 1)) = rwsB ks (l.take i) ++ rwB ks (l.getD i default) := by
  rw [List.take_add_one, rwsB_app, List.getD_eq_getElem?_getD, List.getElem?_eq_getElem h]
  simp [rwsB]
theorem rwsB_le (ks : List Int) (l : List Rw) (i : Nat) : (rwsB ks (l.take i)).length ≤ (rwsB ks l).length := by
  have : rwsB ks l = rwsB ks (l.take i) ++ rwsB ks (l.drop i) := by rw [← rwsB_app, List.take_append_drop]
  rw [this, List.length_append]; omega
abbrev cBt [Syms] : CallT := pickT 42 (ownT S_sbytes) (pickT 43 (ownT S_nums) (pickT 44 (immT (seeW S_leaves)) (pickT 45 (specT S_chunkB) (pickT 46 bN noneT))))
theorem cBt_ok [Syms] : cBt.ok Try.prog := pickT_own_ok sbytes_ok (pickT_own_ok nums_ok (pickT_imm_ok leaves_ok.seeW (pickT_spec chunkB_ok (pickT_ok bN_ok noneT_ok))))
noncomputable def plBt : Nat → Nat → Pl := plAdd [(19, 13)] (plTab plt)
def byS (ls : List Lf) (gs : List Rw) (i : Nat) (o : List UInt8) : St := ⟨[(4, slB 0 o), (5, vL ls), (31, vR gs), (32, .int .i64 gs.length), (33, .int .i64 i)], [(0, oB o)], 1⟩
def byI (ls : List Lf) (gs : List Rw) (i : Nat) (o : List UInt8) (cs : List Ck) (j : Nat) : St := ⟨[(4, slB 0 o), (5, vL ls), (31, vR gs), (32, .int .i64 gs.length), (33, .int .i64 i), (43, vC cs), (44, .int .i64 cs.length), (45, .int .i64 j)], [(0, oB o)], 1⟩
theorem fbytes_t [Syms] (m : Mt) (hm : MtB m) (hl : (mtB m).length ≤ 1000000) :
    fnT noneT cBt (fnTab fns) (tyTab tys) plBt 100 19 [.agg (encM m)] [] 0 (ownP (mtB m)) := by
  obtain ⟨hfs, hsb, hmn, hgl, hgs⟩ := hm
  have hlen : (mtB m).length = (nuB [((sbF m.s).length : Int)]).length + (sbF m.s).length + (nuB [m.n, (m.groups.length : Int)]).length + (rwsB (kindsF m.s) m.groups).length := by
    unfold mtB; simp only [List.length_append]
  repeat' (first | (refine And.intro ?_ ?_) | (intro h; (try first | replace h := of_decide_eq_true h | replace h := of_decide_eq_false h); (try simp only [sg, sq] at h); (try simp only [sx, ↓reduceIte, Nat.reduceAdd, reduceCtorEq, Int.reduceLT, Int.reduceLE, Int.reduceSub, Nat.reduceEqDiff, Nat.reduceLT] at h); try exact nz h))
  all_goals (try exact cz)
  refine ⟨[vF m.s], ⟨.see _ _ rfl (.tab rfl), trivial⟩, m.s, rfl, ⟨by omega, by have := hfs.len; omega, hsb⟩, ?_⟩
  have hM : mtB m = nuB [((sbF m.s).length : Int)] ++ sbF m.s ++ nuB [m.n, (m.groups.length : Int)] ++ rwsB (kindsL (leavesF m.s)) m.groups := rfl
  have hkl : kindsF m.s = kindsL (leavesF m.s) := rfl
  rw [hM]
  rw [hkl] at hlen
  clear hM hkl hsb
  have hlb : (leavesF m.s).length ≤ 1000 := by have h1 : (leavesF m.s).length ≤ m.s.length := lvOut_len_le _ _ _; have h2 := hfs.len; omega
  have hcall1 : ∀ K : List UInt8 → Prop, K (nuB [((sbF m.s).length : Int)]) → S_nums [vB [], vI [((sbF m.s).length : Int)]] K := fun K hk => ⟨[], [((sbF m.s).length : Int)], rfl, by rw [List.length_nil]; omega, ⟨fun x hx => by simp at hx; subst hx; omega, by simp, by simp⟩, hk⟩
  generalize hs : sbF m.s = sb at *
  generalize hq1 : nuB [(sb.length : Int)] = q1 at *
  have hpos : 0 < sb.length := by rw [← hs, sbF, List.length_append]; have := putV_pos 9 m.s.length; exact Nat.lt_of_lt_of_le this (Nat.le_add_right _ _)
  repeat' (first | (refine And.intro ?_ ?_) | (intro h; (try first | replace h := of_decide_eq_true h | replace h := of_decide_eq_false h); (try simp only [sg, sq] at h); (try simp only [sx, ↓reduceIte, Nat.reduceAdd, reduceCtorEq, Int.reduceLT, Int.reduceLE, Int.reduceSub, Nat.reduceEqDiff, Nat.reduceLT] at h); try exact nz h))
  all_goals (try exact cz)
  refine ⟨[vB [], vI [(sb.length : Int)]], ⟨.nil _ encB 0, .ints rfl rfl rfl, trivial⟩, ?_⟩
  refine hcall1 _ ?_
  repeat' (first | (refine And.intro ?_ ?_) | (intro h; (try first | replace h := of_decide_eq_true h | replace h := of_decide_eq_false h); (try simp only [sg, sq] at h); (try simp only [sx, ↓reduceIte, Nat.reduceAdd, reduceCtorEq, Int.reduceLT, Int.reduceLE, Int.reduceSub, Nat.reduceEqDiff, Nat.reduceLT] at h); try exact nz h))
  all_goals (try exact cz)
  · show allLen 1 (List.take sb.length (List.drop 0 (sb.map encB))) = true
    rw [List.drop_zero, List.take_of_length_le (by simp)]; exact allLen_map (enc := encB) (z := 1) (fun _ => rfl) _
  have hl1 : (q1 ++ sb).length = q1.length + sb.length := List.length_append
  have hcall2 : ∀ K : List UInt8 → Prop, K (q1 ++ sb ++ nuB [m.n, (m.groups.length : Int)]) → S_nums [vB (q1 ++ sb), vI [m.n, (m.groups.length : Int)]] K := fun K hk => ⟨q1 ++ sb, [m.n, (m.groups.length : Int)], rfl, by omega, ⟨fun x hx => by simp at hx; rcases hx with rfl | rfl; exact hmn; omega, by simp, by simp⟩, hk⟩
  have hl2 : (q1 ++ sb ++ nuB [m.n, (m.groups.length : Int)]).length = q1.length + sb.length + (nuB [m.n, (m.groups.length : Int)]).length := by rw [List.length_append, hl1]
  generalize hq3 : q1 ++ sb ++ nuB [m.n, (m.groups.length : Int)] = q3 at *
  have hr1 : List.take q1.length (List.drop 0 (q1.map encB)) ++ List.take sb.length (List.drop 0 (sb.map encB)) = (q1 ++ sb).map encB := by
    rw [List.drop_zero, List.drop_zero, List.take_of_length_le (by simp), List.take_of_length_le (by simp), List.map_append]
  refine ⟨[vB (q1 ++ sb), vI [m.n, (m.groups.length : Int)]], ⟨.byt rfl hr1 hl1.symm, .ints (rows := [[.int .i64 m.n], [.int .i64 (((m.groups.map encR).length : Nat) : Int)]]) rfl (by rw [List.length_map]; rfl) rfl, trivial⟩, ?_⟩
  refine hcall2 _ ?_
  repeat' (first | (refine And.intro ?_ ?_) | (intro h; (try first | replace h := of_decide_eq_true h | replace h := of_decide_eq_false h); (try simp only [sg, sq] at h); (try simp only [sx, ↓reduceIte, Nat.reduceAdd, reduceCtorEq, Int.reduceLT, Int.reduceLE, Int.reduceSub, Nat.reduceEqDiff, Nat.reduceLT] at h); try exact nz h))
  all_goals (try exact cz)
  refine ⟨[vF m.s], ⟨.tab rfl, trivial⟩, m.s, rfl, hfs, ?_⟩
  generalize leavesF m.s = ls at *
  repeat' (first | (refine And.intro ?_ ?_) | (intro h; (try first | replace h := of_decide_eq_true h | replace h := of_decide_eq_false h); (try simp only [sg, sq] at h); (try simp only [sx, ↓reduceIte, Nat.reduceAdd, reduceCtorEq, Int.reduceLT, Int.reduceLE, Int.reduceSub, Nat.reduceEqDiff, Nat.reduceLT] at h); try exact nz h))
  all_goals (try exact cz)
  refine ⟨fun w s => ∃ i : Nat, (i ≤ m.groups.length ∧ w = m.groups.length - i) ∧ s = byS ls m.groups i (q3 ++ rwsB (kindsL ls) (m.groups.take i)), ⟨_, byS ls m.groups 0 (q3 ++ rwsB (kindsL ls) (m.groups.take 0)), reb_num [6] (by exact rfl) ⟨wk_slc (by simp [rwsB]), .refl _, .tab rfl, wk_int (by show (((m.groups.map encR).length : Nat) : Int) = _; rw [List.length_map]), .refl _, trivial⟩ ⟨⟨by decide, _, rfl, wkB_eq (by simp [rwsB]) (fB _)⟩, trivial⟩, 0, ⟨by omega, rfl⟩, rfl⟩, ?_⟩
  rintro w s ⟨i, ⟨hi, rfl⟩, rfl⟩
  by_cases h1 : i < m.groups.length
  · have hgi : RwB ls.length (m.groups.getD i default) := by
      rw [List.getD_eq_getElem?_getD, List.getElem?_eq_getElem h1]; exact hgs _ (List.getElem_mem h1)
    have hpt := rwsB_take (ks := kindsL ls) h1
    have hpl := rwsB_le (kindsL ls) m.groups (i + 1)
    have hlo : (q3 ++ rwsB (kindsL ls) (m.groups.take i)).length + (rwB (kindsL ls) (m.groups.getD i default)).length ≤ 1000000 := by
      rw [hpt, List.length_append] at hpl
      rw [List.length_append]; omega
    have hO2 : q3 ++ rwsB (kindsL ls) (m.groups.take (i + 1)) = q3 ++ rwsB (kindsL ls) (m.groups.take i) ++ nuB [(m.groups.getD i default).n] ++ cksB (kindsL ls) (m.groups.getD i default).chunks := by rw [hpt, rwB]; simp only [List.append_assoc]
    obtain ⟨hgn, hgc, hck⟩ := hgi
    have hrl : (rwB (kindsL ls) (m.groups.getD i default)).length = (nuB [(m.groups.getD i default).n]).length + (cksB (kindsL ls) (m.groups.getD i default).chunks).length := by rw [rwB, List.length_append]
    clear hpt hpl
    generalize q3 ++ rwsB (kindsL ls) (m.groups.take i) = q at *
    have hcall3 : ∀ K : List UInt8 → Prop, K (q ++ nuB [(m.groups.getD i default).n]) → S_nums [vB q, vI [(m.groups.getD i default).n]] K := fun K hk => ⟨q, [(m.groups.getD i default).n], rfl, by omega, ⟨fun x hx => by simp at hx; subst hx; exact hgn, by simp, by simp⟩, hk⟩
    have hl4 : (q ++ nuB [(m.groups.getD i default).n]).length = q.length + (nuB [(m.groups.getD i default).n]).length := List.length_append
    generalize hq4 : q ++ nuB [(m.groups.getD i default).n] = q4 at *
    repeat' (first | (refine And.intro ?_ ?_) | (intro h; (try first | replace h := of_decide_eq_true h | replace h := of_decide_eq_false h); (try simp only [sg, sq] at h); (try simp only [sx, ↓reduceIte, Nat.reduceAdd, reduceCtorEq, Int.reduceLT, Int.reduceLE, Int.reduceSub, Nat.reduceEqDiff, Nat.reduceLT] at h); try exact nz h))
    all_goals (try exact cz)
    all_goals (try ((with_reducible first | show (_ : Int) ≤ _ | show (_ : Int) < _); (try simp only [sg, sq]); omega))
    refine ⟨[vB q, vI [(m.groups.getD i default).n]], ⟨.byt rfl rfl rfl, .ints rfl rfl rfl, trivial⟩, ?_⟩
    refine hcall3 _ ?_
    repeat' (first | (refine And.intro ?_ ?_) | (intro h; (try first | replace h := of_decide_eq_true h | replace h := of_decide_eq_false h); (try simp only [sg, sq] at h); (try simp only [sx, ↓reduceIte, Nat.reduceAdd, reduceCtorEq, Int.reduceLT, Int.reduceLE, Int.reduceSub, Nat.reduceEqDiff, Nat.reduceLT] at h); try exact nz h))
    all_goals (try exact cz)
    all_goals (try ((with_reducible first | show (_ : Int) ≤ _ | show (_ : Int) < _); (try simp only [sg, sq]); omega))
    generalize hg : m.groups.getD i default = g at *
    refine ⟨fun w s => ∃ j : Nat, (j ≤ g.chunks.length ∧ w = g.chunks.length - j) ∧ s = byI ls m.groups i (q4 ++ cksB (kindsL ls) (g.chunks.take j)) g.chunks j, ⟨_, byI ls m.groups i (q4 ++ cksB (kindsL ls) (g.chunks.take 0)) g.chunks 0, reb_num [4] (by exact rfl) ⟨wk_slc (by rw [List.take_zero, cksB_nil, List.append_nil]), .refl _, .refl _, .refl _, .refl _, .tab (by rw [← hg]; rfl), wk_int (by show (((((m.groups.getD i default).chunks.map encC).length : Nat)) : Int) = _; rw [List.length_map, hg]), .refl _, trivial⟩ ⟨⟨by decide, _, rfl, wkB_eq (by rw [List.take_zero, cksB_nil, List.append_nil]) (fB _)⟩, trivial⟩, 0, ⟨by omega, rfl⟩, rfl⟩, ?_⟩
    rintro w s ⟨j, ⟨hj, rfl⟩, rfl⟩
    by_cases h3 : j < g.chunks.length
    · have hkl : (kindsL ls).length = ls.length := List.length_map ..
      have hct := cksB_take (ks := kindsL ls) h3 (by omega)
      have hcp := cksB_le (kindsL ls) g.chunks (j + 1)
      have hkd : (kindsL ls).getD j 0 = (ls.getD j default).kind := by
        rw [List.getD_eq_getElem?_getD, List.getD_eq_getElem?_getD, List.getElem?_map, List.getElem?_eq_getElem (by omega)]; rfl
      rw [hkd] at hct
      have hcj : CkB (g.chunks.getD j default) := by
        rw [List.getD_eq_getElem?_getD, List.getElem?_eq_getElem h3]; exact hck _ (List.getElem_mem h3)
      have hO3 : q4 ++ cksB (kindsL ls) (g.chunks.take (j + 1)) = q4 ++ cksB (kindsL ls) (g.chunks.take j) ++ ckB (ls.getD j default).kind (g.chunks.getD j default) := by rw [hct, List.append_assoc]
      have hlo2 : (q4 ++ cksB (kindsL ls) (g.chunks.take j)).length + (ckB (ls.getD j default).kind (g.chunks.getD j default)).length ≤ 1000000 := by
        rw [hct, List.length_append] at hcp
        rw [List.length_append]; omega
      have hcall : ∀ K : AVal → Heap → Nat → Prop, K (slB 1 (q4 ++ cksB (kindsL ls) (g.chunks.take (j + 1)))) [(1, oB (q4 ++ cksB (kindsL ls) (g.chunks.take (j + 1))))] 2 → S_chunkB [slB 0 (q4 ++ cksB (kindsL ls) (g.chunks.take j)), .int .i64 (ls.getD j default).kind, .agg (encC (g.chunks.getD j default))] [(0, oB (q4 ++ cksB (kindsL ls) (g.chunks.take j)))] 1 K := fun K hk => ⟨_, _, _, rfl, rfl, rfl, ⟨hcj, hlo2⟩, hO3 ▸ hk⟩
      clear hct hcp hO3 hlo2
      generalize q4 ++ cksB (kindsL ls) (g.chunks.take j) = q5 at *
      generalize hq6 : q4 ++ cksB (kindsL ls) (g.chunks.take (j + 1)) = q6 at *
      repeat' (first | (refine And.intro ?_ ?_) | (intro h; (try first | replace h := of_decide_eq_true h | replace h := of_decide_eq_false h); (try simp only [sg, sq] at h); (try simp only [sx, ↓reduceIte, Nat.reduceAdd, reduceCtorEq, Int.reduceLT, Int.reduceLE, Int.reduceSub, Nat.reduceEqDiff, Nat.reduceLT] at h); try exact nz h))
      all_goals (try exact cz)
      all_goals (try ((with_reducible first | show (_ : Int) ≤ _ | show (_ : Int) < _); (try simp only [sg, sq]); omega))
      refine ⟨⟨[(4, slB 0 q6), (5, vL ls), (31, vR m.groups), (32, .int .i64 m.groups.length), (33, .int .i64 i), (43, vC g.chunks), (44, .int .i64 g.chunks.length), (45, .int .i64 j)], [(0, oB q6)], 1⟩, ?_, ?_⟩
      · repeat' (first | (refine And.intro ?_ ?_) | (intro h; (try first | replace h := of_decide_eq_true h | replace h := of_decide_eq_false h); (try simp only [sg, sq] at h); (try simp only [sx, ↓reduceIte, Nat.reduceAdd, reduceCtorEq, Int.reduceLT, Int.reduceLE, Int.reduceSub, Nat.reduceEqDiff, Nat.reduceLT] at h); try exact nz h))
        all_goals (try exact cz)
        all_goals (try ((with_reducible first | show (_ : Int) ≤ _ | show (_ : Int) < _); (try simp only [sg, sq]); omega))
        all_goals (refine ⟨[0], [slB 0 q5, .int .i64 (ls.getD j default).kind, .agg (encC (g.chunks.getD j default))], [(0, oB q5)], by exact rfl, ⟨by exact .refl _, by exact .refl _, by exact .refl _, trivial⟩, ⟨⟨Nat.zero_lt_one, _, by exact rfl, wkB_same (fB _)⟩, trivial⟩, ?_⟩; refine hcall _ ?_)
        repeat' (first | (refine And.intro ?_ ?_) | (intro h; (try first | replace h := of_decide_eq_true h | replace h := of_decide_eq_false h); (try simp only [sg, sq] at h); (try simp only [sx, ↓reduceIte, Nat.reduceAdd, reduceCtorEq, Int.reduceLT, Int.reduceLE, Int.reduceSub, Nat.reduceEqDiff, Nat.reduceLT] at h); try exact nz h))
        all_goals (try exact cz)
        all_goals (try ((with_reducible first | show (_ : Int) ≤ _ | show (_ : Int) < _); (try simp only [sg, sq]); omega))
        all_goals exact Exists.intro () (reb_num [4] (by exact rfl) ⟨by exact .refl _, .refl _, .refl _, .refl _, .refl _, .refl _, .refl _, .refl _, trivial⟩ ⟨⟨Nat.zero_lt_one, _, by exact congrArg some (blk_flat _ (fB _)), wkB_same (fB _)⟩, trivial⟩)
      · repeat' (first | (refine And.intro ?_ ?_) | (intro h; (try first | replace h := of_decide_eq_true h | replace h := of_decide_eq_false h); (try simp only [sg, sq] at h); (try simp only [sx, ↓reduceIte, Nat.reduceAdd, reduceCtorEq, Int.reduceLT, Int.reduceLE, Int.reduceSub, Nat.reduceEqDiff, Nat.reduceLT] at h); try exact nz h))
        all_goals (try exact cz)
        all_goals (try ((with_reducible first | show (_ : Int) ≤ _ | show (_ : Int) < _); (try simp only [sg, sq]); omega))
        exact ⟨_, byI ls m.groups i q6 g.chunks (j + 1), reb_num [0] (by exact rfl) ⟨.refl _, .refl _, .refl _, .refl _, .refl _, .refl _, .refl _, wk_int (by omega), trivial⟩ ⟨⟨by decide, _, rfl, wkB_same (fB _)⟩, trivial⟩, ⟨j + 1, ⟨by omega, rfl⟩, by rw [hq6]⟩, by omega⟩
    · obtain rfl : j = g.chunks.length := by omega
      rw [List.take_length, ← hO2]
      repeat' (first | (refine And.intro ?_ ?_) | (intro h; (try first | replace h := of_decide_eq_true h | replace h := of_decide_eq_false h); (try simp only [sg, sq] at h); (try simp only [sx, ↓reduceIte, Nat.reduceAdd, reduceCtorEq, Int.reduceLT, Int.reduceLE, Int.reduceSub, Nat.reduceEqDiff, Nat.reduceLT] at h); try exact nz h))
      all_goals (try exact cz)
      all_goals (try ((with_reducible first | show (_ : Int) ≤ _ | show (_ : Int) < _); (try simp only [sg, sq]); omega))
      exact ⟨_, byS ls m.groups (i + 1) (q3 ++ rwsB (kindsL ls) (m.groups.take (i + 1))), reb_num [0] (by exact rfl) ⟨.refl _, .refl _, .refl _, .refl _, wk_int (by omega), trivial⟩ ⟨⟨by decide, _, rfl, wkB_same (fB _)⟩, trivial⟩, ⟨i + 1, ⟨by omega, rfl⟩, rfl⟩, by omega⟩
  · obtain rfl : i = m.groups.length := by omega
    rw [List.take_length]
    have hq4l : (q3 ++ rwsB (kindsL ls) m.groups).length ≤ 1000000 := by rw [List.length_append]; omega
    have hq4p : 0 < (q3 ++ rwsB (kindsL ls) m.groups).length := by rw [List.length_append]; omega
    generalize q3 ++ rwsB (kindsL ls) m.groups = q4 at *
    repeat' (first | (refine And.intro ?_ ?_) | (intro h; (try first | replace h := of_decide_eq_true h | replace h := of_decide_eq_false h); (try simp only [sg, sq] at h); (try simp only [sx, ↓reduceIte, Nat.reduceAdd, reduceCtorEq, Int.reduceLT, Int.reduceLE, Int.reduceSub, Nat.reduceEqDiff, Nat.reduceLT] at h); try exact nz h))
    all_goals (try exact cz)
    all_goals (try ((with_reducible first | show (_ : Int) ≤ _ | show (_ : Int) < _); (try simp only [sg, sq]); omega))
    · show allLen 1 (List.take q4.length (List.drop 0 (q4.map encB))) = true
      rw [List.drop_zero, List.take_of_length_le (by simp)]; exact allLen_map (enc := encB) (z := 1) (fun _ => rfl) _
    refine ⟨_, .refl _ _ _, _, rfl, ?_⟩
    repeat' (first | (refine And.intro ?_ ?_) | (intro h; (try first | replace h := of_decide_eq_true h | replace h := of_decide_eq_false h); (try simp only [sg, sq] at h); (try simp only [sx, ↓reduceIte, Nat.reduceAdd, reduceCtorEq, Int.reduceLT, Int.reduceLE, Int.reduceSub, Nat.reduceEqDiff, Nat.reduceLT] at h); try exact nz h))
    all_goals (try exact cz)
    all_goals (try ((with_reducible first | show (_ : Int) ≤ _ | show (_ : Int) < _); (try simp only [sg, sq]); omega))
    refine ⟨_, reb_own1 (k := 2) (n := 2) (l := q4) (by exact rfl) rfl rfl ?_ (Nat.zero_add _), _, rfl, own_eq rfl⟩
    show [] ++ List.take q4.length (List.drop 0 (q4.map encB)) = _
    rw [List.drop_zero, List.take_of_length_le (by simp)]; rfl
def S_fbytes : SpecY := fun args K => ∃ m, args = [.agg (encM m)] ∧ (MtB m ∧ (mtB m).length ≤ 1000000) ∧ K (mtB m)
theorem fbytes_ok [Syms] : BytOk Try.prog 19 S_fbytes := by
  rintro args K ⟨m, rfl, ⟨h1, h2⟩, hk⟩
  exact ⟨_, hk, fnT_sound tys_ok fns_ok noneT_det cBt_ok mixed (fbytes_t m h1 h2)⟩
end Go.Proofs.Ytajieadpaeggcaa

end
section
set_option linter.unusedVariables false
set_option linter.unusedSimpArgs false
namespace Go.Proofs.Ytajieadpaeggcaa
open Go Go.Av
def S_make : SpecI := fun args K => ∃ ns, args = [vI ns] ∧ (ns.length ≤ 9223372036854775807 ∧ K (vF (makeF ns)))
theorem make_ok' [Syms] : ImmOk Try.prog 20 S_make := by
  rintro args K ⟨ns, rfl, h, hk⟩
  exact ⟨rfl, _, rfl, hk, fnI tys_ok fns_ok cWi_det cWi_ok mixed (make_t ns h)⟩
end Go.Proofs.Ytajieadpaeggcaa

end
section
set_option linter.unusedVariables false
set_option linter.unusedSimpArgs false
namespace Go.Proofs.Ytajieadpaeggcaa
open Go Go.Av
def d2 (p : Pg) : Pg := { p with enc := 2 }
end Go.Proofs.Ytajieadpaeggcaa

end
section
set_option linter.unusedVariables false
set_option linter.unusedSimpArgs false
namespace Go.Proofs.Ytajieadpaeggcaa
open Go Go.Av
set_option maxRecDepth 100000
set_option maxHeartbeats 4000000
/-! The chapter's example -/
abbrev cKn : CallT := pickT 15 (specT S_fparse) noneT
theorem cKn_ok [Syms] : cKn.ok Try.prog := pickT_spec fparse_ok noneT_ok
theorem known19_t [Syms] : fnT noneT cKn (fnTab fns) (tyTab tys) (plTab plt) 100 10 [] [] 0 (fun v H _ => v = .bool true ∧ H = []) := by
  refine ⟨[], [vB []], [], rfl, ⟨.zeroT 1 _ _ rfl, trivial⟩, trivial, [], rfl, rfl, rfl, Nat.zero_le _, ?_⟩
  have hp : parseMF [] = (mt0, 8) := rfl
  rw [hp]
  repeat' (first | (refine And.intro ?_ ?_) | (intro h; (try first | replace h := of_decide_eq_true h | replace h := of_decide_eq_false h); (try simp only [sg, sq] at h); (try simp only [sx, ↓reduceIte, Nat.reduceAdd, reduceCtorEq, Int.reduceLT, Int.reduceLE, Int.reduceSub, Nat.reduceEqDiff, Nat.reduceLT] at h); try exact nz h))
  all_goals (try exact cz)
  exact ⟨_, reb_flat [0] rfl, _, rfl, rfl, rfl⟩
def S_known19 : SpecI := fun args K => args = [] ∧ K (.bool true)
theorem known19_ok [Syms] : ImmOk Try.prog 10 S_known19 := by
  rintro args K ⟨rfl, hk⟩
  exact ⟨rfl, _, rfl, hk, fnT_sound tys_ok fns_ok noneT_det cKn_ok mixed known19_t⟩
end Go.Proofs.Ytajieadpaeggcaa

end
