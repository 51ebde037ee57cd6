/-
  The footer's reader: a chunk. The program's. The footer's reader: a group of records. The program's.
-/
import Derived.Test.YtajieadpaeggcaaL6
import Derived.Test.YtajieadpaeggcaaSxOne
set_option linter.unusedVariables false
set_option linter.unusedSimpArgs false
section
set_option linter.unusedVariables false
set_option linter.unusedSimpArgs false
namespace Go.Proofs.Ytajieadpaeggcaa
open Go Go.Av
set_option maxRecDepth 100000
set_option maxHeartbeats 4000000
abbrev cFck [Syms] : CallT := pickT 57 (specT S_fplain) (pickT 102 (specT S_ffix) (pickT 55 (specT S_fnum) (pickT 103 (specT S_fpage) (pickT 105 (specT S_ftruth) (pickT 106 (specT S_fval) (pickT 104 (bodyT noneT noneT (fnTab fns) (tyTab tys) (plTab plt) 100) noneT))))))
theorem cFck_ok [Syms] : cFck.ok Try.prog := pickT_spec fplain_ok (pickT_spec ffix_ok (pickT_spec fnum_ok (pickT_spec fpage_ok (pickT_spec ftruth_ok (pickT_spec fval_ok (pickT_ok (bodyT_ok tys_ok fns_ok noneT_det noneT_ok mixed) noneT_ok))))))
noncomputable def plCk : Nat → Nat → Pl := plAdd [(84, 6), (84, 8), (84, 9), (84, 13)] (plTab plt)
def rowC (a b c : Int) (v : AVal) : List AVal := [.int .i64 a, .int .i64 b, .int .u32 c, v, .bool false, .int .i64 0, .bool false, .int .i64 0, .str [], .int .i64 0, .str []]
def ckS (k : Int) (n i : Nat) (r : BR) (a b c : Int) (ps : List Pg) : St := ⟨[(0, .ptr 0 0 0), (1, .int .i64 k), (4, .ptr 1 0 0), (5, .ptr 2 0 0), (17, .int .i64 n), (18, .int .i64 i)], [(0, rdB r), (1, some (.cells [rowC 0 0 0 .nils] false)), (2, some (.cells [rowC a b c (.slice 3 0 ps.length 7 none)] false)), (3, some (.cells (ps.map encP) false))], 4⟩
def ckN (k : Int) (n i : Nat) (r : BR) (a b c : Int) : St := ⟨[(0, .ptr 0 0 0), (1, .int .i64 k), (4, .ptr 1 0 0), (5, .ptr 2 0 0), (17, .int .i64 n), (18, .int .i64 i)], [(0, rdB r), (1, some (.cells [rowC 0 0 0 .nils] false)), (2, some (.cells [rowC a b c .nils] false))], 3⟩
theorem pageR_len (r : BR) : (pageR r).2.b.length ≤ r.b.length := by
 unfold pageR plainR
 exact Nat.le_trans (fixR_len _ _) (Nat.le_trans (numR_len _ _ _) (Nat.le_trans (numR_len _ _ _) (Nat.le_trans (numR_len _ _ _) (Nat.le_trans (numR_len _ _ _) (Nat.le_trans (numR_len _ _ _) (numR_len _ _ _))))))
theorem pagesR_step (k : Nat) (r : BR) (s : List Pg) (h : r.e = 0) : pagesR (k + 1) r s = pagesR k (pageR r).2 (s ++ [(pageR r).1]) := by
 rw [pagesR, if_neg (fun x => x h)]
theorem pagesR_stop (k : Nat) (r : BR) (s : List Pg) (h : r.e ≠ 0) : pagesR k r s = (s, r) := by
 cases k with
 | zero => rfl
 | succ k => rw [pagesR, if_pos h]
theorem valR_len (k : Int) (r : BR) : (valR k r).2.b.length ≤ r.b.length := by
 unfold valR
 split
 ·exact truthR_len _
 ·split
  ·exact fixR_len _ _
  ·split
   ·exact fixR_len _ _
   ·exact Nat.le_trans (takeR_len _ _) (numR_len _ _ _)
theorem eC (p : Ck) : ∀ x ∈ encC p, x.flat = true := fC [p] _ (List.mem_singleton.2 rfl)
theorem ck_reb [Syms] {N K nx : Nat} {e : Env} {H : Heap} {k a b c i1 : Int} {n i : Nat} {q : BR} {ps : List Pg} {rows : List (List AVal)} {len : Nat} (hn : NumsOk 1 nx [0, 1, 2, K] = true) (h0 : e.get 0 = .ptr 0 0 0) (h1 : e.get 1 = .int .i64 k) (h4 : e.get 4 = .ptr 1 0 0) (h5 : e.get 5 = .ptr 2 0 0) (h17 : e.get 17 = .int .i64 n) (h18 : e.get 18 = .int .i64 i1) (hi : i1 = i)
 (H0 : H.get 0 = rdB q) (H1 : H.get 1 = some (.cells [rowC 0 0 0 .nils] false)) (H2 : H.get 2 = some (.cells [rowC a b c (.slice K 0 len 7 none)] false)) (HK : H.get K = some (.cells rows false)) (hr : rows = ps.map encP) (hl : len = ps.length) : Reb 1 N ⟨e, H, nx⟩ (ckS k n i q a b c ps) := by
 subst hr hl hi
 exact reb_num [0, 1, 2, K] hn ⟨by rw [h0]; exact .refl _, by rw [h1]; exact .refl _, by rw [h4]; exact .refl _, by rw [h5]; exact .refl _, by rw [h17]; exact .refl _, by rw [h18]; exact .refl _, trivial⟩
  ⟨⟨show 0 < 4 by decide, _, H0, .refl _⟩, ⟨show 1 < 4 by decide, _, H1, .refl _⟩, ⟨show 2 < 4 by decide, _, H2, .refl _⟩, ⟨show 3 < 4 by decide, _, HK, wkB_same (fP _)⟩, trivial⟩
def ckF (k : Int) (q : BR) (a b c : Int) (ps : List Pg) : St := ⟨[(0, .ptr 0 0 0), (1, .int .i64 k), (4, .ptr 1 0 0), (5, .ptr 2 0 0)], [(0, rdB q), (1, some (.cells [rowC 0 0 0 .nils] false)), (2, some (.cells [rowC a b c (.vs 7 (ps.map encP))] false))], 3⟩
theorem ck_seal [Syms] {N K nx : Nat} {e : Env} {H : Heap} {k a b c : Int} {q : BR} {ps : List Pg} {rows : List (List AVal)} {len : Nat} (hp : 0 < ps.length) (hn : NumsOk 1 nx [0, 1, 2, K] = true) (h0 : e.get 0 = .ptr 0 0 0) (h1 : e.get 1 = .int .i64 k) (h4 : e.get 4 = .ptr 1 0 0) (h5 : e.get 5 = .ptr 2 0 0)
 (H0 : H.get 0 = rdB q) (H1 : H.get 1 = some (.cells [rowC 0 0 0 .nils] false)) (H2 : H.get 2 = some (.cells [rowC a b c (.slice K 0 len 7 none)] false)) (HK : H.get K = some (.cells rows false)) (hr : rows = ps.map encP) (hl : len = ps.length) : Reb 1 N ⟨e, H, nx⟩ (ckF k q a b c ps) := by
 subst hr hl
 have hcut : ((ps.map encP).drop 0).take ps.length = ps.map encP := by rw [List.drop_zero, List.take_of_length_le (by simp)]
 have hs : FzV 3 (ps.map encP) (.slice 3 0 ps.length 7 none) (.vs 7 (ps.map encP)) := by
  have := FzV.sl (n := 3) (rows := ps.map encP) 0 ps.length 7 none hp (by simp)
  rwa [hcut] at this
 refine (reb_num (e3 := [(0, .ptr 0 0 0), (1, .int .i64 k), (4, .ptr 1 0 0), (5, .ptr 2 0 0)]) (H3 := [(0, rdB q), (1, some (.cells [rowC 0 0 0 .nils] false)), (2, some (.cells [rowC a b c (.slice 3 0 ps.length 7 none)] false)), (3, some (.cells (ps.map encP) false))]) [0, 1, 2, K] hn ⟨by rw [h0]; exact .refl _, by rw [h1]; exact .refl _, by rw [h4]; exact .refl _, by rw [h5]; exact .refl _, trivial⟩
  ⟨⟨show 0 < 4 by decide, _, H0, .refl _⟩, ⟨show 1 < 4 by decide, _, H1, .refl _⟩, ⟨show 2 < 4 by decide, _, H2, .refl _⟩, ⟨show 3 < 4 by decide, _, HK, wkB_same (fP _)⟩, trivial⟩).trans ?_
 refine (reb_freezeG (n := 3) (e3 := [(0, .ptr 0 0 0), (1, .int .i64 k), (4, .ptr 1 0 0), (5, .ptr 2 0 0)]) (H3 := [(0, rdB q), (1, some (.cells [rowC 0 0 0 .nils] false)), (2, some (.cells [rowC a b c (.vs 7 (ps.map encP))] false))]) rfl (fP ps) ⟨.same _, .same _, .same _, .same _, trivial⟩
  ⟨⟨by decide, _, rfl, .same _⟩, ⟨by decide, _, rfl, .same _⟩, ⟨by decide, _, rfl, .cells [rowC a b c (.slice 3 0 ps.length 7 none)] [rowC a b c (.vs 7 (ps.map encP))] false rfl (fun j r r' h h' => ?_)⟩, trivial⟩).trans (reb_num [0, 1, 2] rfl ⟨.refl _, .refl _, .refl _, .refl _, trivial⟩ ⟨⟨by decide, _, rfl, .refl _⟩, ⟨by decide, _, rfl, .refl _⟩, ⟨by decide, _, rfl, .refl _⟩, trivial⟩)
 cases j with
 | zero =>
   cases h; cases h'
   exact ⟨.same _, .same _, .same _, hs, .same _, .same _, .same _, .same _, .same _, .same _, .same _, trivial⟩
 | succ j => simp at h
theorem ck_seal0 [Syms] {N nx : Nat} {e : Env} {H : Heap} {k a b c : Int} {q : BR} (hn : NumsOk 1 nx [0, 1, 2] = true) (h0 : e.get 0 = .ptr 0 0 0) (h1 : e.get 1 = .int .i64 k) (h4 : e.get 4 = .ptr 1 0 0) (h5 : e.get 5 = .ptr 2 0 0)
 (H0 : H.get 0 = rdB q) (H1 : H.get 1 = some (.cells [rowC 0 0 0 .nils] false)) (H2 : H.get 2 = some (.cells [rowC a b c .nils] false)) : Reb 1 N ⟨e, H, nx⟩ (ckF k q a b c []) :=
 reb_num [0, 1, 2] hn ⟨by rw [h0]; exact .refl _, by rw [h1]; exact .refl _, by rw [h4]; exact .refl _, by rw [h5]; exact .refl _, trivial⟩
  ⟨⟨show 0 < 3 by decide, _, H0, .refl _⟩, ⟨show 1 < 3 by decide, _, H1, .refl _⟩, ⟨show 2 < 3 by decide, _, H2, wkB_rw (row := rowC a b c (.vs 7 [])) ⟨.refl _, .refl _, .refl _, .zero _ _ rfl, .refl _, .refl _, .refl _, .refl _, .refl _, .refl _, .refl _, trivial⟩⟩, trivial⟩
abbrev rowK (a b c : Int) (v : AVal) (kn : Bool) (nu : Int) (ha : Bool) : List AVal := [.int .i64 a, .int .i64 b, .int .u32 c, v, .bool kn, .int .i64 nu, .bool ha, .int .i64 0, .str [], .int .i64 0, .str []]
abbrev ckG (k : Int) (q : BR) (a b c : Int) (ps : List Pg) (kn : Bool) (nu : Int) (ha : Bool) : St := ⟨[(0, .ptr 0 0 0), (1, .int .i64 k), (4, .ptr 1 0 0), (5, .ptr 2 0 0)], [(0, rdB q), (1, some (.cells [rowC 0 0 0 .nils] false)), (2, some (.cells [rowK a b c (.vs 7 (ps.map encP)) kn nu ha] false))], 3⟩
theorem ckg_reb [Syms] {N nx : Nat} {e : Env} {H : Heap} {k a b c nu : Int} {q : BR} {ps : List Pg} {kn ha : Bool} {row : List AVal} (hn : NumsOk 1 nx [0, 1, 2] = true) (h0 : e.get 0 = .ptr 0 0 0) (h1 : e.get 1 = .int .i64 k) (h4 : e.get 4 = .ptr 1 0 0) (h5 : e.get 5 = .ptr 2 0 0)
 (H0 : H.get 0 = rdB q) (H1 : H.get 1 = some (.cells [rowC 0 0 0 .nils] false)) (H2 : H.get 2 = some (.cells [row] false)) (hr : WkVs row (rowK a b c (.vs 7 (ps.map encP)) kn nu ha)) : Reb 1 N ⟨e, H, nx⟩ (ckG k q a b c ps kn nu ha) :=
 reb_num [0, 1, 2] hn ⟨by rw [h0]; exact .refl _, by rw [h1]; exact .refl _, by rw [h4]; exact .refl _, by rw [h5]; exact .refl _, trivial⟩
  ⟨⟨show 0 < 3 by decide, _, H0, .refl _⟩, ⟨show 1 < 3 by decide, _, H1, .refl _⟩, ⟨show 2 < 3 by decide, _, H2, wkB_rw hr⟩, trivial⟩
theorem ckapp (ps : List Pg) (p : Pg) : List.take ps.length (List.drop 0 (ps.map encP)) ++ [encP p] = (ps ++ [p]).map encP := by
 rw [List.drop_zero, List.take_of_length_le (by simp), List.map_append]; rfl
theorem fchunk_t [Syms] {Post : AVal → Heap → Nat → Prop} (k : Int) (r : BR) (hl : r.b.length ≤ 1000000) (hP : Post (.agg (encC (chunkR k r).1)) [(0, rdB (chunkR k r).2)] 2) :
 fnT noneT cFck (fnTab fns) (tyTab tys) plCk 100 84 [.ptr 0 0 0, .int .i64 k] [(0, rdB r)] 1 (subP Post) := by
 unfold chunkR ckR0 at hP
 dsimp only at hP
 refine ⟨[0], [.ptr 0 0 0], [(0, rdB r)], rfl, ⟨.refl _, trivial⟩, ⟨⟨by decide, _, rfl, .refl _⟩, trivial⟩, r, rfl, rfl, rfl, by omega, ?_⟩
 have l_r1 : (plainR r).2.b.length ≤ r.b.length := numR_len _ _ _
 have n_v1 : (plainR r).1 ≤ 1048576 := numR_le (by decide) _
 generalize plainR r = q at *
 obtain ⟨v1, r1⟩ := q
 replace l_r1 : r1.b.length ≤ r.b.length := l_r1
 replace n_v1 : v1 ≤ 1048576 := n_v1
 dsimp only at hP
 refine ⟨[0], [.ptr 0 0 0], [(0, rdB r1)], rfl, ⟨.refl _, trivial⟩, ⟨⟨by decide, _, rfl, .refl _⟩, trivial⟩, r1, rfl, rfl, rfl, by omega, ?_⟩
 have l_r2 : (plainR r1).2.b.length ≤ r1.b.length := numR_len _ _ _
 have n_v2 : (plainR r1).1 ≤ 1048576 := numR_le (by decide) _
 generalize plainR r1 = q at *
 obtain ⟨v2, r2⟩ := q
 replace l_r2 : r2.b.length ≤ r1.b.length := l_r2
 replace n_v2 : v2 ≤ 1048576 := n_v2
 dsimp only at hP
 refine ⟨[0], [.ptr 0 0 0, .int .i64 ((4 : Nat) : Int)], [(0, rdB r2)], rfl, ⟨.refl _, .refl _, trivial⟩, ⟨⟨by decide, _, rfl, .refl _⟩, trivial⟩, r2, 4, rfl, rfl, rfl, ⟨by decide, by omega⟩, ?_⟩
 have l_r3 : (fixR 4 r2).2.b.length ≤ r2.b.length := fixR_len _ _
 have n_v3 : (fixR 4 r2).1 < 256 ^ 4 := fixR_lt _ _
 generalize fixR 4 r2 = q at *
 obtain ⟨v3, r3⟩ := q
 replace l_r3 : r3.b.length ≤ r2.b.length := l_r3
 replace n_v3 : v3 < 256 ^ 4 := n_v3
 dsimp only at hP
 have hw := wr32u n_v3
 repeat' (first | (refine And.intro ?_ ?_) | (intro h; try first | exact dz | replace h := cv))
 all_goals (try exact cz)
 refine ⟨[0], [.ptr 0 0 0, .int .i64 ((200 : Nat) : Int), .int .i64 4], [(0, rdB r3)], rfl, ⟨.refl _, .refl _, .refl _, trivial⟩, ⟨⟨by decide, _, rfl, .refl _⟩, trivial⟩, r3, 200, 4, rfl, rfl, rfl, ⟨by omega, by omega, by decide⟩, ?_⟩
 have l_r4 : (numR 200 4 r3).2.b.length ≤ r3.b.length := numR_len _ _ _
 have n_n : (numR 200 4 r3).1 ≤ 200 := numR_le (by decide) _
 generalize numR 200 4 r3 = q at *
 obtain ⟨n, r4⟩ := q
 replace l_r4 : r4.b.length ≤ r3.b.length := l_r4
 replace n_n : n ≤ 200 := n_n
 dsimp only at hP
 repeat' (first | (refine And.intro ?_ ?_) | (intro h; try first | exact dz | replace h := cv))
 all_goals (try exact cz)
 refine ⟨fun m s => ∃ (i : Nat) (q : BR) (ps : List Pg), (i ≤ n ∧ m = n - i ∧ ps.length ≤ i ∧ q.b.length ≤ r.b.length ∧ pagesR (n - i) q ps = pagesR n r4 []) ∧ (s = ckS k n i q v1 v2 v3 ps ∧ 0 < ps.length ∨ s = ckN k n i q v1 v2 v3 ∧ ps = []), ⟨_, ckN k n 0 r4 v1 v2 v3, reb_num [0, 1, 5] (by first | rfl | kernel_rfl) ⟨.refl _, .refl _, .refl _, .refl _, .refl _, .refl _, trivial⟩ ⟨⟨by decide, _, rfl, .refl _⟩, ⟨by decide, _, rfl, .refl _⟩, ⟨by decide, _, rfl, wkB_rw (row := rowC v1 v2 v3 .nils) ⟨.refl _, .refl _, wk_int hw, .refl _, .refl _, .refl _, .refl _, .refl _, .refl _, .refl _, .refl _, trivial⟩⟩, trivial⟩, 0, r4, [], ⟨by omega, rfl, by simp, by omega, rfl⟩, .inr ⟨rfl, rfl⟩⟩, ?_⟩
 rintro m s ⟨i, q, ps, ⟨hi, rfl, hpl, hql, hfr⟩, ⟨rfl, hp0⟩ | ⟨rfl, rfl⟩⟩
 ·by_cases h1 : i < n
  ·by_cases h2 : q.e = 0
   ·skip
    have hst : n - i = n - (i + 1) + 1 := by omega
    have hfs := pagesR_step (n - (i + 1)) q ps h2
    have hpl2 := pageR_len q
    have hcall : ∀ (K : AVal → Heap → Nat → Prop), K (.agg (encP (pageR q).1)) [(0, rdB (pageR q).2)] 2 → S_fpage [.ptr 0 0 0] [(0, rdB q)] 1 K := fun K hk => ⟨q, rfl, rfl, rfl, by omega, hk⟩
    generalize pageR q = y at *
    obtain ⟨p, q2⟩ := y
    dsimp only at hfs hpl2 hcall
    repeat' (first | (refine And.intro ?_ ?_) | (intro h; try first | exact dz | replace h := cv))
    all_goals (try exact cz)
    refine ⟨ckS k n i q2 v1 v2 v3 (ps ++ [p]), ?_, ?_⟩
    ·repeat' (first | (refine And.intro ?_ ?_) | (intro h; try first | exact dz | replace h := cv))
     all_goals (try exact cz)
     all_goals (refine ⟨[0], [.ptr 0 0 0], [(0, rdB q)], rfl, ⟨.refl _, trivial⟩, ⟨⟨by decide, _, rfl, .refl _⟩, trivial⟩, ?_⟩; refine hcall _ ?_)
     repeat' (first | (refine And.intro ?_ ?_) | (intro h; try first | exact dz | replace h := cv))
     all_goals (try exact cz)
     all_goals (refine Exists.intro () ?_; first | exact ck_reb (K := 7) (by exact rfl) rfl rfl rfl rfl rfl rfl rfl rfl rfl rfl rfl (ckapp _ _) (by simp) | exact ck_reb (K := 6) (by exact rfl) rfl rfl rfl rfl rfl rfl rfl rfl rfl rfl rfl (ckapp _ _) (by simp))
    ·repeat' (first | (refine And.intro ?_ ?_) | (intro h; try first | exact dz | replace h := cv))
     all_goals (try exact cz)
     exact ⟨_, ckS k n (i + 1) q2 v1 v2 v3 (ps ++ [p]), ck_reb (K := 3) rfl rfl rfl rfl rfl rfl rfl (by omega) rfl rfl rfl rfl rfl rfl, ⟨i + 1, q2, ps ++ [p], ⟨by omega, rfl, by simp; omega, by omega, by rw [← hfr, hst, hfs]⟩, .inl ⟨rfl, by simp⟩⟩, by omega⟩
   ·skip
    repeat' (first | (refine And.intro ?_ ?_) | (intro h; try first | exact dz | replace h := cv))
    all_goals (try exact cz)
    exact ⟨_, ckS k n (i + 1) q v1 v2 v3 ps, ck_reb (K := 3) rfl rfl rfl rfl rfl rfl rfl (by omega) rfl rfl rfl rfl rfl rfl, ⟨i + 1, q, ps, ⟨by omega, rfl, by omega, hql, by rw [← hfr, pagesR_stop _ _ _ h2, pagesR_stop _ _ _ h2]⟩, .inl ⟨rfl, hp0⟩⟩, by omega⟩
  ·skip
   have hfe : pagesR n r4 [] = (ps, q) := by
    rw [← hfr, show n - i = 0 by omega]; rfl
   rw [hfe] at hP
   dsimp only at hP
   repeat' (first | (refine And.intro ?_ ?_) | (intro h; try first | exact dz | replace h := cv))
   all_goals (try exact cz)
   ·show allLen 7 (List.take ps.length (List.drop 0 (ps.map encP))) = true
    rw [List.drop_zero, List.take_of_length_le (by simp)]; exact allLen_map (enc := encP) (z := 7) (fun _ => rfl) _
   refine ⟨_, .refl _ _ _, _, rfl, ?_⟩
   repeat' (first | (refine And.intro ?_ ?_) | (intro h; try first | exact dz | replace h := cv))
   all_goals (try exact cz)
   refine ⟨_, ck_seal (K := 5) hp0 (by exact rfl) rfl rfl rfl rfl rfl rfl rfl rfl (by show [] ++ List.take ps.length (List.drop 0 (ps.map encP)) = _; rw [List.drop_zero, List.take_of_length_le (by simp)]; rfl) (Nat.zero_add _), ?_⟩
   unfold knowR at hP
   dsimp only at hP
   refine ⟨[0], [.ptr 0 0 0], [(0, rdB q)], rfl, ⟨.refl _, trivial⟩, ⟨⟨by decide, _, rfl, .refl _⟩, trivial⟩, q, rfl, rfl, rfl, by omega, ?_⟩
   have l_q1 : (truthR q).2.b.length ≤ q.b.length := truthR_len _
   have n_t1 : (truthR q).1 ≤ 1 := truthR_le _
   generalize truthR q = q at *
   obtain ⟨t1, q1⟩ := q
   replace l_q1 : q1.b.length ≤ q.b.length := l_q1
   replace n_t1 : t1 ≤ 1 := n_t1
   dsimp only at hP
   by_cases ht1 : t1 = 1
   ·subst ht1
    rw [if_neg (fun h => h rfl)] at hP
    repeat' (first | (refine And.intro ?_ ?_) | (intro h; try first | exact dz | replace h := cv))
    all_goals (try exact cz)
    refine ⟨_, ckg_reb (k := k) (q := q1) (a := v1) (b := v2) (c := v3) (ps := ps) (kn := true) (nu := 0) (ha := false) (by exact rfl) rfl rfl rfl rfl rfl rfl rfl ⟨.refl _, .refl _, .refl _, .refl _, wk_bool rfl, .refl _, .refl _, .refl _, .refl _, .refl _, .refl _, trivial⟩, ?_⟩
    repeat' (first | (refine And.intro ?_ ?_) | (intro h; try first | exact dz | replace h := cv))
    all_goals (try exact cz)
    refine ⟨[0], [.ptr 0 0 0], [(0, rdB q1)], rfl, ⟨.refl _, trivial⟩, ⟨⟨by decide, _, rfl, .refl _⟩, trivial⟩, q1, rfl, rfl, rfl, by omega, ?_⟩
    have l_q2 : (plainR q1).2.b.length ≤ q1.b.length := numR_len _ _ _
    have n_v4 : (plainR q1).1 ≤ 1048576 := numR_le (by decide) _
    generalize plainR q1 = q at *
    obtain ⟨v4, q2⟩ := q
    replace l_q2 : q2.b.length ≤ q1.b.length := l_q2
    replace n_v4 : v4 ≤ 1048576 := n_v4
    dsimp only at hP
    repeat' (first | (refine And.intro ?_ ?_) | (intro h; try first | exact dz | replace h := cv))
    all_goals (try exact cz)
    refine ⟨[0], [.ptr 0 0 0], [(0, rdB q2)], rfl, ⟨.refl _, trivial⟩, ⟨⟨by decide, _, rfl, .refl _⟩, trivial⟩, q2, rfl, rfl, rfl, by omega, ?_⟩
    have l_q3 : (truthR q2).2.b.length ≤ q2.b.length := truthR_len _
    have n_t2 : (truthR q2).1 ≤ 1 := truthR_le _
    generalize truthR q2 = q at *
    obtain ⟨t2, q3⟩ := q
    replace l_q3 : q3.b.length ≤ q2.b.length := l_q3
    replace n_t2 : t2 ≤ 1 := n_t2
    dsimp only at hP
    by_cases ht2 : t2 = 1
    ·subst ht2
     rw [if_neg (fun h => h rfl)] at hP
     repeat' (first | (refine And.intro ?_ ?_) | (intro h; try first | exact dz | replace h := cv))
     all_goals (try exact cz)
     refine ⟨_, ckg_reb (k := k) (q := q3) (a := v1) (b := v2) (c := v3) (ps := ps) (kn := true) (nu := v4) (ha := true) (by exact rfl) rfl rfl rfl rfl rfl rfl rfl ⟨.refl _, .refl _, .refl _, .refl _, .refl _, .refl _, wk_bool rfl, .refl _, .refl _, .refl _, .refl _, trivial⟩, ?_⟩
     repeat' (first | (refine And.intro ?_ ?_) | (intro h; try first | exact dz | replace h := cv))
     all_goals (try exact cz)
     refine ⟨[0], [.ptr 0 0 0, .int .i64 k], [(0, rdB q3)], rfl, ⟨.refl _, .refl _, trivial⟩, ⟨⟨by decide, _, rfl, .refl _⟩, trivial⟩, k, q3, rfl, rfl, rfl, by omega, ?_⟩
     have l_q4 : (valR k q3).2.b.length ≤ q3.b.length := valR_len _ _
     generalize valR k q3 = y at *
     obtain ⟨w1, q4⟩ := y
     replace l_q4 : q4.b.length ≤ q3.b.length := l_q4
     dsimp only at hP
     refine ⟨[0], [.ptr 0 0 0, .int .i64 k], [(0, rdB q4)], rfl, ⟨.refl _, .refl _, trivial⟩, ⟨⟨by decide, _, rfl, .refl _⟩, trivial⟩, k, q4, rfl, rfl, rfl, by omega, ?_⟩
     generalize valR k q4 = y at *
     obtain ⟨w2, q5⟩ := y
     dsimp only at hP
     repeat' (first | (refine And.intro ?_ ?_) | (intro h; try first | exact dz | replace h := cv))
     all_goals (try exact cz)
     exact fin_var (k := 4) (n := 1) (row := encC ⟨v1, v2, v3, ps, true, v4, true, w1, w2⟩) rfl rfl rfl ⟨.refl _, .refl _, .refl _, .refl _, .refl _, .refl _, .refl _, .refl _, .refl _, .refl _, .refl _, trivial⟩ (eC _) (by first | rfl | kernel_rfl) rfl hP
    ·rw [if_pos ht2] at hP
     obtain rfl : t2 = 0 := by omega
     repeat' (first | (refine And.intro ?_ ?_) | (intro h; try first | exact dz | replace h := cv))
     all_goals (try exact cz)
     refine ⟨_, ckg_reb (k := k) (q := q3) (a := v1) (b := v2) (c := v3) (ps := ps) (kn := true) (nu := v4) (ha := false) (by exact rfl) rfl rfl rfl rfl rfl rfl rfl ⟨.refl _, .refl _, .refl _, .refl _, .refl _, .refl _, wk_bool rfl, .refl _, .refl _, .refl _, .refl _, trivial⟩, ?_⟩
     repeat' (first | (refine And.intro ?_ ?_) | (intro h; try first | exact dz | replace h := cv))
     all_goals (try exact cz)
     exact fin_var (k := 4) (n := 1) (row := encC ⟨v1, v2, v3, ps, true, v4, false, default, default⟩) rfl rfl rfl ⟨.refl _, .refl _, .refl _, .refl _, .refl _, .refl _, .refl _, .refl _, .refl _, .refl _, .refl _, trivial⟩ (eC _) (by first | rfl | kernel_rfl) rfl hP
   ·rw [if_pos ht1] at hP
    obtain rfl : t1 = 0 := by omega
    repeat' (first | (refine And.intro ?_ ?_) | (intro h; try first | exact dz | replace h := cv))
    all_goals (try exact cz)
    refine ⟨_, ckg_reb (k := k) (q := q1) (a := v1) (b := v2) (c := v3) (ps := ps) (kn := false) (nu := 0) (ha := false) (by exact rfl) rfl rfl rfl rfl rfl rfl rfl ⟨.refl _, .refl _, .refl _, .refl _, wk_bool rfl, .refl _, .refl _, .refl _, .refl _, .refl _, .refl _, trivial⟩, ?_⟩
    repeat' (first | (refine And.intro ?_ ?_) | (intro h; try first | exact dz | replace h := cv))
    all_goals (try exact cz)
    exact fin_var (k := 4) (n := 1) (row := encC ⟨v1, v2, v3, ps, false, default⟩) rfl rfl rfl ⟨.refl _, .refl _, .refl _, .refl _, .refl _, .refl _, .refl _, .refl _, .refl _, .refl _, .refl _, trivial⟩ (eC _) (by first | rfl | kernel_rfl) rfl hP
 ·by_cases h1 : i < n
  ·by_cases h2 : q.e = 0
   ·skip
    have hst : n - i = n - (i + 1) + 1 := by omega
    have hfs := pagesR_step (n - (i + 1)) q [] h2
    have hpl2 := pageR_len q
    have hcall : ∀ (K : AVal → Heap → Nat → Prop), K (.agg (encP (pageR q).1)) [(0, rdB (pageR q).2)] 2 → S_fpage [.ptr 0 0 0] [(0, rdB q)] 1 K := fun K hk => ⟨q, rfl, rfl, rfl, by omega, hk⟩
    generalize pageR q = y at *
    obtain ⟨p, q2⟩ := y
    dsimp only at hfs hpl2 hcall
    repeat' (first | (refine And.intro ?_ ?_) | (intro h; try first | exact dz | replace h := cv))
    all_goals (try exact cz)
    refine ⟨ckS k n i q2 v1 v2 v3 ([p]), ?_, ?_⟩
    ·repeat' (first | (refine And.intro ?_ ?_) | (intro h; try first | exact dz | replace h := cv))
     all_goals (try exact cz)
     all_goals (refine ⟨[0], [.ptr 0 0 0], [(0, rdB q)], rfl, ⟨.refl _, trivial⟩, ⟨⟨by decide, _, rfl, .refl _⟩, trivial⟩, ?_⟩; refine hcall _ ?_)
     repeat' (first | (refine And.intro ?_ ?_) | (intro h; try first | exact dz | replace h := cv))
     all_goals (try exact cz)
     all_goals (refine Exists.intro () ?_; first | exact ck_reb (K := 6) (by exact rfl) rfl rfl rfl rfl rfl rfl rfl rfl rfl rfl rfl (rfl) rfl | exact ck_reb (K := 5) (by exact rfl) rfl rfl rfl rfl rfl rfl rfl rfl rfl rfl rfl (rfl) rfl)
    ·repeat' (first | (refine And.intro ?_ ?_) | (intro h; try first | exact dz | replace h := cv))
     all_goals (try exact cz)
     exact ⟨_, ckS k n (i + 1) q2 v1 v2 v3 ([p]), ck_reb (K := 3) rfl rfl rfl rfl rfl rfl rfl (by omega) rfl rfl rfl rfl rfl rfl, ⟨i + 1, q2, [p], ⟨by omega, rfl, by simp, by omega, by rw [← hfr, hst, hfs]; rfl⟩, .inl ⟨rfl, by simp⟩⟩, by omega⟩
   ·skip
    repeat' (first | (refine And.intro ?_ ?_) | (intro h; try first | exact dz | replace h := cv))
    all_goals (try exact cz)
    exact ⟨_, ckN k n (i + 1) q v1 v2 v3 , reb_num [0, 1, 2] rfl ⟨.refl _, .refl _, .refl _, .refl _, .refl _, wk_int (by omega), trivial⟩ ⟨⟨by decide, _, rfl, .refl _⟩, ⟨by decide, _, rfl, .refl _⟩, ⟨by decide, _, rfl, .refl _⟩, trivial⟩, ⟨i + 1, q, [], ⟨by omega, rfl, by simp, hql, by rw [← hfr, pagesR_stop _ _ _ h2, pagesR_stop _ _ _ h2]⟩, .inr ⟨rfl, rfl⟩⟩, by omega⟩
  ·skip
   have hfe : pagesR n r4 [] = ([], q) := by
    rw [← hfr, show n - i = 0 by omega]; rfl
   rw [hfe] at hP
   dsimp only at hP
   repeat' (first | (refine And.intro ?_ ?_) | (intro h; try first | exact dz | replace h := cv))
   all_goals (try exact cz)
   refine ⟨_, .refl _ _ _, _, rfl, ?_⟩
   repeat' (first | (refine And.intro ?_ ?_) | (intro h; try first | exact dz | replace h := cv))
   all_goals (try exact cz)
   refine ⟨_, ck_seal0 (by exact rfl) rfl rfl rfl rfl rfl rfl rfl, ?_⟩
   unfold knowR at hP
   dsimp only at hP
   refine ⟨[0], [.ptr 0 0 0], [(0, rdB q)], rfl, ⟨.refl _, trivial⟩, ⟨⟨by decide, _, rfl, .refl _⟩, trivial⟩, q, rfl, rfl, rfl, by omega, ?_⟩
   have l_q1 : (truthR q).2.b.length ≤ q.b.length := truthR_len _
   have n_t1 : (truthR q).1 ≤ 1 := truthR_le _
   generalize truthR q = q at *
   obtain ⟨t1, q1⟩ := q
   replace l_q1 : q1.b.length ≤ q.b.length := l_q1
   replace n_t1 : t1 ≤ 1 := n_t1
   dsimp only at hP
   by_cases ht1 : t1 = 1
   ·subst ht1
    rw [if_neg (fun h => h rfl)] at hP
    repeat' (first | (refine And.intro ?_ ?_) | (intro h; try first | exact dz | replace h := cv))
    all_goals (try exact cz)
    refine ⟨_, ckg_reb (k := k) (q := q1) (a := v1) (b := v2) (c := v3) (ps := []) (kn := true) (nu := 0) (ha := false) (by exact rfl) rfl rfl rfl rfl rfl rfl rfl ⟨.refl _, .refl _, .refl _, .refl _, wk_bool rfl, .refl _, .refl _, .refl _, .refl _, .refl _, .refl _, trivial⟩, ?_⟩
    repeat' (first | (refine And.intro ?_ ?_) | (intro h; try first | exact dz | replace h := cv))
    all_goals (try exact cz)
    refine ⟨[0], [.ptr 0 0 0], [(0, rdB q1)], rfl, ⟨.refl _, trivial⟩, ⟨⟨by decide, _, rfl, .refl _⟩, trivial⟩, q1, rfl, rfl, rfl, by omega, ?_⟩
    have l_q2 : (plainR q1).2.b.length ≤ q1.b.length := numR_len _ _ _
    have n_v4 : (plainR q1).1 ≤ 1048576 := numR_le (by decide) _
    generalize plainR q1 = q at *
    obtain ⟨v4, q2⟩ := q
    replace l_q2 : q2.b.length ≤ q1.b.length := l_q2
    replace n_v4 : v4 ≤ 1048576 := n_v4
    dsimp only at hP
    repeat' (first | (refine And.intro ?_ ?_) | (intro h; try first | exact dz | replace h := cv))
    all_goals (try exact cz)
    refine ⟨[0], [.ptr 0 0 0], [(0, rdB q2)], rfl, ⟨.refl _, trivial⟩, ⟨⟨by decide, _, rfl, .refl _⟩, trivial⟩, q2, rfl, rfl, rfl, by omega, ?_⟩
    have l_q3 : (truthR q2).2.b.length ≤ q2.b.length := truthR_len _
    have n_t2 : (truthR q2).1 ≤ 1 := truthR_le _
    generalize truthR q2 = q at *
    obtain ⟨t2, q3⟩ := q
    replace l_q3 : q3.b.length ≤ q2.b.length := l_q3
    replace n_t2 : t2 ≤ 1 := n_t2
    dsimp only at hP
    by_cases ht2 : t2 = 1
    ·subst ht2
     rw [if_neg (fun h => h rfl)] at hP
     repeat' (first | (refine And.intro ?_ ?_) | (intro h; try first | exact dz | replace h := cv))
     all_goals (try exact cz)
     refine ⟨_, ckg_reb (k := k) (q := q3) (a := v1) (b := v2) (c := v3) (ps := []) (kn := true) (nu := v4) (ha := true) (by exact rfl) rfl rfl rfl rfl rfl rfl rfl ⟨.refl _, .refl _, .refl _, .refl _, .refl _, .refl _, wk_bool rfl, .refl _, .refl _, .refl _, .refl _, trivial⟩, ?_⟩
     repeat' (first | (refine And.intro ?_ ?_) | (intro h; try first | exact dz | replace h := cv))
     all_goals (try exact cz)
     refine ⟨[0], [.ptr 0 0 0, .int .i64 k], [(0, rdB q3)], rfl, ⟨.refl _, .refl _, trivial⟩, ⟨⟨by decide, _, rfl, .refl _⟩, trivial⟩, k, q3, rfl, rfl, rfl, by omega, ?_⟩
     have l_q4 : (valR k q3).2.b.length ≤ q3.b.length := valR_len _ _
     generalize valR k q3 = y at *
     obtain ⟨w1, q4⟩ := y
     replace l_q4 : q4.b.length ≤ q3.b.length := l_q4
     dsimp only at hP
     refine ⟨[0], [.ptr 0 0 0, .int .i64 k], [(0, rdB q4)], rfl, ⟨.refl _, .refl _, trivial⟩, ⟨⟨by decide, _, rfl, .refl _⟩, trivial⟩, k, q4, rfl, rfl, rfl, by omega, ?_⟩
     generalize valR k q4 = y at *
     obtain ⟨w2, q5⟩ := y
     dsimp only at hP
     repeat' (first | (refine And.intro ?_ ?_) | (intro h; try first | exact dz | replace h := cv))
     all_goals (try exact cz)
     exact fin_var (k := 4) (n := 1) (row := encC ⟨v1, v2, v3, [], true, v4, true, w1, w2⟩) rfl rfl rfl ⟨.refl _, .refl _, .refl _, .refl _, .refl _, .refl _, .refl _, .refl _, .refl _, .refl _, .refl _, trivial⟩ (eC _) (by first | rfl | kernel_rfl) rfl hP
    ·rw [if_pos ht2] at hP
     obtain rfl : t2 = 0 := by omega
     repeat' (first | (refine And.intro ?_ ?_) | (intro h; try first | exact dz | replace h := cv))
     all_goals (try exact cz)
     refine ⟨_, ckg_reb (k := k) (q := q3) (a := v1) (b := v2) (c := v3) (ps := []) (kn := true) (nu := v4) (ha := false) (by exact rfl) rfl rfl rfl rfl rfl rfl rfl ⟨.refl _, .refl _, .refl _, .refl _, .refl _, .refl _, wk_bool rfl, .refl _, .refl _, .refl _, .refl _, trivial⟩, ?_⟩
     repeat' (first | (refine And.intro ?_ ?_) | (intro h; try first | exact dz | replace h := cv))
     all_goals (try exact cz)
     exact fin_var (k := 4) (n := 1) (row := encC ⟨v1, v2, v3, [], true, v4, false, default, default⟩) rfl rfl rfl ⟨.refl _, .refl _, .refl _, .refl _, .refl _, .refl _, .refl _, .refl _, .refl _, .refl _, .refl _, trivial⟩ (eC _) (by first | rfl | kernel_rfl) rfl hP
   ·rw [if_pos ht1] at hP
    obtain rfl : t1 = 0 := by omega
    repeat' (first | (refine And.intro ?_ ?_) | (intro h; try first | exact dz | replace h := cv))
    all_goals (try exact cz)
    refine ⟨_, ckg_reb (k := k) (q := q1) (a := v1) (b := v2) (c := v3) (ps := []) (kn := false) (nu := 0) (ha := false) (by exact rfl) rfl rfl rfl rfl rfl rfl rfl ⟨.refl _, .refl _, .refl _, .refl _, wk_bool rfl, .refl _, .refl _, .refl _, .refl _, .refl _, .refl _, trivial⟩, ?_⟩
    repeat' (first | (refine And.intro ?_ ?_) | (intro h; try first | exact dz | replace h := cv))
    all_goals (try exact cz)
    exact fin_var (k := 4) (n := 1) (row := encC ⟨v1, v2, v3, [], false, default⟩) rfl rfl rfl ⟨.refl _, .refl _, .refl _, .refl _, .refl _, .refl _, .refl _, .refl _, .refl _, .refl _, .refl _, trivial⟩ (eC _) (by first | rfl | kernel_rfl) rfl hP
def S_fchunk : SpecT := fun args H nx Post => ∃ (k : Int) (r : BR), args = [.ptr 0 0 0, .int .i64 k] ∧ H = [(0, rdB r)] ∧ nx = 1 ∧ r.b.length ≤ 1000000 ∧ Post (.agg (encC (chunkR k r).1)) [(0, rdB (chunkR k r).2)] 2
theorem fchunk_ok [Syms] : S_fchunk.ok Try.prog 84 := by
 rintro args H nx Post ⟨k, r, rfl, rfl, rfl, h1, h⟩
 exact FnSem.forget (fnT_sound tys_ok fns_ok noneT_det cFck_ok mixed (fchunk_t k r h1 h))
theorem chunkR_len (k : Int) (r : BR) : (chunkR k r).2.b.length ≤ r.b.length := by
 have pagesR_len : ∀ (k : Nat) (r : BR) (s : List Pg), (pagesR k r s).2.b.length ≤ r.b.length := by
  intro k
  induction k with
  | zero => intro r s; exact Nat.le_refl _
  | succ k ih =>
    intro r s
    rw [pagesR]
    split
    ·exact Nat.le_refl _
    ·exact Nat.le_trans (ih _ _) (pageR_len _)
 have knowR_len : ∀ (r : BR), (knowR k r).2.b.length ≤ r.b.length := by
  intro r
  unfold knowR plainR
  dsimp only
  split
  ·exact truthR_len _
  ·split
   ·exact Nat.le_trans (truthR_len _) (Nat.le_trans (numR_len _ _ _) (truthR_len _))
   ·exact Nat.le_trans (valR_len _ _) (Nat.le_trans (valR_len _ _) (Nat.le_trans (truthR_len _) (Nat.le_trans (numR_len _ _ _) (truthR_len _))))
 unfold chunkR ckR0 plainR
 exact Nat.le_trans (knowR_len _) (Nat.le_trans (pagesR_len _ _ _) (Nat.le_trans (numR_len _ _ _) (Nat.le_trans (fixR_len _ _) (Nat.le_trans (numR_len _ _ _) (numR_len _ _ _)))))
end Go.Proofs.Ytajieadpaeggcaa

end
section
set_option linter.unusedVariables false
set_option linter.unusedSimpArgs false
namespace Go.Proofs.Ytajieadpaeggcaa
open Go Go.Av
set_option maxRecDepth 100000
set_option maxHeartbeats 4000000
abbrev cFgr [Syms] : CallT := pickT 57 (specT S_fplain) (pickT 84 (specT S_fchunk) (pickT 85 (bodyT noneT noneT (fnTab fns) (tyTab tys) (plTab plt) 100) noneT))
theorem cFgr_ok [Syms] : cFgr.ok Try.prog := pickT_spec fplain_ok (pickT_spec fchunk_ok (pickT_ok (bodyT_ok tys_ok fns_ok noneT_det noneT_ok mixed) noneT_ok))
noncomputable def plGr : Nat → Nat → Pl := plAdd [(58, 4), (58, 6), (58, 2)] (plTab plt)
abbrev rowG (a : Int) (v : AVal) : List AVal := [.int .i64 a, v]
def gpS (ls : List Lf) (i : Nat) (q : BR) (n : Int) (cs : List Ck) : St := ⟨[(0, .ptr 0 0 0), (1, vL ls), (4, .ptr 1 0 0), (5, .ptr 2 0 0), (6, .int .i64 i)], [(0, rdB q), (1, some (.cells [rowG 0 .nils] false)), (2, some (.cells [rowG n (.slice 3 0 cs.length 11 none)] false)), (3, some (.cells (cs.map encC) false))], 4⟩
def gpF (q : BR) (n : Int) (cs : List Ck) : St := ⟨[(0, .ptr 0 0 0), (4, .ptr 1 0 0), (5, .ptr 2 0 0)], [(0, rdB q), (1, some (.cells [rowG 0 .nils] false)), (2, some (.cells [rowG n (.vs 11 (cs.map encC))] false))], 3⟩
theorem gp_reb [Syms] {N B K nx : Nat} {e : Env} {H : Heap} {ls : List Lf} {n i1 : Int} {i : Nat} {q : BR} {cs : List Ck} {rows : List (List AVal)} {len : Nat} (hn : NumsOk 1 nx [0, 1, B, K] = true) (h0 : e.get 0 = .ptr 0 0 0) (h1 : e.get 1 = vL ls) (h4 : e.get 4 = .ptr 1 0 0) (h5 : e.get 5 = .ptr B 0 0) (h6 : e.get 6 = .int .i64 i1) (hi : i1 = i)
 (H0 : H.get 0 = rdB q) (H1 : H.get 1 = some (.cells [rowG 0 .nils] false)) (H2 : H.get B = some (.cells [rowG n (.slice K 0 len 11 none)] false)) (HK : H.get K = some (.cells rows false)) (hr : rows = cs.map encC) (hl : len = cs.length) : Reb 1 N ⟨e, H, nx⟩ (gpS ls i q n cs) := by
 subst hr hl hi
 exact reb_num [0, 1, B, K] hn ⟨by rw [h0]; exact .refl _, by rw [h1]; exact .refl _, by rw [h4]; exact .refl _, by rw [h5]; exact .refl _, by rw [h6]; exact .refl _, trivial⟩
  ⟨⟨show 0 < 4 by decide, _, H0, .refl _⟩, ⟨show 1 < 4 by decide, _, H1, .refl _⟩, ⟨show 2 < 4 by decide, _, H2, .refl _⟩, ⟨show 3 < 4 by decide, _, HK, wkB_same (fC _)⟩, trivial⟩
theorem gp_seal [Syms] {N B K nx : Nat} {e : Env} {H : Heap} {n : Int} {q : BR} {cs : List Ck} {rows : List (List AVal)} {len : Nat} (hp : 0 < cs.length) (hn : NumsOk 1 nx [0, 1, B, K] = true) (h0 : e.get 0 = .ptr 0 0 0) (h4 : e.get 4 = .ptr 1 0 0) (h5 : e.get 5 = .ptr B 0 0)
 (H0 : H.get 0 = rdB q) (H1 : H.get 1 = some (.cells [rowG 0 .nils] false)) (H2 : H.get B = some (.cells [rowG n (.slice K 0 len 11 none)] false)) (HK : H.get K = some (.cells rows false)) (hr : rows = cs.map encC) (hl : len = cs.length) : Reb 1 N ⟨e, H, nx⟩ (gpF q n cs) := by
 subst hr hl
 have hcut : ((cs.map encC).drop 0).take cs.length = cs.map encC := by rw [List.drop_zero, List.take_of_length_le (by simp)]
 have hs : FzV 3 (cs.map encC) (.slice 3 0 cs.length 11 none) (.vs 11 (cs.map encC)) := by
  have := FzV.sl (n := 3) (rows := cs.map encC) 0 cs.length 11 none hp (by simp)
  rwa [hcut] at this
 refine (reb_num (e3 := [(0, .ptr 0 0 0), (4, .ptr 1 0 0), (5, .ptr 2 0 0)]) (H3 := [(0, rdB q), (1, some (.cells [rowG 0 .nils] false)), (2, some (.cells [rowG n (.slice 3 0 cs.length 11 none)] false)), (3, some (.cells (cs.map encC) false))]) [0, 1, B, K] hn ⟨by rw [h0]; exact .refl _, by rw [h4]; exact .refl _, by rw [h5]; exact .refl _, trivial⟩
  ⟨⟨show 0 < 4 by decide, _, H0, .refl _⟩, ⟨show 1 < 4 by decide, _, H1, .refl _⟩, ⟨show 2 < 4 by decide, _, H2, .refl _⟩, ⟨show 3 < 4 by decide, _, HK, wkB_same (fC _)⟩, trivial⟩).trans ?_
 refine (reb_freezeG (n := 3) (e3 := [(0, .ptr 0 0 0), (4, .ptr 1 0 0), (5, .ptr 2 0 0)]) (H3 := [(0, rdB q), (1, some (.cells [rowG 0 .nils] false)), (2, some (.cells [rowG n (.vs 11 (cs.map encC))] false))]) rfl (fC cs) ⟨.same _, .same _, .same _, trivial⟩
  ⟨⟨by decide, _, rfl, .same _⟩, ⟨by decide, _, rfl, .same _⟩, ⟨by decide, _, rfl, .cells [rowG n (.slice 3 0 cs.length 11 none)] [rowG n (.vs 11 (cs.map encC))] false rfl (fun j r r' h h' => ?_)⟩, trivial⟩).trans (reb_num [0, 1, 2] rfl ⟨.refl _, .refl _, .refl _, trivial⟩ ⟨⟨by decide, _, rfl, .refl _⟩, ⟨by decide, _, rfl, .refl _⟩, ⟨by decide, _, rfl, .refl _⟩, trivial⟩)
 cases j with
 | zero =>
   cases h; cases h'
   exact ⟨.same _, hs, trivial⟩
 | succ j => simp at h
theorem gp_seal0 [Syms] {N B nx : Nat} {e : Env} {H : Heap} {n : Int} {q : BR} (hn : NumsOk 1 nx [0, 1, B] = true) (h0 : e.get 0 = .ptr 0 0 0) (h4 : e.get 4 = .ptr 1 0 0) (h5 : e.get 5 = .ptr B 0 0)
 (H0 : H.get 0 = rdB q) (H1 : H.get 1 = some (.cells [rowG 0 .nils] false)) (H2 : H.get B = some (.cells [rowG n .nils] false)) : Reb 1 N ⟨e, H, nx⟩ (gpF q n []) :=
 reb_num [0, 1, B] hn ⟨by rw [h0]; exact .refl _, by rw [h4]; exact .refl _, by rw [h5]; exact .refl _, trivial⟩
  ⟨⟨show 0 < 3 by decide, _, H0, .refl _⟩, ⟨show 1 < 3 by decide, _, H1, .refl _⟩, ⟨show 2 < 3 by decide, _, H2, wkB_rw (row := rowG n (.vs 11 [])) ⟨.refl _, .zero _ _ rfl, trivial⟩⟩, trivial⟩
def gpN (ls : List Lf) (q : BR) (n : Int) : St := ⟨[(0, .ptr 0 0 0), (1, vL ls), (4, .ptr 1 0 0), (5, .ptr 2 0 0), (6, .int .i64 0)], [(0, rdB q), (1, some (.cells [rowG 0 .nils] false)), (2, some (.cells [rowG n .nils] false))], 3⟩
theorem eR (p : Rw) : ∀ x ∈ encR p, x.flat = true := fR [p] _ (List.mem_singleton.2 rfl)
theorem ckapp' (ps : List Ck) (p : Ck) : List.take ps.length (List.drop 0 (ps.map encC)) ++ [encC p] = (ps ++ [p]).map encC := by
 rw [List.drop_zero, List.take_of_length_le (by simp), List.map_append]; rfl
abbrev kindsL (ls : List Lf) : List Int := ls.map (·.kind)
theorem chunksR_step {ls : List Lf} {i : Nat} (hi : i < ls.length) (r : BR) (s : List Ck) (h : r.e = 0) : chunksR ((kindsL ls).drop i) r s = chunksR ((kindsL ls).drop (i + 1)) (chunkR (ls.getD i default).kind r).2 (s ++ [(chunkR (ls.getD i default).kind r).1]) := by
 have : (kindsL ls).drop i = (ls.getD i default).kind :: (kindsL ls).drop (i + 1) := by
  rw [List.drop_eq_getElem_cons (by simpa using hi)]
  simp [hi]
 rw [this, chunksR, if_neg (fun x => x h)]
theorem chunksR_stop (k : List Int) (r : BR) (s : List Ck) (h : r.e ≠ 0) : chunksR k r s = (s, r) := by
 cases k with
 | nil => rfl
 | cons k ks => rw [chunksR, if_pos h]
theorem fgroup_t [Syms] {Post : AVal → Heap → Nat → Prop} (ls : List Lf) (r : BR) (hl : r.b.length ≤ 1000000) (hll : ls.length ≤ 1000) (hP : Post (.agg (encR (groupR (kindsL ls) r).1)) [(0, rdB (groupR (kindsL ls) r).2)] 2) :
 fnT noneT cFgr (fnTab fns) (tyTab tys) plGr 100 58 [.ptr 0 0 0, vL ls] [(0, rdB r)] 1 (subP Post) := by
 unfold groupR at hP
 dsimp only at hP
 refine .inr ⟨fun l m s => l = 0 ∧ ∃ (n : Int) (i : Nat) (q : BR) (cs : List Ck), (i ≤ ls.length ∧ m = ls.length - i ∧ 0 < cs.length ∧ cs.length ≤ i ∧ q.b.length ≤ r.b.length ∧ ((plainR r).1 : Nat) = n ∧ chunksR ((kindsL ls).drop i) q cs = chunksR (kindsL ls) (plainR r).2 []) ∧ s = gpS ls i q n cs, ?_, ?_⟩
 ·refine ⟨[0], [.ptr 0 0 0], [(0, rdB r)], rfl, ⟨.refl _, trivial⟩, ⟨⟨by decide, _, rfl, .refl _⟩, trivial⟩, r, rfl, rfl, rfl, by omega, ?_⟩
  have l_r1 : (plainR r).2.b.length ≤ r.b.length := numR_len _ _ _
  have n_v1 : (plainR r).1 ≤ 1048576 := numR_le (by decide) _
  generalize plainR r = q at *
  obtain ⟨v1, r1⟩ := q
  replace l_r1 : r1.b.length ≤ r.b.length := l_r1
  replace n_v1 : v1 ≤ 1048576 := n_v1
  dsimp only at hP
  repeat' (first | (refine And.intro ?_ ?_) | (intro h; try first | exact dz | replace h := cv))
  all_goals (try exact cz)
  refine ⟨gpN ls r1 v1, reb_num [0, 1, 3] (by exact rfl) ⟨.refl _, .refl _, .refl _, .refl _, .refl _, trivial⟩ ⟨⟨by decide, _, rfl, .refl _⟩, ⟨by decide, _, rfl, .refl _⟩, ⟨by decide, _, rfl, .refl _⟩, trivial⟩, ?_⟩
  by_cases h1 : 0 < ls.length ∧ r1.e = 0
  ·obtain ⟨h1, h2⟩ := h1
   have hfs := chunksR_step (i := 0) (by omega) r1 [] h2
   have hpl2 := chunkR_len (ls.getD 0 default).kind r1
   have hcall : ∀ (K : AVal → Heap → Nat → Prop), K (.agg (encC (chunkR (ls.getD 0 default).kind r1).1)) [(0, rdB (chunkR (ls.getD 0 default).kind r1).2)] 2 → S_fchunk [.ptr 0 0 0, .int .i64 (ls.getD 0 default).kind] [(0, rdB r1)] 1 K := fun K hk => ⟨_, r1, rfl, rfl, rfl, by omega, hk⟩
   generalize chunkR (ls.getD 0 default).kind r1 = y at *
   obtain ⟨p, q2⟩ := y
   dsimp only at hfs hpl2 hcall
   repeat' (first | (refine And.intro ?_ ?_) | (intro h; try first | exact dz | replace h := cv))
   all_goals (try exact cz)
   refine ⟨gpS ls 0 q2 v1 ([p]), ?_, ?_⟩
   ·repeat' (first | (refine And.intro ?_ ?_) | (intro h; try first | exact dz | replace h := cv))
    all_goals (try exact cz)
    all_goals (refine ⟨[0], [.ptr 0 0 0, .int .i64 (ls.getD 0 default).kind], [(0, rdB r1)], rfl, ⟨.refl _, .refl _, trivial⟩, ⟨⟨by decide, _, rfl, .refl _⟩, trivial⟩, ?_⟩; refine hcall _ ?_)
    repeat' (first | (refine And.intro ?_ ?_) | (intro h; try first | exact dz | replace h := cv))
    all_goals (try exact cz)
    all_goals (refine Exists.intro () ?_; first | exact gp_reb (B := 2) (K := 6) (by exact rfl) rfl rfl rfl rfl rfl (by rfl) rfl rfl rfl rfl rfl rfl | exact gp_reb (B := 2) (K := 5) (by exact rfl) rfl rfl rfl rfl rfl (by rfl) rfl rfl rfl rfl rfl rfl)
   ·repeat' (first | (refine And.intro ?_ ?_) | (intro h; try first | exact dz | replace h := cv))
    all_goals (try exact cz)
    exact ⟨_, gpS ls (0 + 1) q2 v1 ([p]), gp_reb (B := 2) (K := 3) rfl rfl rfl rfl rfl rfl (by omega) rfl rfl rfl rfl rfl rfl, ⟨rfl, v1, 0 + 1, q2, [p], ⟨by omega, rfl, by simp, by simp, by omega, rfl, by rw [show ([] : List Ck) ++ [p] = [p] from rfl] at hfs; rw [← hfs]; rfl⟩, rfl⟩⟩
  ·skip
   have hfe : chunksR (kindsL ls) r1 [] = ([], r1) := by
    by_cases h2 : r1.e = 0
    ·have : ls = [] := List.eq_nil_of_length_eq_zero (by omega)
     subst this; rfl
    ·exact chunksR_stop _ _ _ h2
   rw [hfe] at hP
   dsimp only at hP
   repeat' (first | (refine And.intro ?_ ?_) | (intro h; try first | exact dz | replace h := cv))
   all_goals (try exact cz)
   all_goals refine ⟨_, .refl _ _ _, _, rfl, ?_⟩
   repeat' (first | (refine And.intro ?_ ?_) | (intro h; try first | exact dz | replace h := cv))
   all_goals (try exact cz)
   all_goals refine ⟨_, gp_seal0 (B := 2) (by exact rfl) rfl rfl rfl rfl rfl rfl, ?_⟩
   repeat' (first | (refine And.intro ?_ ?_) | (intro h; try first | exact dz | replace h := cv))
   all_goals (try exact cz)
   all_goals exact fin_var (k := 4) (n := 1) (row := encR ⟨v1, []⟩) rfl rfl rfl ⟨.refl _, .refl _, trivial⟩ (eR _) (by first | rfl | kernel_rfl) rfl hP
 ·rintro l rest m s hl0 ⟨rfl, n, i, q, cs, ⟨hi, rfl, hc0, hci, hql, hn, hfr⟩, rfl⟩
  cases hl0
  by_cases h1 : i < ls.length ∧ q.e = 0
  ·obtain ⟨h1, h2⟩ := h1
   have hfs := chunksR_step (i := i) (by omega) q cs h2
   have hpl2 := chunkR_len (ls.getD i default).kind q
   have hcall : ∀ (K : AVal → Heap → Nat → Prop), K (.agg (encC (chunkR (ls.getD i default).kind q).1)) [(0, rdB (chunkR (ls.getD i default).kind q).2)] 2 → S_fchunk [.ptr 0 0 0, .int .i64 (ls.getD i default).kind] [(0, rdB q)] 1 K := fun K hk => ⟨_, q, rfl, rfl, rfl, by omega, hk⟩
   generalize chunkR (ls.getD i default).kind q = y at *
   obtain ⟨p, q2⟩ := y
   dsimp only at hfs hpl2 hcall
   repeat' (first | (refine And.intro ?_ ?_) | (intro h; try first | exact dz | replace h := cv))
   all_goals (try exact cz)
   refine ⟨gpS ls i q2 n (cs ++ [p]), ?_, ?_⟩
   ·repeat' (first | (refine And.intro ?_ ?_) | (intro h; try first | exact dz | replace h := cv))
    all_goals (try exact cz)
    all_goals (refine ⟨[0], [.ptr 0 0 0, .int .i64 (ls.getD i default).kind], [(0, rdB q)], rfl, ⟨.refl _, .refl _, trivial⟩, ⟨⟨by decide, _, rfl, .refl _⟩, trivial⟩, ?_⟩; refine hcall _ ?_)
    repeat' (first | (refine And.intro ?_ ?_) | (intro h; try first | exact dz | replace h := cv))
    all_goals (try exact cz)
    all_goals (refine Exists.intro () ?_; first | exact gp_reb (B := 2) (K := 7) (by exact rfl) rfl rfl rfl rfl rfl (by rfl) rfl rfl rfl rfl (ckapp' _ _) (by simp) | exact gp_reb (B := 2) (K := 6) (by exact rfl) rfl rfl rfl rfl rfl (by rfl) rfl rfl rfl rfl (ckapp' _ _) (by simp))
   ·repeat' (first | (refine And.intro ?_ ?_) | (intro h; try first | exact dz | replace h := cv))
    all_goals (try exact cz)
    exact ⟨_, gpS ls (i + 1) q2 n (cs ++ [p]), gp_reb (B := 2) (K := 3) rfl rfl rfl rfl rfl rfl (by omega) rfl rfl rfl rfl rfl rfl, ⟨rfl, n, i + 1, q2, cs ++ [p], ⟨by omega, rfl, by simp, by simp; omega, by omega, hn, by rw [← hfr, hfs]⟩, rfl⟩, by omega⟩
  ·skip
   have hfe : chunksR (kindsL ls) (plainR r).2 [] = (cs, q) := by
    rw [← hfr]
    by_cases h2 : q.e = 0
    ·have : (kindsL ls).drop i = [] := List.drop_of_length_le (by simp; omega)
     rw [this]; rfl
    ·exact chunksR_stop _ _ _ h2
   rw [hfe, hn] at hP
   dsimp only at hP
   repeat' (first | (refine And.intro ?_ ?_) | (intro h; try first | exact dz | replace h := cv))
   all_goals (try exact cz)
   all_goals (try ((with_reducible show _ = true); show allLen 11 (List.take cs.length (List.drop 0 (cs.map encC))) = true; rw [List.drop_zero, List.take_of_length_le (by simp)]; exact allLen_map (enc := encC) (z := 11) (fun _ => rfl) _))
   all_goals refine ⟨_, .refl _ _ _, _, rfl, ?_⟩
   repeat' (first | (refine And.intro ?_ ?_) | (intro h; try first | exact dz | replace h := cv))
   all_goals (try exact cz)
   all_goals refine ⟨_, gp_seal (B := 2) (K := 5) hc0 (by exact rfl) rfl rfl rfl rfl rfl rfl rfl (by show [] ++ List.take cs.length (List.drop 0 (cs.map encC)) = _; rw [List.drop_zero, List.take_of_length_le (by simp)]; rfl) (Nat.zero_add _), ?_⟩
   repeat' (first | (refine And.intro ?_ ?_) | (intro h; try first | exact dz | replace h := cv))
   all_goals (try exact cz)
   all_goals exact fin_var (k := 4) (n := 1) (row := encR ⟨n, cs⟩) rfl rfl rfl ⟨.refl _, .refl _, trivial⟩ (eR _) (by first | rfl | kernel_rfl) rfl hP
def S_fgroup : SpecT := fun args H nx Post => ∃ (ls : List Lf) (r : BR), args = [.ptr 0 0 0, vL ls] ∧ H = [(0, rdB r)] ∧ nx = 1 ∧ (r.b.length ≤ 1000000 ∧ ls.length ≤ 1000) ∧ Post (.agg (encR (groupR (kindsL ls) r).1)) [(0, rdB (groupR (kindsL ls) r).2)] 2
theorem fgroup_ok [Syms] : S_fgroup.ok Try.prog 58 := by
 rintro args H nx Post ⟨ls, r, rfl, rfl, rfl, ⟨h1, h2⟩, h⟩
 exact FnSem.forget (fnT_sound tys_ok fns_ok noneT_det cFgr_ok mixed (fgroup_t ls r h1 h2 h))
theorem groupR_len (ks : List Int) (r : BR) : (groupR ks r).2.b.length ≤ r.b.length := by
 have chunksR_len : ∀ (ks : List Int) (r : BR) (s : List Ck), (chunksR ks r s).2.b.length ≤ r.b.length := by
  intro ks
  induction ks with
  | nil => intro r s; exact Nat.le_refl _
  | cons k ks ih =>
    intro r s
    rw [chunksR]
    split
    ·exact Nat.le_refl _
    ·exact Nat.le_trans (ih _ _) (chunkR_len _ _)
 unfold groupR plainR
 exact Nat.le_trans (chunksR_len _ _ _) (numR_len _ _ _)
end Go.Proofs.Ytajieadpaeggcaa

end
