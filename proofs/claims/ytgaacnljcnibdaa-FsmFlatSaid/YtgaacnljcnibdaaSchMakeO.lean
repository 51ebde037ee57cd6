/-
  'Make': what it answers may be written.
-/
import Derived.Test.YtgaacnljcnibdaaSchSpecs
set_option linter.unusedVariables false
set_option linter.unusedSimpArgs false
namespace Go.Proofs.Ytgaacnljcnibdaa
open Go Go.Av
set_option maxRecDepth 100000
set_option maxHeartbeats 4000000
/-- A slice of a function's own, handed out as the one block. -/
theorem reb_out [Syms] {α : Type} {enc : α → List AVal} {l : List α} {N : Nat} {e : Env} {H : Heap} {nx k n len sz : Nat} {cap : Option Nat} {rows : List (List AVal)} (hk : e.get k = .slice n 0 len sz cap) (hb : H.get n = some (.cells rows false))
    (hn : Nat.blt n nx = true) (hr : rows = l.map enc) (hl : len = l.length) (hf : flatRows (l.map enc)) : Reb 0 N ⟨e, H, nx⟩ ⟨[(k, .slice 0 0 l.length sz none)], [(0, some (.cells (l.map enc) false))], 1⟩ := by
  subst hl
  refine reb_num (s := ⟨e, H, nx⟩) [n] (by simp [NumsOk, hn]) ⟨?_, trivial⟩ ⟨⟨Nat.zero_lt_one, _, hb, wkB_eq hr hf⟩, trivial⟩
  show WkV (e.get k) _
  rw [hk]
  exact .cap _ _ _ _ _
theorem make_o_t [Syms] (ns : List Int) (hn : ns.length ≤ 9223372036854775807) :
    fnT cWi cWi (fnTab fns) (tyTab tys) (plTab plt) 100 17 [vI ns] [] 0 (fun v H nx => v = .slice 0 0 (makeF ns).length 4 none ∧ H = [(0, some (.cells ((makeF ns).map encF) false))] ∧ nx = 1) := by
  refine ⟨fun n s => ∃ (i : Nat) (fs : List Fd) (op : List Int) (m : Nat) (junk R : List (List AVal)), (n = 12 - i ∧ i ≤ 12 ∧ runM ns (12 - i) i fs op = runM ns 12 0 [⟨[109], 0, 0, 0⟩] [0] ∧ fs.length = i + 1 ∧ m = op.length ∧ op ≠ [] ∧ (∀ p ∈ op, 0 ≤ p ∧ p < fs.length) ∧ (∀ f ∈ fs, 0 ≤ f.kids ∧ f.kids ≤ i) ∧ op.length ≤ i + 1 ∧ R = op.reverse.map encI ++ junk ∧ flatRows junk) ∧ s = mSt ns i fs m R,
    ⟨_, mSt ns 0 [⟨[109], 0, 0, 0⟩] 1 [[.int .i64 0]], reb_num [0, 1] rfl ?_ ?_, 0, _, [0], _, [], _, ⟨rfl, by omega, rfl, rfl, rfl, by simp, by simp, by simp, by simp, rfl, flat_nil⟩, rfl⟩, ?_⟩
  · exact ⟨.refl _, .cap _ _ _ _ _, .cap _ _ _ _ _, .refl _, trivial⟩
  · exact ⟨⟨by decide, _, rfl, wkB_eq rfl (fF [⟨[109], 0, 0, 0⟩])⟩, ⟨by decide, _, rfl, .refl _⟩, trivial⟩
  rintro n s ⟨i, fs, op, m, junk, R, ⟨rfl, hi, hrun, hlen, rfl, hne, hop, hkid, hol0, hR, hj⟩, rfl⟩
  have hop0 : 0 ≤ topM op ∧ topM op < fs.length := by
    cases op with
    | nil => exact absurd rfl hne
    | cons a t => exact hop a (List.mem_cons_self ..)
  have hx1 : (0 : Nat) + 0 = 0 := rfl
  have hx2 : R.getD (0 + ((↑op.length : Int) - 1).toNat) [] = encI (topM op) := by
    obtain ⟨a, t, rfl⟩ : ∃ a t, op = a :: t := by cases op with | nil => exact absurd rfl hne | cons a t => exact ⟨a, t, rfl⟩
    rw [show 0 + ((↑(a :: t).length : Int) - 1).toNat = t.length by rw [List.length_cons]; omega, hR]; simp [List.getElem?_append, List.getElem?_map, topM]
  have hx3 : (fs.map encF).getD (0 + (topM op).toNat) [] = encF (fs.getD (topM op).toNat default) := by rw [Nat.zero_add]; exact row_at encF default (by omega)
  have hRl : R.length = op.length + junk.length := by rw [hR]; simp
  have hkb : 0 ≤ (fs.getD (topM op).toNat default).kids ∧ (fs.getD (topM op).toNat default).kids ≤ i := by
    have hlt : (topM op).toNat < fs.length := by omega
    have : fs.getD (topM op).toNat default = fs[(topM op).toNat] := by simp [List.getD_eq_getElem?_getD, hlt]
    rw [this]; exact hkid _ (List.getElem_mem hlt)
  have hol1 : 0 < op.length := List.length_pos_iff.2 hne
  repeat' (first | (refine And.intro ?_ ?_) | (intro h; try simp only [decide_eq_true_eq, decide_eq_false_iff_not, Int.not_lt, Int.not_le, Int.toNat_natCast, ↓reduceIte, Nat.reduceAdd, reduceCtorEq, Int.reduceLT, Int.lt_irrefl, gt_iff_lt, not_true_eq_false, not_false_eq_true, Bool.not_true, Bool.not_false, decide_false, decide_true, Int.reduceLE, Int.reduceSub, Bool.false_eq_true, Bool.true_eq_false, Nat.reduceEqDiff, Nat.one_ne_zero, Nat.reduceLT, and_self, and_true, true_and, Int.natCast_zero, Int.cast_ofNat_Int, List.length_nil, ne_eq, Decidable.not_not, hx1, hx2, hx3, asI_int, encI_0, encF_3, encF_03] at h))
  all_goals (try first | exact PlanIs.mk (by kernel_rfl) | omega | exact rfl | exact Nat.le_of_ble_eq_true rfl | (show (_ : Int) ≤ (_ : Int); simp only [hx1, hx2, hx3, asI_int, encI_0, encF_3, encF_03, encF_len, List.length_set, List.length_map, hRl]; omega) | (show (_ : Int) < (_ : Int); simp only [hx1, hx2, hx3, asI_int, encI_0, encF_3, encF_03, encF_len, List.length_set, List.length_map, hRl]; omega) | (show (_ : Nat) ≤ (_ : Nat); simp only [hx1, hx2, hx3, asI_int, encI_0, encF_3, encF_03, encF_len, List.length_set, List.length_map, hRl]; omega) | (show isC _ _ _ = true; simp only [hx1, hx2, hx3, asI_int, encI_0, encF_3, encF_03, encF_len, List.length_set, List.length_map, hRl]; exact rfl))
  · refine ⟨_, 3, rfl, by omega, ?_⟩
    obtain ⟨hw1, hw2⟩ := wi_range (a := wr .i64 ((ns.getD i 0).tdiv 64)) (n := 3) (by omega)
    generalize hk0 : wi (wr .i64 ((ns.getD i 0).tdiv 64)) 3 = k0 at hw1 hw2
    obtain ⟨k0, rfl⟩ := Int.eq_ofNat_of_zero_le hw1
    have hfF : flatRows (fs.map encF) := fF fs
    have hfR : flatRows R := by rw [hR]; exact flat_append (fI _) hj
    refine ⟨fun n s => ∃ (kk : Nat) (o : List Int) (j1 : List (List AVal)), (n = kk ∧ kk ≤ 3 ∧ popM fs kk o = popM fs k0 op ∧ R = o.reverse.map encI ++ j1 ∧ flatRows j1 ∧ o ≠ [] ∧ (∀ p ∈ o, 0 ≤ p ∧ p < fs.length) ∧ o.length ≤ op.length) ∧ s = pSt ns i fs o.length R kk, ⟨_, pSt ns i fs op.length R k0, reb_num [0, 1] rfl ?_ ?_, k0, op, junk, ⟨rfl, by omega, rfl, hR, hj, hne, hop, Nat.le_refl _⟩, rfl⟩, ?_⟩
    · exact ⟨.refl _, .cap _ _ _ _ _, .cap _ _ _ _ _, .refl _, wk_int hk0, trivial⟩
    · exact ⟨⟨by decide, _, rfl, wkB_eq rfl hfF⟩, ⟨by decide, _, rfl, wkB_eq rfl hfR⟩, trivial⟩
    rintro n s ⟨kk, o, j1, ⟨rfl, hk3, hpop, hR1, hj1, ho, hop1, hol⟩, rfl⟩
    obtain ⟨a, t, rfl⟩ : ∃ a t, o = a :: t := by cases o with | nil => exact absurd rfl ho | cons a t => exact ⟨a, t, rfl⟩
    have hol2 : t.length + 1 ≤ i + 1 := by rw [List.length_cons] at hol; omega
    have ha := hop1 a (List.mem_cons_self ..)
    have hx1 : 0 + ((↑(t.length + 1) : Int) - 1).toNat = t.length := by omega
    have hx2 : R.getD t.length [] = encI a := by rw [hR1]; simp [List.getElem?_append, List.getElem?_map]
    have hc1 : isC (isArr 1) (.int .i64 0) ((R.getD (0 + ((↑(t.length + 1) : Int) - 1).toNat) []).getD 0 .any) = true := by rw [hx1, hx2]; exact rfl
    have hx3 : (fs.map encF).getD (0 + a.toNat) [] = encF (fs.getD a.toNat default) := by rw [Nat.zero_add]; exact row_at encF default (by omega)
    have hRl : R.length = t.length + 1 + j1.length := by rw [hR1]; simp; omega
    have hkb : 0 ≤ (fs.getD a.toNat default).kids ∧ (fs.getD a.toNat default).kids ≤ i := by
      have hlt : a.toNat < fs.length := by omega
      have : fs.getD a.toNat default = fs[a.toNat] := by simp [List.getD_eq_getElem?_getD, hlt]
      rw [this]; exact hkid _ (List.getElem_mem hlt)
    rw [List.length_cons]
    repeat' (first | (refine And.intro ?_ ?_) | (intro h; try simp only [decide_eq_true_eq, decide_eq_false_iff_not, Int.not_lt, Int.not_le, Int.toNat_natCast, ↓reduceIte, Nat.reduceAdd, reduceCtorEq, Int.reduceLT, Int.lt_irrefl, gt_iff_lt, not_true_eq_false, not_false_eq_true, Bool.not_true, Bool.not_false, decide_false, decide_true, Int.reduceLE, Int.reduceSub, Bool.false_eq_true, Bool.true_eq_false, Nat.reduceEqDiff, Nat.one_ne_zero, Nat.reduceLT, and_self, and_true, true_and, Int.natCast_zero, Int.cast_ofNat_Int, List.length_nil, ne_eq, Decidable.not_not, hx1, hx2, hx3, asI_int, encI_0, encF_3, encF_03] at h))
    all_goals (try first | exact PlanIs.mk (by kernel_rfl) | omega | exact rfl | exact Nat.le_of_ble_eq_true rfl | (show (_ : Int) ≤ (_ : Int); simp only [hx1, hx2, hx3, asI_int, encI_0, encF_3, encF_03, encF_len, List.length_set, List.length_map, hRl]; omega) | (show (_ : Int) < (_ : Int); simp only [hx1, hx2, hx3, asI_int, encI_0, encF_3, encF_03, encF_len, List.length_set, List.length_map, hRl]; omega) | (show (_ : Nat) ≤ (_ : Nat); simp only [hx1, hx2, hx3, asI_int, encI_0, encF_3, encF_03, encF_len, List.length_set, List.length_map, hRl]; omega) | (show isC _ _ _ = true; simp only [hx1, hx2, hx3, asI_int, encI_0, encF_3, encF_03, encF_len, List.length_set, List.length_map, hRl]; exact rfl))
    · have h' : 0 < (fs.getD a.toNat default).kids := by assumption
      obtain ⟨b, t2, rfl⟩ : ∃ b t2, t = b :: t2 := by
        cases t with
        | nil => simp only [List.length_nil] at *; omega
        | cons b t2 => exact ⟨b, t2, rfl⟩
      have hn0 : 0 < n := by omega
      refine ⟨n - 1, pSt ns i fs (b :: t2).length R (n - 1), reb_num [0, 1] rfl ?_ ?_, ⟨n - 1, b :: t2, encI a :: j1, ⟨rfl, by omega, ?_, ?_, flat_cons (by simp [encI]; rfl) hj1, by simp, fun p hp => hop1 p (List.mem_cons_of_mem _ hp), by simp only [List.length_cons] at *; omega⟩, rfl⟩, by omega⟩
      · exact ⟨.refl _, .cap _ _ _ _ _, wk_slc (by simp only [List.length_cons]; omega), .refl _, wk_int (by omega), trivial⟩
      · exact ⟨⟨by decide, _, rfl, wkB_eq rfl hfF⟩, ⟨by decide, _, rfl, wkB_eq rfl hfR⟩, trivial⟩
      · rw [← hpop]
        obtain ⟨n', rfl⟩ : ∃ n', n = n' + 1 := ⟨n - 1, by omega⟩
        simp only [popM, h', if_true, Nat.add_sub_cancel]
      · rw [hR1]; simp
    all_goals
      have hp : popM fs k0 op = a :: t := by
        rw [← hpop]
        refine popM_stop ?_
        first
        | exact Or.inr (Or.inr (Int.not_lt.2 (by assumption)))
        | exact Or.inl (by omega)
        | exact Or.inr (Or.inl (List.length_eq_zero_iff.1 (by omega)))
      refine ⟨_, 3, rfl, by omega, ?_⟩
    · skip
      repeat' (first | (refine And.intro ?_ ?_) | (intro h; try simp only [decide_eq_true_eq, decide_eq_false_iff_not, Int.not_lt, Int.not_le, Int.toNat_natCast, ↓reduceIte, Nat.reduceAdd, reduceCtorEq, Int.reduceLT, Int.lt_irrefl, gt_iff_lt, not_true_eq_false, not_false_eq_true, Bool.not_true, Bool.not_false, decide_false, decide_true, Int.reduceLE, Int.reduceSub, Bool.false_eq_true, Bool.true_eq_false, Nat.reduceEqDiff, Nat.one_ne_zero, Nat.reduceLT, and_self, and_true, true_and, Int.natCast_zero, Int.cast_ofNat_Int, List.length_nil, ne_eq, Decidable.not_not, hx1, hx2, hx3, asI_int, encI_0, encF_3, encF_03] at h))
      all_goals (try first | exact PlanIs.mk (by kernel_rfl) | omega | exact rfl | exact Nat.le_of_ble_eq_true rfl | (show (_ : Int) ≤ (_ : Int); simp only [hx1, hx2, hx3, asI_int, encI_0, encF_3, encF_03, encF_len, List.length_set, List.length_map, hRl]; omega) | (show (_ : Int) < (_ : Int); simp only [hx1, hx2, hx3, asI_int, encI_0, encF_3, encF_03, encF_len, List.length_set, List.length_map, hRl]; omega) | (show (_ : Nat) ≤ (_ : Nat); simp only [hx1, hx2, hx3, asI_int, encI_0, encF_3, encF_03, encF_len, List.length_set, List.length_map, hRl]; omega) | (show isC _ _ _ = true; simp only [hx1, hx2, hx3, asI_int, encI_0, encF_3, encF_03, encF_len, List.length_set, List.length_map, hRl]; exact rfl))
      all_goals refine ⟨_, 8, rfl, by omega, ?_⟩
      repeat' (first | (refine And.intro ?_ ?_) | (intro h; try simp only [decide_eq_true_eq, decide_eq_false_iff_not, Int.not_lt, Int.not_le, Int.toNat_natCast, ↓reduceIte, Nat.reduceAdd, reduceCtorEq, Int.reduceLT, Int.lt_irrefl, gt_iff_lt, not_true_eq_false, not_false_eq_true, Bool.not_true, Bool.not_false, decide_false, decide_true, Int.reduceLE, Int.reduceSub, Bool.false_eq_true, Bool.true_eq_false, Nat.reduceEqDiff, Nat.one_ne_zero, Nat.reduceLT, and_self, and_true, true_and, Int.natCast_zero, Int.cast_ofNat_Int, List.length_nil, ne_eq, Decidable.not_not, hx1, hx2, hx3, asI_int, encI_0, encF_3, encF_03] at h))
      all_goals (try first | exact PlanIs.mk (by kernel_rfl) | omega | exact rfl | exact Nat.le_of_ble_eq_true rfl | (show (_ : Int) ≤ (_ : Int); simp only [hx1, hx2, hx3, asI_int, encI_0, encF_3, encF_03, encF_len, List.length_set, List.length_map, hRl]; omega) | (show (_ : Int) < (_ : Int); simp only [hx1, hx2, hx3, asI_int, encI_0, encF_3, encF_03, encF_len, List.length_set, List.length_map, hRl]; omega) | (show (_ : Nat) ≤ (_ : Nat); simp only [hx1, hx2, hx3, asI_int, encI_0, encF_3, encF_03, encF_len, List.length_set, List.length_map, hRl]; omega) | (show isC _ _ _ = true; simp only [hx1, hx2, hx3, asI_int, encI_0, encF_3, encF_03, encF_len, List.length_set, List.length_map, hRl]; exact rfl))
      · exact absurd (show (2 : Int) = 0 from by assumption) (by decide)
      · have hq : (wi (ns.getD i 0) 8).tmod 5 = 0 := by assumption
        obtain ⟨g1, g2, g3, g4, g5, g6⟩ := inv_step hrun hlen hkid (by omega) (by omega) hk0 hp hop1 hol2 2 (by rw [kindM, if_pos ⟨by rw [List.length_cons]; omega, hq⟩]) (a :: t) (by first | rfl | (rw [if_neg ‹_›])) _ rfl
        refine ⟨_, mSt ns (i + 1) (incK fs a.toNat ++ [⟨nmM i, wi (wr .i64 ((ns.getD i 0).tdiv 8)) 3, 2, 0⟩]) (a :: t).length (R), reb_num [2 + 19 * RR + 4, 1] (by kernel_rfl) ?_ ?_, ⟨i + 1, _, a :: t, _, j1, _, ⟨rfl, by omega, g1, g2, rfl, g3, g4, g5, g6, hR1, hj1⟩, rfl⟩, by omega⟩
        · exact ⟨.refl _, wk_slc (by rw [g2, hlen]), wk_slc rfl, wk_int (by omega), trivial⟩
        · refine ⟨⟨by decide, _, rfl, wkB_eq ?_ (fF _)⟩, ⟨by decide, _, rfl, wkB_eq ?_ hfR⟩, trivial⟩
          · show List.take fs.length (List.drop 0 ((fs.map encF).set (0 + (asI ((R.getD (0 + ((↑(t.length + 1) : Int) - 1).toNat) []).getD 0 .any)).toNat) (splice ((fs.map encF).getD (0 + (asI ((R.getD (0 + ((↑(t.length + 1) : Int) - 1).toNat) []).getD 0 .any)).toNat) []) (0 + 3) [.int .i64 (asI (((fs.map encF).getD (0 + (asI ((R.getD (0 + ((↑(t.length + 1) : Int) - 1).toNat) []).getD 0 .any)).toNat) []).getD (0 + 3) .any) + 1)]))) ++ [[.str (bytesOf [[.int .u8 (wr .u8 (97 + (i : Int)))]]), .int .i64 (wi (wr .i64 ((ns.getD i 0).tdiv 8)) 3), .int .i64 (2), .int .i64 0]] = _
            simp only [hx1, hx2, encI_0, asI_int]
            rw [hx3, nm_eq i (by omega), show splice (encF (fs.getD a.toNat default)) (0 + 3) [.int .i64 (asI ((encF (fs.getD a.toNat default)).getD (0 + 3) .any) + 1)] = [.str (fs.getD a.toNat default).name, .int .i64 (fs.getD a.toNat default).rep, .int .i64 (fs.getD a.toNat default).kind, .int .i64 ((fs.getD a.toNat default).kids + 1)] from rfl, Nat.zero_add, incK_map (by omega), List.drop_zero, List.take_of_length_le (by simp [incK_length])]
            simp [encF]
          · rfl
      · have hq : ¬ (wi (ns.getD i 0) 8).tmod 5 = 0 := by assumption
        obtain ⟨g1, g2, g3, g4, g5, g6⟩ := inv_step hrun hlen hkid (by omega) (by omega) hk0 hp hop1 hol2 ((wi (ns.getD i 0) 8).tmod 5) (by rw [kindM, if_neg (fun h => hq h.2)]) (a :: t) (by rw [if_neg hq]) _ rfl
        refine ⟨_, mSt ns (i + 1) (incK fs a.toNat ++ [⟨nmM i, wi (wr .i64 ((ns.getD i 0).tdiv 8)) 3, (wi (ns.getD i 0) 8).tmod 5, 0⟩]) (a :: t).length (R), reb_num [2 + 19 * RR + 3, 1] (by kernel_rfl) ?_ ?_, ⟨i + 1, _, a :: t, _, j1, _, ⟨rfl, by omega, g1, g2, rfl, g3, g4, g5, g6, hR1, hj1⟩, rfl⟩, by omega⟩
        · exact ⟨.refl _, wk_slc (by rw [g2, hlen]), wk_slc rfl, wk_int (by omega), trivial⟩
        · refine ⟨⟨by decide, _, rfl, wkB_eq ?_ (fF _)⟩, ⟨by decide, _, rfl, wkB_eq ?_ hfR⟩, trivial⟩
          · show List.take fs.length (List.drop 0 ((fs.map encF).set (0 + (asI ((R.getD (0 + ((↑(t.length + 1) : Int) - 1).toNat) []).getD 0 .any)).toNat) (splice ((fs.map encF).getD (0 + (asI ((R.getD (0 + ((↑(t.length + 1) : Int) - 1).toNat) []).getD 0 .any)).toNat) []) (0 + 3) [.int .i64 (asI (((fs.map encF).getD (0 + (asI ((R.getD (0 + ((↑(t.length + 1) : Int) - 1).toNat) []).getD 0 .any)).toNat) []).getD (0 + 3) .any) + 1)]))) ++ [[.str (bytesOf [[.int .u8 (wr .u8 (97 + (i : Int)))]]), .int .i64 (wi (wr .i64 ((ns.getD i 0).tdiv 8)) 3), .int .i64 ((wi (ns.getD i 0) 8).tmod 5), .int .i64 0]] = _
            simp only [hx1, hx2, encI_0, asI_int]
            rw [hx3, nm_eq i (by omega), show splice (encF (fs.getD a.toNat default)) (0 + 3) [.int .i64 (asI ((encF (fs.getD a.toNat default)).getD (0 + 3) .any) + 1)] = [.str (fs.getD a.toNat default).name, .int .i64 (fs.getD a.toNat default).rep, .int .i64 (fs.getD a.toNat default).kind, .int .i64 ((fs.getD a.toNat default).kids + 1)] from rfl, Nat.zero_add, incK_map (by omega), List.drop_zero, List.take_of_length_le (by simp [incK_length])]
            simp [encF]
          · rfl
      · have hq : (wi (ns.getD i 0) 8).tmod 5 = 0 := by assumption
        obtain ⟨g1, g2, g3, g4, g5, g6⟩ := inv_step hrun hlen hkid (by omega) (by omega) hk0 hp hop1 hol2 ((wi (ns.getD i 0) 8).tmod 5) (by rw [kindM, if_neg (fun h => by simp only [List.length_cons] at h; omega)]) ((fs.length : Int) :: a :: t) (by rw [if_pos hq]) _ rfl
        refine ⟨_, mSt ns (i + 1) (incK fs a.toNat ++ [⟨nmM i, wi (wr .i64 ((ns.getD i 0).tdiv 8)) 3, (wi (ns.getD i 0) 8).tmod 5, 0⟩]) ((fs.length : Int) :: a :: t).length (((fs.length : Int) :: a :: t).reverse.map encI), reb_num [2 + 19 * RR + 3, 2 + 19 * RR + 5] (by kernel_rfl) ?_ ?_, ⟨i + 1, _, (fs.length : Int) :: a :: t, _, [], _, ⟨rfl, by omega, g1, g2, rfl, g3, g4, g5, g6, by simp, flat_nil⟩, rfl⟩, by omega⟩
        · exact ⟨.refl _, wk_slc (by rw [g2, hlen]), wk_slc rfl, wk_int (by omega), trivial⟩
        · refine ⟨⟨by decide, _, rfl, wkB_eq ?_ (fF _)⟩, ⟨by decide, _, rfl, wkB_eq ?_ (fI _)⟩, trivial⟩
          · show List.take fs.length (List.drop 0 ((fs.map encF).set (0 + (asI ((R.getD (0 + ((↑(t.length + 1) : Int) - 1).toNat) []).getD 0 .any)).toNat) (splice ((fs.map encF).getD (0 + (asI ((R.getD (0 + ((↑(t.length + 1) : Int) - 1).toNat) []).getD 0 .any)).toNat) []) (0 + 3) [.int .i64 (asI (((fs.map encF).getD (0 + (asI ((R.getD (0 + ((↑(t.length + 1) : Int) - 1).toNat) []).getD 0 .any)).toNat) []).getD (0 + 3) .any) + 1)]))) ++ [[.str (bytesOf [[.int .u8 (wr .u8 (97 + (i : Int)))]]), .int .i64 (wi (wr .i64 ((ns.getD i 0).tdiv 8)) 3), .int .i64 ((wi (ns.getD i 0) 8).tmod 5), .int .i64 0]] = _
            simp only [hx1, hx2, encI_0, asI_int]
            rw [hx3, nm_eq i (by omega), show splice (encF (fs.getD a.toNat default)) (0 + 3) [.int .i64 (asI ((encF (fs.getD a.toNat default)).getD (0 + 3) .any) + 1)] = [.str (fs.getD a.toNat default).name, .int .i64 (fs.getD a.toNat default).rep, .int .i64 (fs.getD a.toNat default).kind, .int .i64 ((fs.getD a.toNat default).kids + 1)] from rfl, Nat.zero_add, incK_map (by omega), List.drop_zero, List.take_of_length_le (by simp [incK_length])]
            simp [encF]
          · show List.take (t.length + 1) (List.drop 0 R) ++ [[.int .i64 (↑(fs.length + 1) - 1)]] = _
            rw [hR1, List.drop_zero, show t.length + 1 = ((a :: t).reverse.map encI).length by simp, List.take_left]
            simp [encI]
      · have hq : ¬ (wi (ns.getD i 0) 8).tmod 5 = 0 := by assumption
        obtain ⟨g1, g2, g3, g4, g5, g6⟩ := inv_step hrun hlen hkid (by omega) (by omega) hk0 hp hop1 hol2 ((wi (ns.getD i 0) 8).tmod 5) (by rw [kindM, if_neg (fun h => hq h.2)]) (a :: t) (by rw [if_neg hq]) _ rfl
        refine ⟨_, mSt ns (i + 1) (incK fs a.toNat ++ [⟨nmM i, wi (wr .i64 ((ns.getD i 0).tdiv 8)) 3, (wi (ns.getD i 0) 8).tmod 5, 0⟩]) (a :: t).length (R), reb_num [2 + 19 * RR + 3, 1] (by kernel_rfl) ?_ ?_, ⟨i + 1, _, a :: t, _, j1, _, ⟨rfl, by omega, g1, g2, rfl, g3, g4, g5, g6, hR1, hj1⟩, rfl⟩, by omega⟩
        · exact ⟨.refl _, wk_slc (by rw [g2, hlen]), wk_slc rfl, wk_int (by omega), trivial⟩
        · refine ⟨⟨by decide, _, rfl, wkB_eq ?_ (fF _)⟩, ⟨by decide, _, rfl, wkB_eq ?_ hfR⟩, trivial⟩
          · show List.take fs.length (List.drop 0 ((fs.map encF).set (0 + (asI ((R.getD (0 + ((↑(t.length + 1) : Int) - 1).toNat) []).getD 0 .any)).toNat) (splice ((fs.map encF).getD (0 + (asI ((R.getD (0 + ((↑(t.length + 1) : Int) - 1).toNat) []).getD 0 .any)).toNat) []) (0 + 3) [.int .i64 (asI (((fs.map encF).getD (0 + (asI ((R.getD (0 + ((↑(t.length + 1) : Int) - 1).toNat) []).getD 0 .any)).toNat) []).getD (0 + 3) .any) + 1)]))) ++ [[.str (bytesOf [[.int .u8 (wr .u8 (97 + (i : Int)))]]), .int .i64 (wi (wr .i64 ((ns.getD i 0).tdiv 8)) 3), .int .i64 ((wi (ns.getD i 0) 8).tmod 5), .int .i64 0]] = _
            simp only [hx1, hx2, encI_0, asI_int]
            rw [hx3, nm_eq i (by omega), show splice (encF (fs.getD a.toNat default)) (0 + 3) [.int .i64 (asI ((encF (fs.getD a.toNat default)).getD (0 + 3) .any) + 1)] = [.str (fs.getD a.toNat default).name, .int .i64 (fs.getD a.toNat default).rep, .int .i64 (fs.getD a.toNat default).kind, .int .i64 ((fs.getD a.toNat default).kids + 1)] from rfl, Nat.zero_add, incK_map (by omega), List.drop_zero, List.take_of_length_le (by simp [incK_length])]
            simp [encF]
          · rfl
    · skip
      repeat' (first | (refine And.intro ?_ ?_) | (intro h; try simp only [decide_eq_true_eq, decide_eq_false_iff_not, Int.not_lt, Int.not_le, Int.toNat_natCast, ↓reduceIte, Nat.reduceAdd, reduceCtorEq, Int.reduceLT, Int.lt_irrefl, gt_iff_lt, not_true_eq_false, not_false_eq_true, Bool.not_true, Bool.not_false, decide_false, decide_true, Int.reduceLE, Int.reduceSub, Bool.false_eq_true, Bool.true_eq_false, Nat.reduceEqDiff, Nat.one_ne_zero, Nat.reduceLT, and_self, and_true, true_and, Int.natCast_zero, Int.cast_ofNat_Int, List.length_nil, ne_eq, Decidable.not_not, hx1, hx2, hx3, asI_int, encI_0, encF_3, encF_03] at h))
      all_goals (try first | exact PlanIs.mk (by kernel_rfl) | omega | exact rfl | exact Nat.le_of_ble_eq_true rfl | (show (_ : Int) ≤ (_ : Int); simp only [hx1, hx2, hx3, asI_int, encI_0, encF_3, encF_03, encF_len, List.length_set, List.length_map, hRl]; omega) | (show (_ : Int) < (_ : Int); simp only [hx1, hx2, hx3, asI_int, encI_0, encF_3, encF_03, encF_len, List.length_set, List.length_map, hRl]; omega) | (show (_ : Nat) ≤ (_ : Nat); simp only [hx1, hx2, hx3, asI_int, encI_0, encF_3, encF_03, encF_len, List.length_set, List.length_map, hRl]; omega) | (show isC _ _ _ = true; simp only [hx1, hx2, hx3, asI_int, encI_0, encF_3, encF_03, encF_len, List.length_set, List.length_map, hRl]; exact rfl))
      all_goals refine ⟨_, 8, rfl, by omega, ?_⟩
      repeat' (first | (refine And.intro ?_ ?_) | (intro h; try simp only [decide_eq_true_eq, decide_eq_false_iff_not, Int.not_lt, Int.not_le, Int.toNat_natCast, ↓reduceIte, Nat.reduceAdd, reduceCtorEq, Int.reduceLT, Int.lt_irrefl, gt_iff_lt, not_true_eq_false, not_false_eq_true, Bool.not_true, Bool.not_false, decide_false, decide_true, Int.reduceLE, Int.reduceSub, Bool.false_eq_true, Bool.true_eq_false, Nat.reduceEqDiff, Nat.one_ne_zero, Nat.reduceLT, and_self, and_true, true_and, Int.natCast_zero, Int.cast_ofNat_Int, List.length_nil, ne_eq, Decidable.not_not, hx1, hx2, hx3, asI_int, encI_0, encF_3, encF_03] at h))
      all_goals (try first | exact PlanIs.mk (by kernel_rfl) | omega | exact rfl | exact Nat.le_of_ble_eq_true rfl | (show (_ : Int) ≤ (_ : Int); simp only [hx1, hx2, hx3, asI_int, encI_0, encF_3, encF_03, encF_len, List.length_set, List.length_map, hRl]; omega) | (show (_ : Int) < (_ : Int); simp only [hx1, hx2, hx3, asI_int, encI_0, encF_3, encF_03, encF_len, List.length_set, List.length_map, hRl]; omega) | (show (_ : Nat) ≤ (_ : Nat); simp only [hx1, hx2, hx3, asI_int, encI_0, encF_3, encF_03, encF_len, List.length_set, List.length_map, hRl]; omega) | (show isC _ _ _ = true; simp only [hx1, hx2, hx3, asI_int, encI_0, encF_3, encF_03, encF_len, List.length_set, List.length_map, hRl]; exact rfl))
      · have hq : (wi (ns.getD i 0) 8).tmod 5 = 0 := by first | assumption | exact of_decide_eq_true (by assumption)
        obtain ⟨g1, g2, g3, g4, g5, g6⟩ := inv_step hrun hlen hkid (by omega) (by omega) hk0 hp hop1 hol2 ((wi (ns.getD i 0) 8).tmod 5) (by rw [kindM, if_neg (fun h => by simp only [List.length_cons] at h; omega)]) ((fs.length : Int) :: a :: t) (by rw [if_pos hq]) _ rfl
        refine ⟨_, mSt ns (i + 1) (incK fs a.toNat ++ [⟨nmM i, wi (wr .i64 ((ns.getD i 0).tdiv 8)) 3, (wi (ns.getD i 0) 8).tmod 5, 0⟩]) ((fs.length : Int) :: a :: t).length (((fs.length : Int) :: a :: t).reverse.map encI), reb_num [2 + 19 * RR + 3, 2 + 19 * RR + 5] (by kernel_rfl) ?_ ?_, ⟨i + 1, _, (fs.length : Int) :: a :: t, _, [], _, ⟨rfl, by omega, g1, g2, rfl, g3, g4, g5, g6, by simp, flat_nil⟩, rfl⟩, by omega⟩
        · exact ⟨.refl _, wk_slc (by rw [g2, hlen]), wk_slc rfl, wk_int (by omega), trivial⟩
        · refine ⟨⟨by decide, _, rfl, wkB_eq ?_ (fF _)⟩, ⟨by decide, _, rfl, wkB_eq ?_ (fI _)⟩, trivial⟩
          · show List.take fs.length (List.drop 0 ((fs.map encF).set (0 + (asI ((R.getD (0 + ((↑(t.length + 1) : Int) - 1).toNat) []).getD 0 .any)).toNat) (splice ((fs.map encF).getD (0 + (asI ((R.getD (0 + ((↑(t.length + 1) : Int) - 1).toNat) []).getD 0 .any)).toNat) []) (0 + 3) [.int .i64 (asI (((fs.map encF).getD (0 + (asI ((R.getD (0 + ((↑(t.length + 1) : Int) - 1).toNat) []).getD 0 .any)).toNat) []).getD (0 + 3) .any) + 1)]))) ++ [[.str (bytesOf [[.int .u8 (wr .u8 (97 + (i : Int)))]]), .int .i64 (wi (wr .i64 ((ns.getD i 0).tdiv 8)) 3), .int .i64 ((wi (ns.getD i 0) 8).tmod 5), .int .i64 0]] = _
            simp only [hx1, hx2, encI_0, asI_int]
            rw [hx3, nm_eq i (by omega), show splice (encF (fs.getD a.toNat default)) (0 + 3) [.int .i64 (asI ((encF (fs.getD a.toNat default)).getD (0 + 3) .any) + 1)] = [.str (fs.getD a.toNat default).name, .int .i64 (fs.getD a.toNat default).rep, .int .i64 (fs.getD a.toNat default).kind, .int .i64 ((fs.getD a.toNat default).kids + 1)] from rfl, Nat.zero_add, incK_map (by omega), List.drop_zero, List.take_of_length_le (by simp [incK_length])]
            simp [encF]
          · show List.take (t.length + 1) (List.drop 0 R) ++ [[.int .i64 (↑(fs.length + 1) - 1)]] = _
            rw [hR1, List.drop_zero, show t.length + 1 = ((a :: t).reverse.map encI).length by simp, List.take_left]
            simp [encI]
      · have hq : ¬ (wi (ns.getD i 0) 8).tmod 5 = 0 := by first | assumption | exact of_decide_eq_false (by assumption) | exact fun h => absurd (decide_eq_true h) (by assumption)
        obtain ⟨g1, g2, g3, g4, g5, g6⟩ := inv_step hrun hlen hkid (by omega) (by omega) hk0 hp hop1 hol2 ((wi (ns.getD i 0) 8).tmod 5) (by rw [kindM, if_neg (fun h => hq h.2)]) (a :: t) (by rw [if_neg hq]) _ rfl
        refine ⟨_, mSt ns (i + 1) (incK fs a.toNat ++ [⟨nmM i, wi (wr .i64 ((ns.getD i 0).tdiv 8)) 3, (wi (ns.getD i 0) 8).tmod 5, 0⟩]) (a :: t).length (R), reb_num [2 + 19 * RR + 3, 1] (by kernel_rfl) ?_ ?_, ⟨i + 1, _, a :: t, _, j1, _, ⟨rfl, by omega, g1, g2, rfl, g3, g4, g5, g6, hR1, hj1⟩, rfl⟩, by omega⟩
        · exact ⟨.refl _, wk_slc (by rw [g2, hlen]), wk_slc rfl, wk_int (by omega), trivial⟩
        · refine ⟨⟨by decide, _, rfl, wkB_eq ?_ (fF _)⟩, ⟨by decide, _, rfl, wkB_eq ?_ hfR⟩, trivial⟩
          · show List.take fs.length (List.drop 0 ((fs.map encF).set (0 + (asI ((R.getD (0 + ((↑(t.length + 1) : Int) - 1).toNat) []).getD 0 .any)).toNat) (splice ((fs.map encF).getD (0 + (asI ((R.getD (0 + ((↑(t.length + 1) : Int) - 1).toNat) []).getD 0 .any)).toNat) []) (0 + 3) [.int .i64 (asI (((fs.map encF).getD (0 + (asI ((R.getD (0 + ((↑(t.length + 1) : Int) - 1).toNat) []).getD 0 .any)).toNat) []).getD (0 + 3) .any) + 1)]))) ++ [[.str (bytesOf [[.int .u8 (wr .u8 (97 + (i : Int)))]]), .int .i64 (wi (wr .i64 ((ns.getD i 0).tdiv 8)) 3), .int .i64 ((wi (ns.getD i 0) 8).tmod 5), .int .i64 0]] = _
            simp only [hx1, hx2, encI_0, asI_int]
            rw [hx3, nm_eq i (by omega), show splice (encF (fs.getD a.toNat default)) (0 + 3) [.int .i64 (asI ((encF (fs.getD a.toNat default)).getD (0 + 3) .any) + 1)] = [.str (fs.getD a.toNat default).name, .int .i64 (fs.getD a.toNat default).rep, .int .i64 (fs.getD a.toNat default).kind, .int .i64 ((fs.getD a.toNat default).kids + 1)] from rfl, Nat.zero_add, incK_map (by omega), List.drop_zero, List.take_of_length_le (by simp [incK_length])]
            simp [encF]
          · rfl
    · skip
      repeat' (first | (refine And.intro ?_ ?_) | (intro h; try simp only [decide_eq_true_eq, decide_eq_false_iff_not, Int.not_lt, Int.not_le, Int.toNat_natCast, ↓reduceIte, Nat.reduceAdd, reduceCtorEq, Int.reduceLT, Int.lt_irrefl, gt_iff_lt, not_true_eq_false, not_false_eq_true, Bool.not_true, Bool.not_false, decide_false, decide_true, Int.reduceLE, Int.reduceSub, Bool.false_eq_true, Bool.true_eq_false, Nat.reduceEqDiff, Nat.one_ne_zero, Nat.reduceLT, and_self, and_true, true_and, Int.natCast_zero, Int.cast_ofNat_Int, List.length_nil, ne_eq, Decidable.not_not, hx1, hx2, hx3, asI_int, encI_0, encF_3, encF_03] at h))
      all_goals (try first | exact PlanIs.mk (by kernel_rfl) | omega | exact rfl | exact Nat.le_of_ble_eq_true rfl | (show (_ : Int) ≤ (_ : Int); simp only [hx1, hx2, hx3, asI_int, encI_0, encF_3, encF_03, encF_len, List.length_set, List.length_map, hRl]; omega) | (show (_ : Int) < (_ : Int); simp only [hx1, hx2, hx3, asI_int, encI_0, encF_3, encF_03, encF_len, List.length_set, List.length_map, hRl]; omega) | (show (_ : Nat) ≤ (_ : Nat); simp only [hx1, hx2, hx3, asI_int, encI_0, encF_3, encF_03, encF_len, List.length_set, List.length_map, hRl]; omega) | (show isC _ _ _ = true; simp only [hx1, hx2, hx3, asI_int, encI_0, encF_3, encF_03, encF_len, List.length_set, List.length_map, hRl]; exact rfl))
      all_goals refine ⟨_, 8, rfl, by omega, ?_⟩
      repeat' (first | (refine And.intro ?_ ?_) | (intro h; try simp only [decide_eq_true_eq, decide_eq_false_iff_not, Int.not_lt, Int.not_le, Int.toNat_natCast, ↓reduceIte, Nat.reduceAdd, reduceCtorEq, Int.reduceLT, Int.lt_irrefl, gt_iff_lt, not_true_eq_false, not_false_eq_true, Bool.not_true, Bool.not_false, decide_false, decide_true, Int.reduceLE, Int.reduceSub, Bool.false_eq_true, Bool.true_eq_false, Nat.reduceEqDiff, Nat.one_ne_zero, Nat.reduceLT, and_self, and_true, true_and, Int.natCast_zero, Int.cast_ofNat_Int, List.length_nil, ne_eq, Decidable.not_not, hx1, hx2, hx3, asI_int, encI_0, encF_3, encF_03] at h))
      all_goals (try first | exact PlanIs.mk (by kernel_rfl) | omega | exact rfl | exact Nat.le_of_ble_eq_true rfl | (show (_ : Int) ≤ (_ : Int); simp only [hx1, hx2, hx3, asI_int, encI_0, encF_3, encF_03, encF_len, List.length_set, List.length_map, hRl]; omega) | (show (_ : Int) < (_ : Int); simp only [hx1, hx2, hx3, asI_int, encI_0, encF_3, encF_03, encF_len, List.length_set, List.length_map, hRl]; omega) | (show (_ : Nat) ≤ (_ : Nat); simp only [hx1, hx2, hx3, asI_int, encI_0, encF_3, encF_03, encF_len, List.length_set, List.length_map, hRl]; omega) | (show isC _ _ _ = true; simp only [hx1, hx2, hx3, asI_int, encI_0, encF_3, encF_03, encF_len, List.length_set, List.length_map, hRl]; exact rfl))
      · exact absurd (show (2 : Int) = 0 from by assumption) (by decide)
      · have hq : (wi (ns.getD i 0) 8).tmod 5 = 0 := by first | assumption | exact of_decide_eq_true (by assumption)
        obtain ⟨g1, g2, g3, g4, g5, g6⟩ := inv_step hrun hlen hkid (by omega) (by omega) hk0 hp hop1 hol2 2 (by rw [kindM, if_pos ⟨by rw [List.length_cons]; omega, hq⟩]) (a :: t) (by first | rfl | (rw [if_neg ‹_›])) _ rfl
        refine ⟨_, mSt ns (i + 1) (incK fs a.toNat ++ [⟨nmM i, wi (wr .i64 ((ns.getD i 0).tdiv 8)) 3, 2, 0⟩]) (a :: t).length (R), reb_num [2 + 19 * RR + 4, 1] (by kernel_rfl) ?_ ?_, ⟨i + 1, _, a :: t, _, j1, _, ⟨rfl, by omega, g1, g2, rfl, g3, g4, g5, g6, hR1, hj1⟩, rfl⟩, by omega⟩
        · exact ⟨.refl _, wk_slc (by rw [g2, hlen]), wk_slc rfl, wk_int (by omega), trivial⟩
        · refine ⟨⟨by decide, _, rfl, wkB_eq ?_ (fF _)⟩, ⟨by decide, _, rfl, wkB_eq ?_ hfR⟩, trivial⟩
          · show List.take fs.length (List.drop 0 ((fs.map encF).set (0 + (asI ((R.getD (0 + ((↑(t.length + 1) : Int) - 1).toNat) []).getD 0 .any)).toNat) (splice ((fs.map encF).getD (0 + (asI ((R.getD (0 + ((↑(t.length + 1) : Int) - 1).toNat) []).getD 0 .any)).toNat) []) (0 + 3) [.int .i64 (asI (((fs.map encF).getD (0 + (asI ((R.getD (0 + ((↑(t.length + 1) : Int) - 1).toNat) []).getD 0 .any)).toNat) []).getD (0 + 3) .any) + 1)]))) ++ [[.str (bytesOf [[.int .u8 (wr .u8 (97 + (i : Int)))]]), .int .i64 (wi (wr .i64 ((ns.getD i 0).tdiv 8)) 3), .int .i64 (2), .int .i64 0]] = _
            simp only [hx1, hx2, encI_0, asI_int]
            rw [hx3, nm_eq i (by omega), show splice (encF (fs.getD a.toNat default)) (0 + 3) [.int .i64 (asI ((encF (fs.getD a.toNat default)).getD (0 + 3) .any) + 1)] = [.str (fs.getD a.toNat default).name, .int .i64 (fs.getD a.toNat default).rep, .int .i64 (fs.getD a.toNat default).kind, .int .i64 ((fs.getD a.toNat default).kids + 1)] from rfl, Nat.zero_add, incK_map (by omega), List.drop_zero, List.take_of_length_le (by simp [incK_length])]
            simp [encF]
          · rfl
      · exact absurd (of_decide_eq_true (p := (wi (ns.getD i 0) 8).tmod 5 = 0) (by assumption)) (of_decide_eq_false (p := (wi (ns.getD i 0) 8).tmod 5 = 0) (by assumption))
      · have hq : ¬ (wi (ns.getD i 0) 8).tmod 5 = 0 := by first | assumption | exact of_decide_eq_false (by assumption) | exact fun h => absurd (decide_eq_true h) (by assumption)
        obtain ⟨g1, g2, g3, g4, g5, g6⟩ := inv_step hrun hlen hkid (by omega) (by omega) hk0 hp hop1 hol2 ((wi (ns.getD i 0) 8).tmod 5) (by rw [kindM, if_neg (fun h => hq h.2)]) (a :: t) (by rw [if_neg hq]) _ rfl
        refine ⟨_, mSt ns (i + 1) (incK fs a.toNat ++ [⟨nmM i, wi (wr .i64 ((ns.getD i 0).tdiv 8)) 3, (wi (ns.getD i 0) 8).tmod 5, 0⟩]) (a :: t).length (R), reb_num [2 + 19 * RR + 3, 1] (by kernel_rfl) ?_ ?_, ⟨i + 1, _, a :: t, _, j1, _, ⟨rfl, by omega, g1, g2, rfl, g3, g4, g5, g6, hR1, hj1⟩, rfl⟩, by omega⟩
        · exact ⟨.refl _, wk_slc (by rw [g2, hlen]), wk_slc rfl, wk_int (by omega), trivial⟩
        · refine ⟨⟨by decide, _, rfl, wkB_eq ?_ (fF _)⟩, ⟨by decide, _, rfl, wkB_eq ?_ hfR⟩, trivial⟩
          · show List.take fs.length (List.drop 0 ((fs.map encF).set (0 + (asI ((R.getD (0 + ((↑(t.length + 1) : Int) - 1).toNat) []).getD 0 .any)).toNat) (splice ((fs.map encF).getD (0 + (asI ((R.getD (0 + ((↑(t.length + 1) : Int) - 1).toNat) []).getD 0 .any)).toNat) []) (0 + 3) [.int .i64 (asI (((fs.map encF).getD (0 + (asI ((R.getD (0 + ((↑(t.length + 1) : Int) - 1).toNat) []).getD 0 .any)).toNat) []).getD (0 + 3) .any) + 1)]))) ++ [[.str (bytesOf [[.int .u8 (wr .u8 (97 + (i : Int)))]]), .int .i64 (wi (wr .i64 ((ns.getD i 0).tdiv 8)) 3), .int .i64 ((wi (ns.getD i 0) 8).tmod 5), .int .i64 0]] = _
            simp only [hx1, hx2, encI_0, asI_int]
            rw [hx3, nm_eq i (by omega), show splice (encF (fs.getD a.toNat default)) (0 + 3) [.int .i64 (asI ((encF (fs.getD a.toNat default)).getD (0 + 3) .any) + 1)] = [.str (fs.getD a.toNat default).name, .int .i64 (fs.getD a.toNat default).rep, .int .i64 (fs.getD a.toNat default).kind, .int .i64 ((fs.getD a.toNat default).kids + 1)] from rfl, Nat.zero_add, incK_map (by omega), List.drop_zero, List.take_of_length_le (by simp [incK_length])]
            simp [encF]
          · rfl
      · have hq : (wi (ns.getD i 0) 8).tmod 5 = 0 := by first | assumption | exact of_decide_eq_true (by assumption)
        obtain ⟨g1, g2, g3, g4, g5, g6⟩ := inv_step hrun hlen hkid (by omega) (by omega) hk0 hp hop1 hol2 ((wi (ns.getD i 0) 8).tmod 5) (by rw [kindM, if_neg (fun h => by simp only [List.length_cons] at h; omega)]) ((fs.length : Int) :: a :: t) (by rw [if_pos hq]) _ rfl
        refine ⟨_, mSt ns (i + 1) (incK fs a.toNat ++ [⟨nmM i, wi (wr .i64 ((ns.getD i 0).tdiv 8)) 3, (wi (ns.getD i 0) 8).tmod 5, 0⟩]) ((fs.length : Int) :: a :: t).length (((fs.length : Int) :: a :: t).reverse.map encI), reb_num [2 + 19 * RR + 3, 2 + 19 * RR + 5] (by kernel_rfl) ?_ ?_, ⟨i + 1, _, (fs.length : Int) :: a :: t, _, [], _, ⟨rfl, by omega, g1, g2, rfl, g3, g4, g5, g6, by simp, flat_nil⟩, rfl⟩, by omega⟩
        · exact ⟨.refl _, wk_slc (by rw [g2, hlen]), wk_slc rfl, wk_int (by omega), trivial⟩
        · refine ⟨⟨by decide, _, rfl, wkB_eq ?_ (fF _)⟩, ⟨by decide, _, rfl, wkB_eq ?_ (fI _)⟩, trivial⟩
          · show List.take fs.length (List.drop 0 ((fs.map encF).set (0 + (asI ((R.getD (0 + ((↑(t.length + 1) : Int) - 1).toNat) []).getD 0 .any)).toNat) (splice ((fs.map encF).getD (0 + (asI ((R.getD (0 + ((↑(t.length + 1) : Int) - 1).toNat) []).getD 0 .any)).toNat) []) (0 + 3) [.int .i64 (asI (((fs.map encF).getD (0 + (asI ((R.getD (0 + ((↑(t.length + 1) : Int) - 1).toNat) []).getD 0 .any)).toNat) []).getD (0 + 3) .any) + 1)]))) ++ [[.str (bytesOf [[.int .u8 (wr .u8 (97 + (i : Int)))]]), .int .i64 (wi (wr .i64 ((ns.getD i 0).tdiv 8)) 3), .int .i64 ((wi (ns.getD i 0) 8).tmod 5), .int .i64 0]] = _
            simp only [hx1, hx2, encI_0, asI_int]
            rw [hx3, nm_eq i (by omega), show splice (encF (fs.getD a.toNat default)) (0 + 3) [.int .i64 (asI ((encF (fs.getD a.toNat default)).getD (0 + 3) .any) + 1)] = [.str (fs.getD a.toNat default).name, .int .i64 (fs.getD a.toNat default).rep, .int .i64 (fs.getD a.toNat default).kind, .int .i64 ((fs.getD a.toNat default).kids + 1)] from rfl, Nat.zero_add, incK_map (by omega), List.drop_zero, List.take_of_length_le (by simp [incK_length])]
            simp [encF]
          · show List.take (t.length + 1) (List.drop 0 R) ++ [[.int .i64 (↑(fs.length + 1) - 1)]] = _
            rw [hR1, List.drop_zero, show t.length + 1 = ((a :: t).reverse.map encI).length by simp, List.take_left]
            simp [encI]
      · have hq : ¬ (wi (ns.getD i 0) 8).tmod 5 = 0 := by first | assumption | exact of_decide_eq_false (by assumption) | exact fun h => absurd (decide_eq_true h) (by assumption)
        obtain ⟨g1, g2, g3, g4, g5, g6⟩ := inv_step hrun hlen hkid (by omega) (by omega) hk0 hp hop1 hol2 ((wi (ns.getD i 0) 8).tmod 5) (by rw [kindM, if_neg (fun h => hq h.2)]) (a :: t) (by rw [if_neg hq]) _ rfl
        refine ⟨_, mSt ns (i + 1) (incK fs a.toNat ++ [⟨nmM i, wi (wr .i64 ((ns.getD i 0).tdiv 8)) 3, (wi (ns.getD i 0) 8).tmod 5, 0⟩]) (a :: t).length (R), reb_num [2 + 19 * RR + 3, 1] (by kernel_rfl) ?_ ?_, ⟨i + 1, _, a :: t, _, j1, _, ⟨rfl, by omega, g1, g2, rfl, g3, g4, g5, g6, hR1, hj1⟩, rfl⟩, by omega⟩
        · exact ⟨.refl _, wk_slc (by rw [g2, hlen]), wk_slc rfl, wk_int (by omega), trivial⟩
        · refine ⟨⟨by decide, _, rfl, wkB_eq ?_ (fF _)⟩, ⟨by decide, _, rfl, wkB_eq ?_ hfR⟩, trivial⟩
          · show List.take fs.length (List.drop 0 ((fs.map encF).set (0 + (asI ((R.getD (0 + ((↑(t.length + 1) : Int) - 1).toNat) []).getD 0 .any)).toNat) (splice ((fs.map encF).getD (0 + (asI ((R.getD (0 + ((↑(t.length + 1) : Int) - 1).toNat) []).getD 0 .any)).toNat) []) (0 + 3) [.int .i64 (asI (((fs.map encF).getD (0 + (asI ((R.getD (0 + ((↑(t.length + 1) : Int) - 1).toNat) []).getD 0 .any)).toNat) []).getD (0 + 3) .any) + 1)]))) ++ [[.str (bytesOf [[.int .u8 (wr .u8 (97 + (i : Int)))]]), .int .i64 (wi (wr .i64 ((ns.getD i 0).tdiv 8)) 3), .int .i64 ((wi (ns.getD i 0) 8).tmod 5), .int .i64 0]] = _
            simp only [hx1, hx2, encI_0, asI_int]
            rw [hx3, nm_eq i (by omega), show splice (encF (fs.getD a.toNat default)) (0 + 3) [.int .i64 (asI ((encF (fs.getD a.toNat default)).getD (0 + 3) .any) + 1)] = [.str (fs.getD a.toNat default).name, .int .i64 (fs.getD a.toNat default).rep, .int .i64 (fs.getD a.toNat default).kind, .int .i64 ((fs.getD a.toNat default).kids + 1)] from rfl, Nat.zero_add, incK_map (by omega), List.drop_zero, List.take_of_length_le (by simp [incK_length])]
            simp [encF]
          · rfl
  · have hend : makeF ns = endM fs op := by rw [makeF, ← hrun, runM_stop (by omega)]
    have h0 : (fs.getD (topM op).toNat default).kids = 0 := by assumption
    have hE : endM fs op = incK fs (topM op).toNat ++ [⟨[122], 0, 4, 0⟩] := by rw [endM, if_pos h0]
    have hl : (endM fs op).length = fs.length + 1 := by rw [hE]; simp [incK_length]
    have heq : List.take fs.length (List.drop 0 ((fs.map encF).set (0 + (asI ((R.getD (0 + ((↑op.length : Int) - 1).toNat) []).getD 0 .any)).toNat) (splice ((fs.map encF).getD (0 + (asI ((R.getD (0 + ((↑op.length : Int) - 1).toNat) []).getD 0 .any)).toNat) []) (0 + 3) [.int .i64 (asI (((fs.map encF).getD (0 + (asI ((R.getD (0 + ((↑op.length : Int) - 1).toNat) []).getD 0 .any)).toNat) []).getD (0 + 3) .any) + 1)]))) ++ [[.str [122], .int .i64 0, .int .i64 4, .int .i64 0]] = (endM fs op).map encF := by
      rw [hE, hx2]
      simp only [encI_0, asI_int]
      rw [hx3, show splice (encF (fs.getD (topM op).toNat default)) (0 + 3) [.int .i64 (asI ((encF (fs.getD (topM op).toNat default)).getD (0 + 3) .any) + 1)] = [.str (fs.getD (topM op).toNat default).name, .int .i64 (fs.getD (topM op).toNat default).rep, .int .i64 (fs.getD (topM op).toNat default).kind, .int .i64 ((fs.getD (topM op).toNat default).kids + 1)] from rfl, Nat.zero_add, incK_map (by omega), List.drop_zero, List.take_of_length_le (by simp [incK_length])]
      simp [encF]
    refine ⟨_, reb_out (enc := encF) (k := 2) (rows := List.take fs.length (List.drop 0 ((fs.map encF).set (0 + (asI ((R.getD (0 + ((↑op.length : Int) - 1).toNat) []).getD 0 .any)).toNat) (splice ((fs.map encF).getD (0 + (asI ((R.getD (0 + ((↑op.length : Int) - 1).toNat) []).getD 0 .any)).toNat) []) (0 + 3) [.int .i64 (asI (((fs.map encF).getD (0 + (asI ((R.getD (0 + ((↑op.length : Int) - 1).toNat) []).getD 0 .any)).toNat) []).getD (0 + 3) .any) + 1)]))) ++ [[.str [122], .int .i64 0, .int .i64 4, .int .i64 0]]) (l := endM fs op) rfl rfl (by kernel_rfl) heq (by rw [hl]) (fF _), _, rfl, ?_, ?_, rfl⟩
    · rw [hend]; rfl
    · rw [hend]
  · have hend : makeF ns = endM fs op := by rw [makeF, ← hrun, runM_stop (by omega)]
    have h0 : ¬ (fs.getD (topM op).toNat default).kids = 0 := by assumption
    have hE : endM fs op = fs := by rw [endM, if_neg h0]
    refine ⟨_, reb_out (enc := encF) (k := 2) (rows := fs.map encF) (l := fs) rfl rfl (by kernel_rfl) rfl rfl (fF _), _, rfl, ?_, ?_, rfl⟩
    · rw [hend, hE] <;> try rfl
    · rw [hend, hE] <;> try rfl
  · have hend : makeF ns = endM fs op := by rw [makeF, ← hrun, runM_stop (by omega)]
    have h0 : (fs.getD (topM op).toNat default).kids = 0 := by assumption
    have hE : endM fs op = incK fs (topM op).toNat ++ [⟨[122], 0, 4, 0⟩] := by rw [endM, if_pos h0]
    have hl : (endM fs op).length = fs.length + 1 := by rw [hE]; simp [incK_length]
    have heq : List.take fs.length (List.drop 0 ((fs.map encF).set (0 + (asI ((R.getD (0 + ((↑op.length : Int) - 1).toNat) []).getD 0 .any)).toNat) (splice ((fs.map encF).getD (0 + (asI ((R.getD (0 + ((↑op.length : Int) - 1).toNat) []).getD 0 .any)).toNat) []) (0 + 3) [.int .i64 (asI (((fs.map encF).getD (0 + (asI ((R.getD (0 + ((↑op.length : Int) - 1).toNat) []).getD 0 .any)).toNat) []).getD (0 + 3) .any) + 1)]))) ++ [[.str [122], .int .i64 0, .int .i64 4, .int .i64 0]] = (endM fs op).map encF := by
      rw [hE, hx2]
      simp only [encI_0, asI_int]
      rw [hx3, show splice (encF (fs.getD (topM op).toNat default)) (0 + 3) [.int .i64 (asI ((encF (fs.getD (topM op).toNat default)).getD (0 + 3) .any) + 1)] = [.str (fs.getD (topM op).toNat default).name, .int .i64 (fs.getD (topM op).toNat default).rep, .int .i64 (fs.getD (topM op).toNat default).kind, .int .i64 ((fs.getD (topM op).toNat default).kids + 1)] from rfl, Nat.zero_add, incK_map (by omega), List.drop_zero, List.take_of_length_le (by simp [incK_length])]
      simp [encF]
    refine ⟨_, reb_out (enc := encF) (k := 2) (rows := List.take fs.length (List.drop 0 ((fs.map encF).set (0 + (asI ((R.getD (0 + ((↑op.length : Int) - 1).toNat) []).getD 0 .any)).toNat) (splice ((fs.map encF).getD (0 + (asI ((R.getD (0 + ((↑op.length : Int) - 1).toNat) []).getD 0 .any)).toNat) []) (0 + 3) [.int .i64 (asI (((fs.map encF).getD (0 + (asI ((R.getD (0 + ((↑op.length : Int) - 1).toNat) []).getD 0 .any)).toNat) []).getD (0 + 3) .any) + 1)]))) ++ [[.str [122], .int .i64 0, .int .i64 4, .int .i64 0]]) (l := endM fs op) rfl rfl (by kernel_rfl) heq (by rw [hl]) (fF _), _, rfl, ?_, ?_, rfl⟩
    · rw [hend]; rfl
    · rw [hend]
  · have hend : makeF ns = endM fs op := by rw [makeF, ← hrun, runM_stop (by omega)]
    have h0 : ¬ (fs.getD (topM op).toNat default).kids = 0 := by assumption
    have hE : endM fs op = fs := by rw [endM, if_neg h0]
    refine ⟨_, reb_out (enc := encF) (k := 2) (rows := fs.map encF) (l := fs) rfl rfl (by kernel_rfl) rfl rfl (fF _), _, rfl, ?_, ?_, rfl⟩
    · rw [hend, hE] <;> try rfl
    · rw [hend, hE] <;> try rfl
def S_makeO : SpecT := fun args H nx Post => ∃ ns, args = [vI ns] ∧ H = [] ∧ nx = 0 ∧ (ns.length ≤ 9223372036854775807 ∧ Post (.slice 0 0 (makeF ns).length 4 none) [(0, some (.cells ((makeF ns).map encF) false))] 1)
theorem makeO_ok [Syms] : S_makeO.ok Try.prog 17 := by
  rintro args H nx Post ⟨ns, rfl, rfl, rfl, h, hk⟩
  have := fnT_sound tys_ok fns_ok cWi_det cWi_ok mixed (make_o_t ns h)
  refine ⟨this.1, fun ι w vs hv hH hb => (this.2 ι w vs hv hH hb).mono ?_⟩
  rintro e w' ⟨v, H', nx', r, κ, ⟨rfl, rfl, rfl⟩, g⟩
  exact ⟨_, _, _, r, κ, hk, g⟩
theorem ren_map {α : Type} {enc : α → List AVal} (h : ∀ a, ∀ x ∈ enc a, x.flat = true) (ρ : Nat → Nat) (l : List α) : (l.map enc).map (AVal.renL ρ) = l.map enc := by
  rw [List.map_map]
  exact List.map_congr_left fun a _ => renL_flat ρ (h a)
end Go.Proofs.Ytgaacnljcnibdaa
