/-
  'Make': a shape, of raw numbers. Small facts of rows, for the symbolic runs. Plain. Bytes, cloned; a varint behind bytes. The program's.
-/
import Derived.Test.YtajieadpaeggcaaL1
import Derived.Test.YtajieadpaeggcaaWithin
set_option linter.unusedVariables false
set_option linter.unusedSimpArgs false
section
set_option linter.unusedVariables false
set_option linter.unusedSimpArgs false
namespace Go.Proofs.Ytajieadpaeggcaa
open Go Go.Av
set_option maxRecDepth 100000
set_option maxHeartbeats 4000000

/-! ### 'within' -/
def G_within : List AVal → (AVal → Prop) → Prop := fun args K => ∃ a n, args = [.int .i64 a, .int .i64 n] ∧ (0 < n ∧ n ≤ 4611686018427387904) ∧ K (.int .i64 (wi a n))
theorem within_ok [Syms] : ValOk Try.prog 47 G_within := by
 rintro args K ⟨a, n, rfl, ⟨h1, h2⟩, hk⟩
 refine ⟨within_fn_law5, _, hk, fun ι w vs hv => ?_⟩
 obtain ⟨v0, vs0, rfl, hv0, hv⟩ := hv.uncons
 obtain ⟨v1, vs1, rfl, hv1, hv⟩ := hv.uncons
 obtain rfl := hv.unnil
 obtain rfl := hv0.of_int
 obtain rfl := hv1.of_int
 refine (within_calls_law5 a n h1 h2 w).mono ?_
 rintro e w' ⟨rfl, rfl⟩
 exact ⟨_, rfl, .int _ _, rfl⟩
abbrev cWi : CallT := pickT 47 (valT G_within) noneT
theorem cWi_det [Syms] : cWi.det Try.prog := pickT_val within_ok noneT_det
theorem cWi_ok [Syms] : cWi.ok Try.prog := pickT_val_ok within_ok noneT_ok
theorem asI_int (k : IntKind) (n : Int) : asI (.int k n) = n := rfl
theorem encI_0 (a : Int) : (encI a).getD 0 .any = .int .i64 a := rfl
theorem encF_3 (f : Fd) : (encF f).getD 3 .any = .int .i64 f.kids := rfl
theorem encF_03 (f : Fd) : (encF f).getD (0 + 3) .any = .int .i64 f.kids := rfl
theorem encF_len (f : Fd) : (encF f).length = 4 := rfl
theorem popM_stop {fs : List Fd} {n : Nat} {a : Int} {t : List Int} (h : n = 0 ∨ t = [] ∨ ¬ 0 < (fs.getD a.toNat default).kids) : popM fs n (a :: t) = a :: t := by
 cases n with
 | zero => rfl
 | succ n => cases t with
   | nil => rfl
   | cons b t2 => rcases h with h | h | h
                  ·exact absurd h (by omega)
                  ·exact absurd h (by simp)
                  ·simp only [popM, h, if_false]
theorem wk_int {k : IntKind} {a b : Int} (h : a = b) : WkV (.int k a) (.int k b) := h ▸ .refl _
theorem wk_slc {n off l l' sz : Nat} {c : Option Nat} (h : l = l') : WkV (.slice n off l sz c) (.slice n off l' sz none) := h ▸ .cap _ _ _ _ _
def pSt (ns : List Int) (i : Nat) (fs : List Fd) (m : Nat) (R : List (List AVal)) (k : Nat) : St :=
 ⟨[(0, vI ns), (3, .slice 0 0 fs.length 4 none), (4, .slice 1 0 m 1 none), (5, .int .i64 i), (6, .int .i64 k)], [(0, some (.cells (fs.map encF) false)), (1, some (.cells R false))], 2⟩
def mSt (ns : List Int) (i : Nat) (fs : List Fd) (m : Nat) (R : List (List AVal)) : St :=
 ⟨[(0, vI ns), (3, .slice 0 0 fs.length 4 none), (4, .slice 1 0 m 1 none), (5, .int .i64 i)], [(0, some (.cells (fs.map encF) false)), (1, some (.cells R false))], 2⟩
theorem make_t [Syms] (ns : List Int) (hn : ns.length ≤ 9223372036854775807) :
 fnT cWi cWi (fnTab fns) (tyTab tys) (plTab plt) 100 20 [vI ns] [] 0 (fun v H _ => v = vF (makeF ns) ∧ H = []) := by
 refine ⟨fun n s => ∃ (i : Nat) (fs : List Fd) (op : List Int) (m : Nat) (junk R : List (List AVal)), (n = 12 - i ∧ i ≤ 12 ∧ runM ns (12 - i) i fs op = runM ns 12 0 [⟨[109], 0, 0, 0⟩] [0] ∧ fs.length = i + 1 ∧ m = op.length ∧ op ≠ [] ∧ (∀ p ∈ op, 0 ≤ p ∧ p < fs.length) ∧ (∀ f ∈ fs, 0 ≤ f.kids ∧ f.kids ≤ i) ∧ op.length ≤ i + 1 ∧ R = op.reverse.map encI ++ junk ∧ flatRows junk) ∧ s = mSt ns i fs m R,
  ⟨_, mSt ns 0 [⟨[109], 0, 0, 0⟩] 1 [[.int .i64 0]], reb_num [0, 1] rfl ?_ ?_, 0, _, [0], _, [], _, ⟨rfl, by omega, rfl, rfl, rfl, by simp, by simp, by simp, by simp, rfl, flat_nil⟩, rfl⟩, ?_⟩
 ·exact ⟨.refl _, .cap _ _ _ _ _, .cap _ _ _ _ _, .refl _, trivial⟩
 ·exact ⟨⟨by decide, _, rfl, wkB_eq rfl (fF [⟨[109], 0, 0, 0⟩])⟩, ⟨by decide, _, rfl, .refl _⟩, trivial⟩
 rintro n s ⟨i, fs, op, m, junk, R, ⟨rfl, hi, hrun, hlen, rfl, hne, hop, hkid, hol0, hR, hj⟩, rfl⟩
 have hop0 : 0 ≤ topM op ∧ topM op < fs.length := by
  cases op with
  | nil => exact absurd rfl hne
  | cons a t => exact hop a (List.mem_cons_self ..)
 have hx1 : (0 : Nat) + 0 = 0 := rfl
 have hx2 : R.getD (0 + ((↑op.length : Int) - 1).toNat) [] = encI (topM op) := by
  obtain ⟨a, t, rfl⟩ : ∃ a t, op = a :: t := by cases op with | nil => exact absurd rfl hne | cons a t => exact ⟨a, t, rfl⟩
  rw [show 0 + ((↑(a :: t).length : Int) - 1).toNat = t.length by rw [List.length_cons]; omega, hR]; simp [List.getElem?_append, List.getElem?_map, topM]
 have hx3 : (fs.map encF).getD (0 + (topM op).toNat) [] = encF (fs.getD (topM op).toNat default) := by rw [Nat.zero_add]; exact row_at encF default (by omega)
 have hRl : R.length = op.length + junk.length := by rw [hR]; simp
 have hkb : 0 ≤ (fs.getD (topM op).toNat default).kids ∧ (fs.getD (topM op).toNat default).kids ≤ i := by
  have hlt : (topM op).toNat < fs.length := by omega
  have : fs.getD (topM op).toNat default = fs[(topM op).toNat] := by simp [List.getD_eq_getElem?_getD, hlt]
  rw [this]; exact hkid _ (List.getElem_mem hlt)
 have hol1 : 0 < op.length := List.length_pos_iff.2 hne
 repeat' (first | (refine And.intro ?_ ?_) | (intro h; try simp only [decide_eq_true_eq, decide_eq_false_iff_not, Int.not_lt, Int.not_le, Int.toNat_natCast, ↓reduceIte, Nat.reduceAdd, reduceCtorEq, Int.reduceLT, Int.lt_irrefl, gt_iff_lt, not_true_eq_false, not_false_eq_true, Bool.not_true, Bool.not_false, decide_false, decide_true, Int.reduceLE, Int.reduceSub, Bool.false_eq_true, Bool.true_eq_false, Nat.reduceEqDiff, Nat.one_ne_zero, Nat.reduceLT, and_self, and_true, true_and, Int.natCast_zero, Int.cast_ofNat_Int, List.length_nil, ne_eq, Decidable.not_not, hx1, hx2, hx3, asI_int, encI_0, encF_3, encF_03] at h))
 all_goals (try first | exact PlanIs.mk (by kernel_rfl) | omega | exact rfl | exact Nat.le_of_ble_eq_true rfl | (show (_ : Int) ≤ (_ : Int); simp only [hx1, hx2, hx3, asI_int, encI_0, encF_3, encF_03, encF_len, List.length_set, List.length_map, hRl]; omega) | (show (_ : Int) < (_ : Int); simp only [hx1, hx2, hx3, asI_int, encI_0, encF_3, encF_03, encF_len, List.length_set, List.length_map, hRl]; omega) | (show (_ : Nat) ≤ (_ : Nat); simp only [hx1, hx2, hx3, asI_int, encI_0, encF_3, encF_03, encF_len, List.length_set, List.length_map, hRl]; omega) | (show isC _ _ _ = true; simp only [hx1, hx2, hx3, asI_int, encI_0, encF_3, encF_03, encF_len, List.length_set, List.length_map, hRl]; exact rfl))
 ·refine ⟨_, 3, rfl, by omega, ?_⟩
  obtain ⟨hw1, hw2⟩ := wi_range (a := wr .i64 ((ns.getD i 0).tdiv 64)) (n := 3) (by omega)
  generalize hk0 : wi (wr .i64 ((ns.getD i 0).tdiv 64)) 3 = k0 at hw1 hw2
  obtain ⟨k0, rfl⟩ := Int.eq_ofNat_of_zero_le hw1
  have hfF : flatRows (fs.map encF) := fF fs
  have hfR : flatRows R := by rw [hR]; exact flat_append (fI _) hj
  refine ⟨fun n s => ∃ (kk : Nat) (o : List Int) (j1 : List (List AVal)), (n = kk ∧ kk ≤ 3 ∧ popM fs kk o = popM fs k0 op ∧ R = o.reverse.map encI ++ j1 ∧ flatRows j1 ∧ o ≠ [] ∧ (∀ p ∈ o, 0 ≤ p ∧ p < fs.length) ∧ o.length ≤ op.length) ∧ s = pSt ns i fs o.length R kk, ⟨_, pSt ns i fs op.length R k0, reb_num [0, 1] rfl ?_ ?_, k0, op, junk, ⟨rfl, by omega, rfl, hR, hj, hne, hop, Nat.le_refl _⟩, rfl⟩, ?_⟩
  ·exact ⟨.refl _, .cap _ _ _ _ _, .cap _ _ _ _ _, .refl _, wk_int hk0, trivial⟩
  ·exact ⟨⟨by decide, _, rfl, wkB_eq rfl hfF⟩, ⟨by decide, _, rfl, wkB_eq rfl hfR⟩, trivial⟩
  rintro n s ⟨kk, o, j1, ⟨rfl, hk3, hpop, hR1, hj1, ho, hop1, hol⟩, rfl⟩
  obtain ⟨a, t, rfl⟩ : ∃ a t, o = a :: t := by cases o with | nil => exact absurd rfl ho | cons a t => exact ⟨a, t, rfl⟩
  have hol2 : t.length + 1 ≤ i + 1 := by rw [List.length_cons] at hol; omega
  have ha := hop1 a (List.mem_cons_self ..)
  have hx1 : 0 + ((↑(t.length + 1) : Int) - 1).toNat = t.length := by omega
  have hx2 : R.getD t.length [] = encI a := by rw [hR1]; simp [List.getElem?_append, List.getElem?_map]
  have hc1 : isC (isArr 1) (.int .i64 0) ((R.getD (0 + ((↑(t.length + 1) : Int) - 1).toNat) []).getD 0 .any) = true := by rw [hx1, hx2]; exact rfl
  have hx3 : (fs.map encF).getD (0 + a.toNat) [] = encF (fs.getD a.toNat default) := by rw [Nat.zero_add]; exact row_at encF default (by omega)
  have hRl : R.length = t.length + 1 + j1.length := by rw [hR1]; simp; omega
  have hkb : 0 ≤ (fs.getD a.toNat default).kids ∧ (fs.getD a.toNat default).kids ≤ i := by
   have hlt : a.toNat < fs.length := by omega
   have : fs.getD a.toNat default = fs[a.toNat] := by simp [List.getD_eq_getElem?_getD, hlt]
   rw [this]; exact hkid _ (List.getElem_mem hlt)
  rw [List.length_cons]
  repeat' (first | (refine And.intro ?_ ?_) | (intro h; try simp only [decide_eq_true_eq, decide_eq_false_iff_not, Int.not_lt, Int.not_le, Int.toNat_natCast, ↓reduceIte, Nat.reduceAdd, reduceCtorEq, Int.reduceLT, Int.lt_irrefl, gt_iff_lt, not_true_eq_false, not_false_eq_true, Bool.not_true, Bool.not_false, decide_false, decide_true, Int.reduceLE, Int.reduceSub, Bool.false_eq_true, Bool.true_eq_false, Nat.reduceEqDiff, Nat.one_ne_zero, Nat.reduceLT, and_self, and_true, true_and, Int.natCast_zero, Int.cast_ofNat_Int, List.length_nil, ne_eq, Decidable.not_not, hx1, hx2, hx3, asI_int, encI_0, encF_3, encF_03] at h))
  all_goals (try first | exact PlanIs.mk (by kernel_rfl) | omega | exact rfl | exact Nat.le_of_ble_eq_true rfl | (show (_ : Int) ≤ (_ : Int); simp only [hx1, hx2, hx3, asI_int, encI_0, encF_3, encF_03, encF_len, List.length_set, List.length_map, hRl]; omega) | (show (_ : Int) < (_ : Int); simp only [hx1, hx2, hx3, asI_int, encI_0, encF_3, encF_03, encF_len, List.length_set, List.length_map, hRl]; omega) | (show (_ : Nat) ≤ (_ : Nat); simp only [hx1, hx2, hx3, asI_int, encI_0, encF_3, encF_03, encF_len, List.length_set, List.length_map, hRl]; omega) | (show isC _ _ _ = true; simp only [hx1, hx2, hx3, asI_int, encI_0, encF_3, encF_03, encF_len, List.length_set, List.length_map, hRl]; exact rfl))
  ·have h' : 0 < (fs.getD a.toNat default).kids := by assumption
   obtain ⟨b, t2, rfl⟩ : ∃ b t2, t = b :: t2 := by
    cases t with
    | nil => simp only [List.length_nil] at *; omega
    | cons b t2 => exact ⟨b, t2, rfl⟩
   have hn0 : 0 < n := by omega
   refine ⟨n - 1, pSt ns i fs (b :: t2).length R (n - 1), reb_num [0, 1] rfl ?_ ?_, ⟨n - 1, b :: t2, encI a :: j1, ⟨rfl, by omega, ?_, ?_, flat_cons (by simp [encI]; rfl) hj1, by simp, fun p hp => hop1 p (List.mem_cons_of_mem _ hp), by simp only [List.length_cons] at *; omega⟩, rfl⟩, by omega⟩
   ·exact ⟨.refl _, .cap _ _ _ _ _, wk_slc (by simp only [List.length_cons]; omega), .refl _, wk_int (by omega), trivial⟩
   ·exact ⟨⟨by decide, _, rfl, wkB_eq rfl hfF⟩, ⟨by decide, _, rfl, wkB_eq rfl hfR⟩, trivial⟩
   ·rw [← hpop]
    obtain ⟨n', rfl⟩ : ∃ n', n = n' + 1 := ⟨n - 1, by omega⟩
    simp only [popM, h', if_true, Nat.add_sub_cancel]
   ·rw [hR1]; simp
  all_goals
   have hp : popM fs k0 op = a :: t := by
    rw [← hpop]
    refine popM_stop ?_
    first
    | exact Or.inr (Or.inr (Int.not_lt.2 (by assumption)))
    | exact Or.inl (by omega)
    | exact Or.inr (Or.inl (List.length_eq_zero_iff.1 (by omega)))
   refine ⟨_, 3, rfl, by omega, ?_⟩
  ·skip
   repeat' (first | (refine And.intro ?_ ?_) | (intro h; try simp only [decide_eq_true_eq, decide_eq_false_iff_not, Int.not_lt, Int.not_le, Int.toNat_natCast, ↓reduceIte, Nat.reduceAdd, reduceCtorEq, Int.reduceLT, Int.lt_irrefl, gt_iff_lt, not_true_eq_false, not_false_eq_true, Bool.not_true, Bool.not_false, decide_false, decide_true, Int.reduceLE, Int.reduceSub, Bool.false_eq_true, Bool.true_eq_false, Nat.reduceEqDiff, Nat.one_ne_zero, Nat.reduceLT, and_self, and_true, true_and, Int.natCast_zero, Int.cast_ofNat_Int, List.length_nil, ne_eq, Decidable.not_not, hx1, hx2, hx3, asI_int, encI_0, encF_3, encF_03] at h))
   all_goals (try first | exact PlanIs.mk (by kernel_rfl) | omega | exact rfl | exact Nat.le_of_ble_eq_true rfl | (show (_ : Int) ≤ (_ : Int); simp only [hx1, hx2, hx3, asI_int, encI_0, encF_3, encF_03, encF_len, List.length_set, List.length_map, hRl]; omega) | (show (_ : Int) < (_ : Int); simp only [hx1, hx2, hx3, asI_int, encI_0, encF_3, encF_03, encF_len, List.length_set, List.length_map, hRl]; omega) | (show (_ : Nat) ≤ (_ : Nat); simp only [hx1, hx2, hx3, asI_int, encI_0, encF_3, encF_03, encF_len, List.length_set, List.length_map, hRl]; omega) | (show isC _ _ _ = true; simp only [hx1, hx2, hx3, asI_int, encI_0, encF_3, encF_03, encF_len, List.length_set, List.length_map, hRl]; exact rfl))
   all_goals refine ⟨_, 8, rfl, by omega, ?_⟩
   repeat' (first | (refine And.intro ?_ ?_) | (intro h; try simp only [decide_eq_true_eq, decide_eq_false_iff_not, Int.not_lt, Int.not_le, Int.toNat_natCast, ↓reduceIte, Nat.reduceAdd, reduceCtorEq, Int.reduceLT, Int.lt_irrefl, gt_iff_lt, not_true_eq_false, not_false_eq_true, Bool.not_true, Bool.not_false, decide_false, decide_true, Int.reduceLE, Int.reduceSub, Bool.false_eq_true, Bool.true_eq_false, Nat.reduceEqDiff, Nat.one_ne_zero, Nat.reduceLT, and_self, and_true, true_and, Int.natCast_zero, Int.cast_ofNat_Int, List.length_nil, ne_eq, Decidable.not_not, hx1, hx2, hx3, asI_int, encI_0, encF_3, encF_03] at h))
   all_goals (try first | exact PlanIs.mk (by kernel_rfl) | omega | exact rfl | exact Nat.le_of_ble_eq_true rfl | (show (_ : Int) ≤ (_ : Int); simp only [hx1, hx2, hx3, asI_int, encI_0, encF_3, encF_03, encF_len, List.length_set, List.length_map, hRl]; omega) | (show (_ : Int) < (_ : Int); simp only [hx1, hx2, hx3, asI_int, encI_0, encF_3, encF_03, encF_len, List.length_set, List.length_map, hRl]; omega) | (show (_ : Nat) ≤ (_ : Nat); simp only [hx1, hx2, hx3, asI_int, encI_0, encF_3, encF_03, encF_len, List.length_set, List.length_map, hRl]; omega) | (show isC _ _ _ = true; simp only [hx1, hx2, hx3, asI_int, encI_0, encF_3, encF_03, encF_len, List.length_set, List.length_map, hRl]; exact rfl))
   ·exact absurd (show (2 : Int) = 0 from by assumption) (by decide)
   ·have hq : (wi (ns.getD i 0) 8).tmod 5 = 0 := by assumption
    obtain ⟨g1, g2, g3, g4, g5, g6⟩ := inv_step hrun hlen hkid (by omega) (by omega) hk0 hp hop1 hol2 2 (by rw [kindM, if_pos ⟨by rw [List.length_cons]; omega, hq⟩]) (a :: t) (by first | rfl | (rw [if_neg ‹_›])) _ rfl
    refine ⟨_, mSt ns (i + 1) (incK fs a.toNat ++ [⟨nmM i, wi (wr .i64 ((ns.getD i 0).tdiv 8)) 3, 2, 0⟩]) (a :: t).length (R), reb_num [2 + 19 * RR + 4, 1] (by kernel_rfl) ?_ ?_, ⟨i + 1, _, a :: t, _, j1, _, ⟨rfl, by omega, g1, g2, rfl, g3, g4, g5, g6, hR1, hj1⟩, rfl⟩, by omega⟩
    ·exact ⟨.refl _, wk_slc (by rw [g2, hlen]), wk_slc rfl, wk_int (by omega), trivial⟩
    ·refine ⟨⟨by decide, _, rfl, wkB_eq ?_ (fF _)⟩, ⟨by decide, _, rfl, wkB_eq ?_ hfR⟩, trivial⟩
     ·show List.take fs.length (List.drop 0 ((fs.map encF).set (0 + (asI ((R.getD (0 + ((↑(t.length + 1) : Int) - 1).toNat) []).getD 0 .any)).toNat) (splice ((fs.map encF).getD (0 + (asI ((R.getD (0 + ((↑(t.length + 1) : Int) - 1).toNat) []).getD 0 .any)).toNat) []) (0 + 3) [.int .i64 (asI (((fs.map encF).getD (0 + (asI ((R.getD (0 + ((↑(t.length + 1) : Int) - 1).toNat) []).getD 0 .any)).toNat) []).getD (0 + 3) .any) + 1)]))) ++ [[.str (bytesOf [[.int .u8 (wr .u8 (97 + (i : Int)))]]), .int .i64 (wi (wr .i64 ((ns.getD i 0).tdiv 8)) 3), .int .i64 (2), .int .i64 0]] = _
      simp only [hx1, hx2, encI_0, asI_int]
      rw [hx3, nm_eq i (by omega), show splice (encF (fs.getD a.toNat default)) (0 + 3) [.int .i64 (asI ((encF (fs.getD a.toNat default)).getD (0 + 3) .any) + 1)] = [.str (fs.getD a.toNat default).name, .int .i64 (fs.getD a.toNat default).rep, .int .i64 (fs.getD a.toNat default).kind, .int .i64 ((fs.getD a.toNat default).kids + 1)] from rfl, Nat.zero_add, incK_map (by omega), List.drop_zero, List.take_of_length_le (by simp [incK_length])]
      simp [encF]
     ·rfl
   ·have hq : ¬ (wi (ns.getD i 0) 8).tmod 5 = 0 := by assumption
    obtain ⟨g1, g2, g3, g4, g5, g6⟩ := inv_step hrun hlen hkid (by omega) (by omega) hk0 hp hop1 hol2 ((wi (ns.getD i 0) 8).tmod 5) (by rw [kindM, if_neg (fun h => hq h.2)]) (a :: t) (by rw [if_neg hq]) _ rfl
    refine ⟨_, mSt ns (i + 1) (incK fs a.toNat ++ [⟨nmM i, wi (wr .i64 ((ns.getD i 0).tdiv 8)) 3, (wi (ns.getD i 0) 8).tmod 5, 0⟩]) (a :: t).length (R), reb_num [2 + 19 * RR + 3, 1] (by kernel_rfl) ?_ ?_, ⟨i + 1, _, a :: t, _, j1, _, ⟨rfl, by omega, g1, g2, rfl, g3, g4, g5, g6, hR1, hj1⟩, rfl⟩, by omega⟩
    ·exact ⟨.refl _, wk_slc (by rw [g2, hlen]), wk_slc rfl, wk_int (by omega), trivial⟩
    ·refine ⟨⟨by decide, _, rfl, wkB_eq ?_ (fF _)⟩, ⟨by decide, _, rfl, wkB_eq ?_ hfR⟩, trivial⟩
     ·show List.take fs.length (List.drop 0 ((fs.map encF).set (0 + (asI ((R.getD (0 + ((↑(t.length + 1) : Int) - 1).toNat) []).getD 0 .any)).toNat) (splice ((fs.map encF).getD (0 + (asI ((R.getD (0 + ((↑(t.length + 1) : Int) - 1).toNat) []).getD 0 .any)).toNat) []) (0 + 3) [.int .i64 (asI (((fs.map encF).getD (0 + (asI ((R.getD (0 + ((↑(t.length + 1) : Int) - 1).toNat) []).getD 0 .any)).toNat) []).getD (0 + 3) .any) + 1)]))) ++ [[.str (bytesOf [[.int .u8 (wr .u8 (97 + (i : Int)))]]), .int .i64 (wi (wr .i64 ((ns.getD i 0).tdiv 8)) 3), .int .i64 ((wi (ns.getD i 0) 8).tmod 5), .int .i64 0]] = _
      simp only [hx1, hx2, encI_0, asI_int]
      rw [hx3, nm_eq i (by omega), show splice (encF (fs.getD a.toNat default)) (0 + 3) [.int .i64 (asI ((encF (fs.getD a.toNat default)).getD (0 + 3) .any) + 1)] = [.str (fs.getD a.toNat default).name, .int .i64 (fs.getD a.toNat default).rep, .int .i64 (fs.getD a.toNat default).kind, .int .i64 ((fs.getD a.toNat default).kids + 1)] from rfl, Nat.zero_add, incK_map (by omega), List.drop_zero, List.take_of_length_le (by simp [incK_length])]
      simp [encF]
     ·rfl
   ·have hq : (wi (ns.getD i 0) 8).tmod 5 = 0 := by assumption
    obtain ⟨g1, g2, g3, g4, g5, g6⟩ := inv_step hrun hlen hkid (by omega) (by omega) hk0 hp hop1 hol2 ((wi (ns.getD i 0) 8).tmod 5) (by rw [kindM, if_neg (fun h => by simp only [List.length_cons] at h; omega)]) ((fs.length : Int) :: a :: t) (by rw [if_pos hq]) _ rfl
    refine ⟨_, mSt ns (i + 1) (incK fs a.toNat ++ [⟨nmM i, wi (wr .i64 ((ns.getD i 0).tdiv 8)) 3, (wi (ns.getD i 0) 8).tmod 5, 0⟩]) ((fs.length : Int) :: a :: t).length (((fs.length : Int) :: a :: t).reverse.map encI), reb_num [2 + 19 * RR + 3, 2 + 19 * RR + 5] (by kernel_rfl) ?_ ?_, ⟨i + 1, _, (fs.length : Int) :: a :: t, _, [], _, ⟨rfl, by omega, g1, g2, rfl, g3, g4, g5, g6, by simp, flat_nil⟩, rfl⟩, by omega⟩
    ·exact ⟨.refl _, wk_slc (by rw [g2, hlen]), wk_slc rfl, wk_int (by omega), trivial⟩
    ·refine ⟨⟨by decide, _, rfl, wkB_eq ?_ (fF _)⟩, ⟨by decide, _, rfl, wkB_eq ?_ (fI _)⟩, trivial⟩
     ·show List.take fs.length (List.drop 0 ((fs.map encF).set (0 + (asI ((R.getD (0 + ((↑(t.length + 1) : Int) - 1).toNat) []).getD 0 .any)).toNat) (splice ((fs.map encF).getD (0 + (asI ((R.getD (0 + ((↑(t.length + 1) : Int) - 1).toNat) []).getD 0 .any)).toNat) []) (0 + 3) [.int .i64 (asI (((fs.map encF).getD (0 + (asI ((R.getD (0 + ((↑(t.length + 1) : Int) - 1).toNat) []).getD 0 .any)).toNat) []).getD (0 + 3) .any) + 1)]))) ++ [[.str (bytesOf [[.int .u8 (wr .u8 (97 + (i : Int)))]]), .int .i64 (wi (wr .i64 ((ns.getD i 0).tdiv 8)) 3), .int .i64 ((wi (ns.getD i 0) 8).tmod 5), .int .i64 0]] = _
      simp only [hx1, hx2, encI_0, asI_int]
      rw [hx3, nm_eq i (by omega), show splice (encF (fs.getD a.toNat default)) (0 + 3) [.int .i64 (asI ((encF (fs.getD a.toNat default)).getD (0 + 3) .any) + 1)] = [.str (fs.getD a.toNat default).name, .int .i64 (fs.getD a.toNat default).rep, .int .i64 (fs.getD a.toNat default).kind, .int .i64 ((fs.getD a.toNat default).kids + 1)] from rfl, Nat.zero_add, incK_map (by omega), List.drop_zero, List.take_of_length_le (by simp [incK_length])]
      simp [encF]
     ·show List.take (t.length + 1) (List.drop 0 R) ++ [[.int .i64 (↑(fs.length + 1) - 1)]] = _
      rw [hR1, List.drop_zero, show t.length + 1 = ((a :: t).reverse.map encI).length by simp, List.take_left]
      simp [encI]
   ·have hq : ¬ (wi (ns.getD i 0) 8).tmod 5 = 0 := by assumption
    obtain ⟨g1, g2, g3, g4, g5, g6⟩ := inv_step hrun hlen hkid (by omega) (by omega) hk0 hp hop1 hol2 ((wi (ns.getD i 0) 8).tmod 5) (by rw [kindM, if_neg (fun h => hq h.2)]) (a :: t) (by rw [if_neg hq]) _ rfl
    refine ⟨_, mSt ns (i + 1) (incK fs a.toNat ++ [⟨nmM i, wi (wr .i64 ((ns.getD i 0).tdiv 8)) 3, (wi (ns.getD i 0) 8).tmod 5, 0⟩]) (a :: t).length (R), reb_num [2 + 19 * RR + 3, 1] (by kernel_rfl) ?_ ?_, ⟨i + 1, _, a :: t, _, j1, _, ⟨rfl, by omega, g1, g2, rfl, g3, g4, g5, g6, hR1, hj1⟩, rfl⟩, by omega⟩
    ·exact ⟨.refl _, wk_slc (by rw [g2, hlen]), wk_slc rfl, wk_int (by omega), trivial⟩
    ·refine ⟨⟨by decide, _, rfl, wkB_eq ?_ (fF _)⟩, ⟨by decide, _, rfl, wkB_eq ?_ hfR⟩, trivial⟩
     ·show List.take fs.length (List.drop 0 ((fs.map encF).set (0 + (asI ((R.getD (0 + ((↑(t.length + 1) : Int) - 1).toNat) []).getD 0 .any)).toNat) (splice ((fs.map encF).getD (0 + (asI ((R.getD (0 + ((↑(t.length + 1) : Int) - 1).toNat) []).getD 0 .any)).toNat) []) (0 + 3) [.int .i64 (asI (((fs.map encF).getD (0 + (asI ((R.getD (0 + ((↑(t.length + 1) : Int) - 1).toNat) []).getD 0 .any)).toNat) []).getD (0 + 3) .any) + 1)]))) ++ [[.str (bytesOf [[.int .u8 (wr .u8 (97 + (i : Int)))]]), .int .i64 (wi (wr .i64 ((ns.getD i 0).tdiv 8)) 3), .int .i64 ((wi (ns.getD i 0) 8).tmod 5), .int .i64 0]] = _
      simp only [hx1, hx2, encI_0, asI_int]
      rw [hx3, nm_eq i (by omega), show splice (encF (fs.getD a.toNat default)) (0 + 3) [.int .i64 (asI ((encF (fs.getD a.toNat default)).getD (0 + 3) .any) + 1)] = [.str (fs.getD a.toNat default).name, .int .i64 (fs.getD a.toNat default).rep, .int .i64 (fs.getD a.toNat default).kind, .int .i64 ((fs.getD a.toNat default).kids + 1)] from rfl, Nat.zero_add, incK_map (by omega), List.drop_zero, List.take_of_length_le (by simp [incK_length])]
      simp [encF]
     ·rfl
  ·skip
   repeat' (first | (refine And.intro ?_ ?_) | (intro h; try simp only [decide_eq_true_eq, decide_eq_false_iff_not, Int.not_lt, Int.not_le, Int.toNat_natCast, ↓reduceIte, Nat.reduceAdd, reduceCtorEq, Int.reduceLT, Int.lt_irrefl, gt_iff_lt, not_true_eq_false, not_false_eq_true, Bool.not_true, Bool.not_false, decide_false, decide_true, Int.reduceLE, Int.reduceSub, Bool.false_eq_true, Bool.true_eq_false, Nat.reduceEqDiff, Nat.one_ne_zero, Nat.reduceLT, and_self, and_true, true_and, Int.natCast_zero, Int.cast_ofNat_Int, List.length_nil, ne_eq, Decidable.not_not, hx1, hx2, hx3, asI_int, encI_0, encF_3, encF_03] at h))
   all_goals (try first | exact PlanIs.mk (by kernel_rfl) | omega | exact rfl | exact Nat.le_of_ble_eq_true rfl | (show (_ : Int) ≤ (_ : Int); simp only [hx1, hx2, hx3, asI_int, encI_0, encF_3, encF_03, encF_len, List.length_set, List.length_map, hRl]; omega) | (show (_ : Int) < (_ : Int); simp only [hx1, hx2, hx3, asI_int, encI_0, encF_3, encF_03, encF_len, List.length_set, List.length_map, hRl]; omega) | (show (_ : Nat) ≤ (_ : Nat); simp only [hx1, hx2, hx3, asI_int, encI_0, encF_3, encF_03, encF_len, List.length_set, List.length_map, hRl]; omega) | (show isC _ _ _ = true; simp only [hx1, hx2, hx3, asI_int, encI_0, encF_3, encF_03, encF_len, List.length_set, List.length_map, hRl]; exact rfl))
   all_goals refine ⟨_, 8, rfl, by omega, ?_⟩
   repeat' (first | (refine And.intro ?_ ?_) | (intro h; try simp only [decide_eq_true_eq, decide_eq_false_iff_not, Int.not_lt, Int.not_le, Int.toNat_natCast, ↓reduceIte, Nat.reduceAdd, reduceCtorEq, Int.reduceLT, Int.lt_irrefl, gt_iff_lt, not_true_eq_false, not_false_eq_true, Bool.not_true, Bool.not_false, decide_false, decide_true, Int.reduceLE, Int.reduceSub, Bool.false_eq_true, Bool.true_eq_false, Nat.reduceEqDiff, Nat.one_ne_zero, Nat.reduceLT, and_self, and_true, true_and, Int.natCast_zero, Int.cast_ofNat_Int, List.length_nil, ne_eq, Decidable.not_not, hx1, hx2, hx3, asI_int, encI_0, encF_3, encF_03] at h))
   all_goals (try first | exact PlanIs.mk (by kernel_rfl) | omega | exact rfl | exact Nat.le_of_ble_eq_true rfl | (show (_ : Int) ≤ (_ : Int); simp only [hx1, hx2, hx3, asI_int, encI_0, encF_3, encF_03, encF_len, List.length_set, List.length_map, hRl]; omega) | (show (_ : Int) < (_ : Int); simp only [hx1, hx2, hx3, asI_int, encI_0, encF_3, encF_03, encF_len, List.length_set, List.length_map, hRl]; omega) | (show (_ : Nat) ≤ (_ : Nat); simp only [hx1, hx2, hx3, asI_int, encI_0, encF_3, encF_03, encF_len, List.length_set, List.length_map, hRl]; omega) | (show isC _ _ _ = true; simp only [hx1, hx2, hx3, asI_int, encI_0, encF_3, encF_03, encF_len, List.length_set, List.length_map, hRl]; exact rfl))
   ·have hq : (wi (ns.getD i 0) 8).tmod 5 = 0 := by first | assumption | exact of_decide_eq_true (by assumption)
    obtain ⟨g1, g2, g3, g4, g5, g6⟩ := inv_step hrun hlen hkid (by omega) (by omega) hk0 hp hop1 hol2 ((wi (ns.getD i 0) 8).tmod 5) (by rw [kindM, if_neg (fun h => by simp only [List.length_cons] at h; omega)]) ((fs.length : Int) :: a :: t) (by rw [if_pos hq]) _ rfl
    refine ⟨_, mSt ns (i + 1) (incK fs a.toNat ++ [⟨nmM i, wi (wr .i64 ((ns.getD i 0).tdiv 8)) 3, (wi (ns.getD i 0) 8).tmod 5, 0⟩]) ((fs.length : Int) :: a :: t).length (((fs.length : Int) :: a :: t).reverse.map encI), reb_num [2 + 19 * RR + 3, 2 + 19 * RR + 5] (by kernel_rfl) ?_ ?_, ⟨i + 1, _, (fs.length : Int) :: a :: t, _, [], _, ⟨rfl, by omega, g1, g2, rfl, g3, g4, g5, g6, by simp, flat_nil⟩, rfl⟩, by omega⟩
    ·exact ⟨.refl _, wk_slc (by rw [g2, hlen]), wk_slc rfl, wk_int (by omega), trivial⟩
    ·refine ⟨⟨by decide, _, rfl, wkB_eq ?_ (fF _)⟩, ⟨by decide, _, rfl, wkB_eq ?_ (fI _)⟩, trivial⟩
     ·show List.take fs.length (List.drop 0 ((fs.map encF).set (0 + (asI ((R.getD (0 + ((↑(t.length + 1) : Int) - 1).toNat) []).getD 0 .any)).toNat) (splice ((fs.map encF).getD (0 + (asI ((R.getD (0 + ((↑(t.length + 1) : Int) - 1).toNat) []).getD 0 .any)).toNat) []) (0 + 3) [.int .i64 (asI (((fs.map encF).getD (0 + (asI ((R.getD (0 + ((↑(t.length + 1) : Int) - 1).toNat) []).getD 0 .any)).toNat) []).getD (0 + 3) .any) + 1)]))) ++ [[.str (bytesOf [[.int .u8 (wr .u8 (97 + (i : Int)))]]), .int .i64 (wi (wr .i64 ((ns.getD i 0).tdiv 8)) 3), .int .i64 ((wi (ns.getD i 0) 8).tmod 5), .int .i64 0]] = _
      simp only [hx1, hx2, encI_0, asI_int]
      rw [hx3, nm_eq i (by omega), show splice (encF (fs.getD a.toNat default)) (0 + 3) [.int .i64 (asI ((encF (fs.getD a.toNat default)).getD (0 + 3) .any) + 1)] = [.str (fs.getD a.toNat default).name, .int .i64 (fs.getD a.toNat default).rep, .int .i64 (fs.getD a.toNat default).kind, .int .i64 ((fs.getD a.toNat default).kids + 1)] from rfl, Nat.zero_add, incK_map (by omega), List.drop_zero, List.take_of_length_le (by simp [incK_length])]
      simp [encF]
     ·show List.take (t.length + 1) (List.drop 0 R) ++ [[.int .i64 (↑(fs.length + 1) - 1)]] = _
      rw [hR1, List.drop_zero, show t.length + 1 = ((a :: t).reverse.map encI).length by simp, List.take_left]
      simp [encI]
   ·have hq : ¬ (wi (ns.getD i 0) 8).tmod 5 = 0 := by first | assumption | exact of_decide_eq_false (by assumption) | exact fun h => absurd (decide_eq_true h) (by assumption)
    obtain ⟨g1, g2, g3, g4, g5, g6⟩ := inv_step hrun hlen hkid (by omega) (by omega) hk0 hp hop1 hol2 ((wi (ns.getD i 0) 8).tmod 5) (by rw [kindM, if_neg (fun h => hq h.2)]) (a :: t) (by rw [if_neg hq]) _ rfl
    refine ⟨_, mSt ns (i + 1) (incK fs a.toNat ++ [⟨nmM i, wi (wr .i64 ((ns.getD i 0).tdiv 8)) 3, (wi (ns.getD i 0) 8).tmod 5, 0⟩]) (a :: t).length (R), reb_num [2 + 19 * RR + 3, 1] (by kernel_rfl) ?_ ?_, ⟨i + 1, _, a :: t, _, j1, _, ⟨rfl, by omega, g1, g2, rfl, g3, g4, g5, g6, hR1, hj1⟩, rfl⟩, by omega⟩
    ·exact ⟨.refl _, wk_slc (by rw [g2, hlen]), wk_slc rfl, wk_int (by omega), trivial⟩
    ·refine ⟨⟨by decide, _, rfl, wkB_eq ?_ (fF _)⟩, ⟨by decide, _, rfl, wkB_eq ?_ hfR⟩, trivial⟩
     ·show List.take fs.length (List.drop 0 ((fs.map encF).set (0 + (asI ((R.getD (0 + ((↑(t.length + 1) : Int) - 1).toNat) []).getD 0 .any)).toNat) (splice ((fs.map encF).getD (0 + (asI ((R.getD (0 + ((↑(t.length + 1) : Int) - 1).toNat) []).getD 0 .any)).toNat) []) (0 + 3) [.int .i64 (asI (((fs.map encF).getD (0 + (asI ((R.getD (0 + ((↑(t.length + 1) : Int) - 1).toNat) []).getD 0 .any)).toNat) []).getD (0 + 3) .any) + 1)]))) ++ [[.str (bytesOf [[.int .u8 (wr .u8 (97 + (i : Int)))]]), .int .i64 (wi (wr .i64 ((ns.getD i 0).tdiv 8)) 3), .int .i64 ((wi (ns.getD i 0) 8).tmod 5), .int .i64 0]] = _
      simp only [hx1, hx2, encI_0, asI_int]
      rw [hx3, nm_eq i (by omega), show splice (encF (fs.getD a.toNat default)) (0 + 3) [.int .i64 (asI ((encF (fs.getD a.toNat default)).getD (0 + 3) .any) + 1)] = [.str (fs.getD a.toNat default).name, .int .i64 (fs.getD a.toNat default).rep, .int .i64 (fs.getD a.toNat default).kind, .int .i64 ((fs.getD a.toNat default).kids + 1)] from rfl, Nat.zero_add, incK_map (by omega), List.drop_zero, List.take_of_length_le (by simp [incK_length])]
      simp [encF]
     ·rfl
  ·skip
   repeat' (first | (refine And.intro ?_ ?_) | (intro h; try simp only [decide_eq_true_eq, decide_eq_false_iff_not, Int.not_lt, Int.not_le, Int.toNat_natCast, ↓reduceIte, Nat.reduceAdd, reduceCtorEq, Int.reduceLT, Int.lt_irrefl, gt_iff_lt, not_true_eq_false, not_false_eq_true, Bool.not_true, Bool.not_false, decide_false, decide_true, Int.reduceLE, Int.reduceSub, Bool.false_eq_true, Bool.true_eq_false, Nat.reduceEqDiff, Nat.one_ne_zero, Nat.reduceLT, and_self, and_true, true_and, Int.natCast_zero, Int.cast_ofNat_Int, List.length_nil, ne_eq, Decidable.not_not, hx1, hx2, hx3, asI_int, encI_0, encF_3, encF_03] at h))
   all_goals (try first | exact PlanIs.mk (by kernel_rfl) | omega | exact rfl | exact Nat.le_of_ble_eq_true rfl | (show (_ : Int) ≤ (_ : Int); simp only [hx1, hx2, hx3, asI_int, encI_0, encF_3, encF_03, encF_len, List.length_set, List.length_map, hRl]; omega) | (show (_ : Int) < (_ : Int); simp only [hx1, hx2, hx3, asI_int, encI_0, encF_3, encF_03, encF_len, List.length_set, List.length_map, hRl]; omega) | (show (_ : Nat) ≤ (_ : Nat); simp only [hx1, hx2, hx3, asI_int, encI_0, encF_3, encF_03, encF_len, List.length_set, List.length_map, hRl]; omega) | (show isC _ _ _ = true; simp only [hx1, hx2, hx3, asI_int, encI_0, encF_3, encF_03, encF_len, List.length_set, List.length_map, hRl]; exact rfl))
   all_goals refine ⟨_, 8, rfl, by omega, ?_⟩
   repeat' (first | (refine And.intro ?_ ?_) | (intro h; try simp only [decide_eq_true_eq, decide_eq_false_iff_not, Int.not_lt, Int.not_le, Int.toNat_natCast, ↓reduceIte, Nat.reduceAdd, reduceCtorEq, Int.reduceLT, Int.lt_irrefl, gt_iff_lt, not_true_eq_false, not_false_eq_true, Bool.not_true, Bool.not_false, decide_false, decide_true, Int.reduceLE, Int.reduceSub, Bool.false_eq_true, Bool.true_eq_false, Nat.reduceEqDiff, Nat.one_ne_zero, Nat.reduceLT, and_self, and_true, true_and, Int.natCast_zero, Int.cast_ofNat_Int, List.length_nil, ne_eq, Decidable.not_not, hx1, hx2, hx3, asI_int, encI_0, encF_3, encF_03] at h))
   all_goals (try first | exact PlanIs.mk (by kernel_rfl) | omega | exact rfl | exact Nat.le_of_ble_eq_true rfl | (show (_ : Int) ≤ (_ : Int); simp only [hx1, hx2, hx3, asI_int, encI_0, encF_3, encF_03, encF_len, List.length_set, List.length_map, hRl]; omega) | (show (_ : Int) < (_ : Int); simp only [hx1, hx2, hx3, asI_int, encI_0, encF_3, encF_03, encF_len, List.length_set, List.length_map, hRl]; omega) | (show (_ : Nat) ≤ (_ : Nat); simp only [hx1, hx2, hx3, asI_int, encI_0, encF_3, encF_03, encF_len, List.length_set, List.length_map, hRl]; omega) | (show isC _ _ _ = true; simp only [hx1, hx2, hx3, asI_int, encI_0, encF_3, encF_03, encF_len, List.length_set, List.length_map, hRl]; exact rfl))
   ·exact absurd (show (2 : Int) = 0 from by assumption) (by decide)
   ·have hq : (wi (ns.getD i 0) 8).tmod 5 = 0 := by first | assumption | exact of_decide_eq_true (by assumption)
    obtain ⟨g1, g2, g3, g4, g5, g6⟩ := inv_step hrun hlen hkid (by omega) (by omega) hk0 hp hop1 hol2 2 (by rw [kindM, if_pos ⟨by rw [List.length_cons]; omega, hq⟩]) (a :: t) (by first | rfl | (rw [if_neg ‹_›])) _ rfl
    refine ⟨_, mSt ns (i + 1) (incK fs a.toNat ++ [⟨nmM i, wi (wr .i64 ((ns.getD i 0).tdiv 8)) 3, 2, 0⟩]) (a :: t).length (R), reb_num [2 + 19 * RR + 4, 1] (by kernel_rfl) ?_ ?_, ⟨i + 1, _, a :: t, _, j1, _, ⟨rfl, by omega, g1, g2, rfl, g3, g4, g5, g6, hR1, hj1⟩, rfl⟩, by omega⟩
    ·exact ⟨.refl _, wk_slc (by rw [g2, hlen]), wk_slc rfl, wk_int (by omega), trivial⟩
    ·refine ⟨⟨by decide, _, rfl, wkB_eq ?_ (fF _)⟩, ⟨by decide, _, rfl, wkB_eq ?_ hfR⟩, trivial⟩
     ·show List.take fs.length (List.drop 0 ((fs.map encF).set (0 + (asI ((R.getD (0 + ((↑(t.length + 1) : Int) - 1).toNat) []).getD 0 .any)).toNat) (splice ((fs.map encF).getD (0 + (asI ((R.getD (0 + ((↑(t.length + 1) : Int) - 1).toNat) []).getD 0 .any)).toNat) []) (0 + 3) [.int .i64 (asI (((fs.map encF).getD (0 + (asI ((R.getD (0 + ((↑(t.length + 1) : Int) - 1).toNat) []).getD 0 .any)).toNat) []).getD (0 + 3) .any) + 1)]))) ++ [[.str (bytesOf [[.int .u8 (wr .u8 (97 + (i : Int)))]]), .int .i64 (wi (wr .i64 ((ns.getD i 0).tdiv 8)) 3), .int .i64 (2), .int .i64 0]] = _
      simp only [hx1, hx2, encI_0, asI_int]
      rw [hx3, nm_eq i (by omega), show splice (encF (fs.getD a.toNat default)) (0 + 3) [.int .i64 (asI ((encF (fs.getD a.toNat default)).getD (0 + 3) .any) + 1)] = [.str (fs.getD a.toNat default).name, .int .i64 (fs.getD a.toNat default).rep, .int .i64 (fs.getD a.toNat default).kind, .int .i64 ((fs.getD a.toNat default).kids + 1)] from rfl, Nat.zero_add, incK_map (by omega), List.drop_zero, List.take_of_length_le (by simp [incK_length])]
      simp [encF]
     ·rfl
   ·exact absurd (of_decide_eq_true (p := (wi (ns.getD i 0) 8).tmod 5 = 0) (by assumption)) (of_decide_eq_false (p := (wi (ns.getD i 0) 8).tmod 5 = 0) (by assumption))
   ·have hq : ¬ (wi (ns.getD i 0) 8).tmod 5 = 0 := by first | assumption | exact of_decide_eq_false (by assumption) | exact fun h => absurd (decide_eq_true h) (by assumption)
    obtain ⟨g1, g2, g3, g4, g5, g6⟩ := inv_step hrun hlen hkid (by omega) (by omega) hk0 hp hop1 hol2 ((wi (ns.getD i 0) 8).tmod 5) (by rw [kindM, if_neg (fun h => hq h.2)]) (a :: t) (by rw [if_neg hq]) _ rfl
    refine ⟨_, mSt ns (i + 1) (incK fs a.toNat ++ [⟨nmM i, wi (wr .i64 ((ns.getD i 0).tdiv 8)) 3, (wi (ns.getD i 0) 8).tmod 5, 0⟩]) (a :: t).length (R), reb_num [2 + 19 * RR + 3, 1] (by kernel_rfl) ?_ ?_, ⟨i + 1, _, a :: t, _, j1, _, ⟨rfl, by omega, g1, g2, rfl, g3, g4, g5, g6, hR1, hj1⟩, rfl⟩, by omega⟩
    ·exact ⟨.refl _, wk_slc (by rw [g2, hlen]), wk_slc rfl, wk_int (by omega), trivial⟩
    ·refine ⟨⟨by decide, _, rfl, wkB_eq ?_ (fF _)⟩, ⟨by decide, _, rfl, wkB_eq ?_ hfR⟩, trivial⟩
     ·show List.take fs.length (List.drop 0 ((fs.map encF).set (0 + (asI ((R.getD (0 + ((↑(t.length + 1) : Int) - 1).toNat) []).getD 0 .any)).toNat) (splice ((fs.map encF).getD (0 + (asI ((R.getD (0 + ((↑(t.length + 1) : Int) - 1).toNat) []).getD 0 .any)).toNat) []) (0 + 3) [.int .i64 (asI (((fs.map encF).getD (0 + (asI ((R.getD (0 + ((↑(t.length + 1) : Int) - 1).toNat) []).getD 0 .any)).toNat) []).getD (0 + 3) .any) + 1)]))) ++ [[.str (bytesOf [[.int .u8 (wr .u8 (97 + (i : Int)))]]), .int .i64 (wi (wr .i64 ((ns.getD i 0).tdiv 8)) 3), .int .i64 ((wi (ns.getD i 0) 8).tmod 5), .int .i64 0]] = _
      simp only [hx1, hx2, encI_0, asI_int]
      rw [hx3, nm_eq i (by omega), show splice (encF (fs.getD a.toNat default)) (0 + 3) [.int .i64 (asI ((encF (fs.getD a.toNat default)).getD (0 + 3) .any) + 1)] = [.str (fs.getD a.toNat default).name, .int .i64 (fs.getD a.toNat default).rep, .int .i64 (fs.getD a.toNat default).kind, .int .i64 ((fs.getD a.toNat default).kids + 1)] from rfl, Nat.zero_add, incK_map (by omega), List.drop_zero, List.take_of_length_le (by simp [incK_length])]
      simp [encF]
     ·rfl
   ·have hq : (wi (ns.getD i 0) 8).tmod 5 = 0 := by first | assumption | exact of_decide_eq_true (by assumption)
    obtain ⟨g1, g2, g3, g4, g5, g6⟩ := inv_step hrun hlen hkid (by omega) (by omega) hk0 hp hop1 hol2 ((wi (ns.getD i 0) 8).tmod 5) (by rw [kindM, if_neg (fun h => by simp only [List.length_cons] at h; omega)]) ((fs.length : Int) :: a :: t) (by rw [if_pos hq]) _ rfl
    refine ⟨_, mSt ns (i + 1) (incK fs a.toNat ++ [⟨nmM i, wi (wr .i64 ((ns.getD i 0).tdiv 8)) 3, (wi (ns.getD i 0) 8).tmod 5, 0⟩]) ((fs.length : Int) :: a :: t).length (((fs.length : Int) :: a :: t).reverse.map encI), reb_num [2 + 19 * RR + 3, 2 + 19 * RR + 5] (by kernel_rfl) ?_ ?_, ⟨i + 1, _, (fs.length : Int) :: a :: t, _, [], _, ⟨rfl, by omega, g1, g2, rfl, g3, g4, g5, g6, by simp, flat_nil⟩, rfl⟩, by omega⟩
    ·exact ⟨.refl _, wk_slc (by rw [g2, hlen]), wk_slc rfl, wk_int (by omega), trivial⟩
    ·refine ⟨⟨by decide, _, rfl, wkB_eq ?_ (fF _)⟩, ⟨by decide, _, rfl, wkB_eq ?_ (fI _)⟩, trivial⟩
     ·show List.take fs.length (List.drop 0 ((fs.map encF).set (0 + (asI ((R.getD (0 + ((↑(t.length + 1) : Int) - 1).toNat) []).getD 0 .any)).toNat) (splice ((fs.map encF).getD (0 + (asI ((R.getD (0 + ((↑(t.length + 1) : Int) - 1).toNat) []).getD 0 .any)).toNat) []) (0 + 3) [.int .i64 (asI (((fs.map encF).getD (0 + (asI ((R.getD (0 + ((↑(t.length + 1) : Int) - 1).toNat) []).getD 0 .any)).toNat) []).getD (0 + 3) .any) + 1)]))) ++ [[.str (bytesOf [[.int .u8 (wr .u8 (97 + (i : Int)))]]), .int .i64 (wi (wr .i64 ((ns.getD i 0).tdiv 8)) 3), .int .i64 ((wi (ns.getD i 0) 8).tmod 5), .int .i64 0]] = _
      simp only [hx1, hx2, encI_0, asI_int]
      rw [hx3, nm_eq i (by omega), show splice (encF (fs.getD a.toNat default)) (0 + 3) [.int .i64 (asI ((encF (fs.getD a.toNat default)).getD (0 + 3) .any) + 1)] = [.str (fs.getD a.toNat default).name, .int .i64 (fs.getD a.toNat default).rep, .int .i64 (fs.getD a.toNat default).kind, .int .i64 ((fs.getD a.toNat default).kids + 1)] from rfl, Nat.zero_add, incK_map (by omega), List.drop_zero, List.take_of_length_le (by simp [incK_length])]
      simp [encF]
     ·show List.take (t.length + 1) (List.drop 0 R) ++ [[.int .i64 (↑(fs.length + 1) - 1)]] = _
      rw [hR1, List.drop_zero, show t.length + 1 = ((a :: t).reverse.map encI).length by simp, List.take_left]
      simp [encI]
   ·have hq : ¬ (wi (ns.getD i 0) 8).tmod 5 = 0 := by first | assumption | exact of_decide_eq_false (by assumption) | exact fun h => absurd (decide_eq_true h) (by assumption)
    obtain ⟨g1, g2, g3, g4, g5, g6⟩ := inv_step hrun hlen hkid (by omega) (by omega) hk0 hp hop1 hol2 ((wi (ns.getD i 0) 8).tmod 5) (by rw [kindM, if_neg (fun h => hq h.2)]) (a :: t) (by rw [if_neg hq]) _ rfl
    refine ⟨_, mSt ns (i + 1) (incK fs a.toNat ++ [⟨nmM i, wi (wr .i64 ((ns.getD i 0).tdiv 8)) 3, (wi (ns.getD i 0) 8).tmod 5, 0⟩]) (a :: t).length (R), reb_num [2 + 19 * RR + 3, 1] (by kernel_rfl) ?_ ?_, ⟨i + 1, _, a :: t, _, j1, _, ⟨rfl, by omega, g1, g2, rfl, g3, g4, g5, g6, hR1, hj1⟩, rfl⟩, by omega⟩
    ·exact ⟨.refl _, wk_slc (by rw [g2, hlen]), wk_slc rfl, wk_int (by omega), trivial⟩
    ·refine ⟨⟨by decide, _, rfl, wkB_eq ?_ (fF _)⟩, ⟨by decide, _, rfl, wkB_eq ?_ hfR⟩, trivial⟩
     ·show List.take fs.length (List.drop 0 ((fs.map encF).set (0 + (asI ((R.getD (0 + ((↑(t.length + 1) : Int) - 1).toNat) []).getD 0 .any)).toNat) (splice ((fs.map encF).getD (0 + (asI ((R.getD (0 + ((↑(t.length + 1) : Int) - 1).toNat) []).getD 0 .any)).toNat) []) (0 + 3) [.int .i64 (asI (((fs.map encF).getD (0 + (asI ((R.getD (0 + ((↑(t.length + 1) : Int) - 1).toNat) []).getD 0 .any)).toNat) []).getD (0 + 3) .any) + 1)]))) ++ [[.str (bytesOf [[.int .u8 (wr .u8 (97 + (i : Int)))]]), .int .i64 (wi (wr .i64 ((ns.getD i 0).tdiv 8)) 3), .int .i64 ((wi (ns.getD i 0) 8).tmod 5), .int .i64 0]] = _
      simp only [hx1, hx2, encI_0, asI_int]
      rw [hx3, nm_eq i (by omega), show splice (encF (fs.getD a.toNat default)) (0 + 3) [.int .i64 (asI ((encF (fs.getD a.toNat default)).getD (0 + 3) .any) + 1)] = [.str (fs.getD a.toNat default).name, .int .i64 (fs.getD a.toNat default).rep, .int .i64 (fs.getD a.toNat default).kind, .int .i64 ((fs.getD a.toNat default).kids + 1)] from rfl, Nat.zero_add, incK_map (by omega), List.drop_zero, List.take_of_length_le (by simp [incK_length])]
      simp [encF]
     ·rfl
 ·have hend : makeF ns = endM fs op := by rw [makeF, ← hrun, runM_stop (by omega)]
  have h0 : (fs.getD (topM op).toNat default).kids = 0 := by assumption
  have hE : endM fs op = incK fs (topM op).toNat ++ [⟨[122], 0, 4, 0⟩] := by rw [endM, if_pos h0]
  have hl : (endM fs op).length = fs.length + 1 := by rw [hE]; simp [incK_length]
  have heq : List.take fs.length (List.drop 0 ((fs.map encF).set (0 + (asI ((R.getD (0 + ((↑op.length : Int) - 1).toNat) []).getD 0 .any)).toNat) (splice ((fs.map encF).getD (0 + (asI ((R.getD (0 + ((↑op.length : Int) - 1).toNat) []).getD 0 .any)).toNat) []) (0 + 3) [.int .i64 (asI (((fs.map encF).getD (0 + (asI ((R.getD (0 + ((↑op.length : Int) - 1).toNat) []).getD 0 .any)).toNat) []).getD (0 + 3) .any) + 1)]))) ++ [[.str [122], .int .i64 0, .int .i64 4, .int .i64 0]] = (endM fs op).map encF := by
   rw [hE, hx2]
   simp only [encI_0, asI_int]
   rw [hx3, show splice (encF (fs.getD (topM op).toNat default)) (0 + 3) [.int .i64 (asI ((encF (fs.getD (topM op).toNat default)).getD (0 + 3) .any) + 1)] = [.str (fs.getD (topM op).toNat default).name, .int .i64 (fs.getD (topM op).toNat default).rep, .int .i64 (fs.getD (topM op).toNat default).kind, .int .i64 ((fs.getD (topM op).toNat default).kids + 1)] from rfl, Nat.zero_add, incK_map (by omega), List.drop_zero, List.take_of_length_le (by simp [incK_length])]
   simp [encF]
  refine ⟨_, reb_own (enc := encF) (k := 2) (rows := List.take fs.length (List.drop 0 ((fs.map encF).set (0 + (asI ((R.getD (0 + ((↑op.length : Int) - 1).toNat) []).getD 0 .any)).toNat) (splice ((fs.map encF).getD (0 + (asI ((R.getD (0 + ((↑op.length : Int) - 1).toNat) []).getD 0 .any)).toNat) []) (0 + 3) [.int .i64 (asI (((fs.map encF).getD (0 + (asI ((R.getD (0 + ((↑op.length : Int) - 1).toNat) []).getD 0 .any)).toNat) []).getD (0 + 3) .any) + 1)]))) ++ [[.str [122], .int .i64 0, .int .i64 4, .int .i64 0]]) default (l := endM fs op) rfl rfl (by rw [heq]; exact fF _) ?_ ?_, _, rfl, ?_, rfl⟩
  ·rw [heq]; show List.take (fs.length + 1) _ = _; exact List.take_of_length_le (by simp [hl])
  ·rw [heq]; show fs.length + 1 ≤ _; simp [hl]
  ·rw [hend]; rfl
 ·have hend : makeF ns = endM fs op := by rw [makeF, ← hrun, runM_stop (by omega)]
  have h0 : ¬ (fs.getD (topM op).toNat default).kids = 0 := by assumption
  have hE : endM fs op = fs := by rw [endM, if_neg h0]
  refine ⟨_, reb_own (enc := encF) (k := 2) (rows := fs.map encF) default (l := fs) rfl rfl (fF fs) ?_ ?_, _, rfl, ?_, rfl⟩
  ·show List.take fs.length _ = _; exact List.take_of_length_le (by simp)
  ·show fs.length ≤ _; simp
  ·rw [hend, hE]; rfl
 ·have hend : makeF ns = endM fs op := by rw [makeF, ← hrun, runM_stop (by omega)]
  have h0 : (fs.getD (topM op).toNat default).kids = 0 := by assumption
  have hE : endM fs op = incK fs (topM op).toNat ++ [⟨[122], 0, 4, 0⟩] := by rw [endM, if_pos h0]
  have hl : (endM fs op).length = fs.length + 1 := by rw [hE]; simp [incK_length]
  have heq : List.take fs.length (List.drop 0 ((fs.map encF).set (0 + (asI ((R.getD (0 + ((↑op.length : Int) - 1).toNat) []).getD 0 .any)).toNat) (splice ((fs.map encF).getD (0 + (asI ((R.getD (0 + ((↑op.length : Int) - 1).toNat) []).getD 0 .any)).toNat) []) (0 + 3) [.int .i64 (asI (((fs.map encF).getD (0 + (asI ((R.getD (0 + ((↑op.length : Int) - 1).toNat) []).getD 0 .any)).toNat) []).getD (0 + 3) .any) + 1)]))) ++ [[.str [122], .int .i64 0, .int .i64 4, .int .i64 0]] = (endM fs op).map encF := by
   rw [hE, hx2]
   simp only [encI_0, asI_int]
   rw [hx3, show splice (encF (fs.getD (topM op).toNat default)) (0 + 3) [.int .i64 (asI ((encF (fs.getD (topM op).toNat default)).getD (0 + 3) .any) + 1)] = [.str (fs.getD (topM op).toNat default).name, .int .i64 (fs.getD (topM op).toNat default).rep, .int .i64 (fs.getD (topM op).toNat default).kind, .int .i64 ((fs.getD (topM op).toNat default).kids + 1)] from rfl, Nat.zero_add, incK_map (by omega), List.drop_zero, List.take_of_length_le (by simp [incK_length])]
   simp [encF]
  refine ⟨_, reb_own (enc := encF) (k := 2) (rows := List.take fs.length (List.drop 0 ((fs.map encF).set (0 + (asI ((R.getD (0 + ((↑op.length : Int) - 1).toNat) []).getD 0 .any)).toNat) (splice ((fs.map encF).getD (0 + (asI ((R.getD (0 + ((↑op.length : Int) - 1).toNat) []).getD 0 .any)).toNat) []) (0 + 3) [.int .i64 (asI (((fs.map encF).getD (0 + (asI ((R.getD (0 + ((↑op.length : Int) - 1).toNat) []).getD 0 .any)).toNat) []).getD (0 + 3) .any) + 1)]))) ++ [[.str [122], .int .i64 0, .int .i64 4, .int .i64 0]]) default (l := endM fs op) rfl rfl (by rw [heq]; exact fF _) ?_ ?_, _, rfl, ?_, rfl⟩
  ·rw [heq]; show List.take (fs.length + 1) _ = _; exact List.take_of_length_le (by simp [hl])
  ·rw [heq]; show fs.length + 1 ≤ _; simp [hl]
  ·rw [hend]; rfl
 ·have hend : makeF ns = endM fs op := by rw [makeF, ← hrun, runM_stop (by omega)]
  have h0 : ¬ (fs.getD (topM op).toNat default).kids = 0 := by assumption
  have hE : endM fs op = fs := by rw [endM, if_neg h0]
  refine ⟨_, reb_own (enc := encF) (k := 2) (rows := fs.map encF) default (l := fs) rfl rfl (fF fs) ?_ ?_, _, rfl, ?_, rfl⟩
  ·show List.take fs.length _ = _; exact List.take_of_length_le (by simp)
  ·show fs.length ≤ _; simp
  ·rw [hend, hE]; rfl
end Go.Proofs.Ytajieadpaeggcaa

end
section
set_option linter.unusedVariables false
set_option linter.unusedSimpArgs false
namespace Go.Proofs.Ytajieadpaeggcaa
open Go Go.Av
theorem asS_str (s : List UInt8) : asS (.str s) = s := rfl
theorem asB_bool (b : Bool) : asB (.bool b) = b := rfl
theorem encI_00 (a : Int) : (encI a).getD (0 + 0) .any = .int .i64 a := rfl
theorem encF_0 (f : Fd) : (encF f).getD 0 .any = .str f.name := rfl
theorem encF_1 (f : Fd) : (encF f).getD 1 .any = .int .i64 f.rep := rfl
theorem encF_2 (f : Fd) : (encF f).getD 2 .any = .int .i64 f.kind := rfl
theorem encF_00 (f : Fd) : (encF f).getD (0 + 0) .any = .str f.name := rfl
theorem encF_01 (f : Fd) : (encF f).getD (0 + 1) .any = .int .i64 f.rep := rfl
theorem encF_02 (f : Fd) : (encF f).getD (0 + 2) .any = .int .i64 f.kind := rfl
theorem encL_0 (l : Lf) : (encL l).getD 0 .any = .int .i64 l.field := rfl
theorem encL_1 (l : Lf) : (encL l).getD 1 .any = .int .i64 l.r := rfl
theorem encL_2 (l : Lf) : (encL l).getD 2 .any = .int .i64 l.d := rfl
theorem encL_3 (l : Lf) : (encL l).getD 3 .any = .int .i64 l.kind := rfl
theorem encL_00 (l : Lf) : (encL l).getD (0 + 0) .any = .int .i64 l.field := rfl
theorem encL_01 (l : Lf) : (encL l).getD (0 + 1) .any = .int .i64 l.r := rfl
theorem encL_02 (l : Lf) : (encL l).getD (0 + 2) .any = .int .i64 l.d := rfl
theorem encL_03 (l : Lf) : (encL l).getD (0 + 3) .any = .int .i64 l.kind := rfl
theorem encI_len (a : Int) : (encI a).length = 1 := rfl
/-- What is read of rows, at once. -/
theorem sg : (∀ (k : IntKind) (n : Int), asI (.int k n) = n) ∧ (∀ s, asS (.str s) = s) ∧ (∀ b, asB (.bool b) = b) ∧ (∀ a, (encI a).getD 0 .any = .int .i64 a) ∧ (∀ a, (encI a).getD (0 + 0) .any = .int .i64 a) ∧
 (∀ f, (encF f).getD 0 .any = .str f.name) ∧ (∀ f, (encF f).getD 1 .any = .int .i64 f.rep) ∧ (∀ f, (encF f).getD 2 .any = .int .i64 f.kind) ∧ (∀ f, (encF f).getD 3 .any = .int .i64 f.kids) ∧
 (∀ f, (encF f).getD (0 + 0) .any = .str f.name) ∧ (∀ f, (encF f).getD (0 + 1) .any = .int .i64 f.rep) ∧ (∀ f, (encF f).getD (0 + 2) .any = .int .i64 f.kind) ∧ (∀ f, (encF f).getD (0 + 3) .any = .int .i64 f.kids) ∧
 (∀ l, (encL l).getD 0 .any = .int .i64 l.field) ∧ (∀ l, (encL l).getD 1 .any = .int .i64 l.r) ∧ (∀ l, (encL l).getD 2 .any = .int .i64 l.d) ∧ (∀ l, (encL l).getD 3 .any = .int .i64 l.kind) ∧
 (∀ l, (encL l).getD (0 + 0) .any = .int .i64 l.field) ∧ (∀ l, (encL l).getD (0 + 1) .any = .int .i64 l.r) ∧ (∀ l, (encL l).getD (0 + 2) .any = .int .i64 l.d) ∧ (∀ l, (encL l).getD (0 + 3) .any = .int .i64 l.kind) ∧
 (∀ n : Nat, 0 + n = n) ∧ (∀ n : Nat, n + 0 = n) ∧ (∀ n : Nat, ((n : Nat) : Int).toNat = n) ∧ ((0 : Int).toNat = 0) ∧
 (∀ (x d : AVal) (l : List AVal), (x :: l).getD 0 d = x) ∧ (∀ (x d : AVal) (l : List AVal) (n : Nat), (x :: l).getD (n + 1) d = l.getD n d) ∧ (∀ (x d : List AVal) (l : List (List AVal)), (x :: l).getD 0 d = x) ∧ (∀ (x d : List AVal) (l : List (List AVal)) (n : Nat), (x :: l).getD (n + 1) d = l.getD n d) :=
 ⟨fun _ _ => rfl, fun _ => rfl, fun _ => rfl, fun _ => rfl, fun _ => rfl, fun _ => rfl, fun _ => rfl, fun _ => rfl, fun _ => rfl, fun _ => rfl, fun _ => rfl, fun _ => rfl, fun _ => rfl, fun _ => rfl, fun _ => rfl, fun _ => rfl, fun _ => rfl, fun _ => rfl, fun _ => rfl, fun _ => rfl, fun _ => rfl,
  Nat.zero_add, Nat.add_zero, Int.toNat_natCast, Int.toNat_zero, fun _ _ _ => rfl, fun _ _ _ _ => rfl, fun _ _ _ => rfl, fun _ _ _ _ => rfl⟩
/-- What tests say, at once. -/
theorem sx : (∀ (p : Prop) [Decidable p], (decide p = true) = p) ∧ (∀ (p : Prop) [Decidable p], (decide p = false) = ¬p) ∧ (∀ a b : Int, (¬a < b) = (b ≤ a)) ∧ (∀ a b : Int, (¬a ≤ b) = (b < a)) ∧ (∀ n : Nat, ((n : Nat) : Int).toNat = n) ∧ (∀ a : Int, (a < a) = False) ∧
 (∀ a b : Int, (a > b) = (b < a)) ∧ (∀ a b : Nat, (a > b) = (b < a)) ∧ ((¬True) = False) ∧ ((¬False) = True) ∧ ((!true) = false) ∧ ((!false) = true) ∧ (decide False = false) ∧ (decide True = true) ∧ ((false = true) = False) ∧ ((true = false) = False) ∧ ((1 : Nat) = 0) = False ∧
 (∀ p : Prop, (p ∧ p) = p) ∧ (∀ p : Prop, (p ∧ True) = p) ∧ (∀ p : Prop, (True ∧ p) = p) ∧ (((0 : Nat) : Int) = 0) ∧ (∀ α : Type, ([] : List α).length = 0) ∧ (∀ (α : Type) (a b : α), (a ≠ b) = ¬(a = b)) ∧ (∀ (p : Prop) [Decidable p], (¬¬p) = p) ∧
 (∀ b : Bool, ((!b) = true) = (b = false)) ∧ (∀ b : Bool, ((!b) = false) = (b = true)) ∧ (∀ (α β : Type) (f : α → β) (l : List α), (l.map f).length = l.length) := by
 refine ⟨fun p _ => decide_eq_true_eq, fun p _ => propext decide_eq_false_iff_not, fun a b => propext Int.not_lt, fun a b => propext Int.not_le, Int.toNat_natCast, fun a => eq_false (Int.lt_irrefl a), fun a b => rfl, fun a b => rfl, not_true_eq_false, not_false_eq_true, rfl, rfl, rfl, rfl, by simp, by simp, by simp, and_self, and_true, true_and, rfl, fun _ => rfl, fun _ _ _ => rfl, fun p _ => propext Decidable.not_not, fun b => by cases b <;> simp, fun b => by cases b <;> simp, fun _ _ f l => List.length_map ..⟩
/-- What closes a small condition. -/
theorem cz {P : Prop} (h : P := by first | ((with_reducible refine PlanIs.mk ?_); kernel_rfl) | ((with_reducible refine NoSel.mk ?_); kernel_rfl) | ((with_reducible refine Apart.mk ?_); kernel_rfl) | ((with_reducible first | show (_ : Nat) ≤ _ | show (_ : Nat) < _); first | omega | (simp only [sg, List.length_map]; omega) | exact Nat.le_of_ble_eq_true rfl) | ((with_reducible first | show (_ : Int) ≤ _ | show (_ : Int) < _); first | omega | (simp only [sg, List.length_map]; omega)) | ((with_reducible show _ = _); exact rfl)) : P := h
/-- What cannot be. -/
theorem nz {p q : Prop} (h : p) (k : ¬p := by omega) : q := absurd h k
/-- A test, taken in: by itself it cannot be; or in short. -/
theorem dz {q : Prop} (e : q := by (try first | replace h := of_decide_eq_true h | replace h := of_decide_eq_false h); (try simp only [sg] at h); (try simp only [sx, ↓reduceIte, Nat.reduceAdd, reduceCtorEq, Int.reduceLT, Int.reduceLE, Int.reduceSub, Nat.reduceEqDiff, Nat.reduceLT] at h); first | done | exact nz h) : q := e
theorem cv {q : Prop} (e : q := by (try first | replace h := of_decide_eq_true h | replace h := of_decide_eq_false h); (try simp only [sg] at h); (try simp only [sx, ↓reduceIte, Nat.reduceAdd, reduceCtorEq, Int.reduceLT, Int.reduceLE, Int.reduceSub, Nat.reduceEqDiff, Nat.reduceLT] at h); exact h) : q := e
theorem dzh {q : Prop} (e : q := by (try first | replace h := of_decide_eq_true h | replace h := of_decide_eq_false h); (try simp only [sg, hx1] at h); (try simp only [sx, ↓reduceIte, Nat.reduceAdd, reduceCtorEq, Int.reduceLT, Int.reduceLE, Int.reduceSub, Nat.reduceEqDiff, Nat.reduceLT] at h); first | done | exact nz h) : q := e
theorem cvh {q : Prop} (e : q := by (try first | replace h := of_decide_eq_true h | replace h := of_decide_eq_false h); (try simp only [sg, hx1] at h); (try simp only [sx, ↓reduceIte, Nat.reduceAdd, reduceCtorEq, Int.reduceLT, Int.reduceLE, Int.reduceSub, Nat.reduceEqDiff, Nat.reduceLT] at h); exact h) : q := e
theorem dzi {q : Prop} (e : q := by (try first | replace h := of_decide_eq_true h | replace h := of_decide_eq_false h); (try simp only [sg, hx1, hx2, hx3, hx4] at h); (try simp only [sx, ↓reduceIte, Nat.reduceAdd, reduceCtorEq, Int.reduceLT, Int.reduceLE, Int.reduceSub, Nat.reduceEqDiff, Nat.reduceLT] at h); first | done | exact nz h) : q := e
theorem cvi {q : Prop} (e : q := by (try first | replace h := of_decide_eq_true h | replace h := of_decide_eq_false h); (try simp only [sg, hx1, hx2, hx3, hx4] at h); (try simp only [sx, ↓reduceIte, Nat.reduceAdd, reduceCtorEq, Int.reduceLT, Int.reduceLE, Int.reduceSub, Nat.reduceEqDiff, Nat.reduceLT] at h); exact h) : q := e
end Go.Proofs.Ytajieadpaeggcaa

end
section
set_option linter.unusedVariables false
set_option linter.unusedSimpArgs false
namespace Go.Proofs.Ytajieadpaeggcaa
open Go Go.Av
set_option maxRecDepth 100000
set_option maxHeartbeats 4000000
def encB (c : UInt8) : List AVal := [.int .u8 c.toNat]
abbrev vB (l : List UInt8) : AVal := vT 1 encB 0 l
theorem fB (l : List UInt8) : flatRows (l.map encB) := flat_map (fun a x hx => by simp [encB] at hx; subst hx; rfl) l
theorem allLen_map {α : Type} {enc : α → List AVal} {z : Nat} (h : ∀ a, (enc a).length = z) (l : List α) : allLen z (l.map enc) = true := by
 have := allLen_cut h l 0 l.length
 rwa [List.drop_zero, List.take_of_length_le (by rw [List.length_map]; exact Nat.le_refl _)] at this
theorem cloneB_pos [Syms] (l : List UInt8) (hl : l.length ≤ 1000000) (h0 : 0 < l.length) :
 fnT noneT noneT (fnTab fns) (tyTab tys) (plTab plt) 100 46 [vB l] [] 0 (fun v H _ => v = vB l ∧ H = []) := by
 intro b hb
 have e := tabR_map encB 0 l
 have el : (tabR l.length fun i => encB (l.getD i 0)).length = l.length := tabR_length _ _
 have hb2 : b = false := hb (fun h => by rw [h] at el; simp at el; omega)
 subst hb2
 refine And.intro (fun h => by cases h) (fun h => ?_)
 refine And.intro (by rw [e]; exact allLen_map (enc := encB) (z := 1) (fun _ => rfl) l) ?_
 refine And.intro ⟨show (0 + (tabR l.length fun i => encB (l.getD i 0)).length) * 1 ≤ _ by omega, by omega⟩ ?_
 refine And.intro (fun h => absurd h (by omega)) (fun h => ?_)
 refine And.intro (Nat.zero_le _) ?_
 refine And.intro (fun h => ?_) (fun h => absurd (show 0 < 0 + _ by omega) h)
 refine ⟨_, reb_own (enc := encB) (k := 2) 0 (l := l) rfl rfl ?_ ?_ ?_, _, rfl, rfl, rfl⟩
 ·show flatRows (tabR l.length fun i => encB (l.getD i 0))
  rw [e]; exact fB l
 ·show List.take (0 + (tabR l.length fun i => encB (l.getD i 0)).length) (tabR l.length fun i => encB (l.getD i 0)) = _
  rw [e]; exact List.take_of_length_le (by omega)
 ·show 0 + (tabR l.length fun i => encB (l.getD i 0)).length ≤ (tabR l.length fun i => encB (l.getD i 0)).length
  omega
theorem cloneB_t [Syms] (l : List UInt8) (hl : l.length ≤ 1000000) :
 fnT noneT noneT (fnTab fns) (tyTab tys) (plTab plt) 100 46 [vB l] [] 0 (fun v H _ => v = vB l ∧ H = []) := by
 cases l with
 | nil =>
   repeat' (first | (refine And.intro ?_ ?_) | (intro h; try first | exact dz | replace h := cv))
   all_goals (try exact cz)
   all_goals exact ⟨_, reb_nil (k := 2) 1 encB 0 rfl, _, rfl, rfl, rfl⟩
 | cons a t => exact cloneB_pos (a :: t) hl (by simp)
end Go.Proofs.Ytajieadpaeggcaa

end
