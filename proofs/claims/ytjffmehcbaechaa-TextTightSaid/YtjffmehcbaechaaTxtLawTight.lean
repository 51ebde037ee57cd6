/-
  The statement TextTight: its walk.
-/
import Derived.Test.YtjffmehcbaechaaTxtPrint
import Derived.Test.YtjffmehcbaechaaTxtRound
import Derived.Test.YtjffmehcbaechaaTxtChk
import Derived.Test.YtjffmehcbaechaaTxtKnown
import Derived.Test.YtjffmehcbaechaaTxtSame
import Derived.Test.YtjffmehcbaechaaSchMakeS
set_option linter.unusedVariables false
set_option linter.unusedSimpArgs false
namespace Go.Proofs.Ytjffmehcbaechaa
open Go Go.Av
set_option maxRecDepth 100000
set_option maxHeartbeats 8000000
/-- A sign that parts words. -/
def Bl (c : UInt8) : Prop := signF c = false ∧ markF c = false ∧ blankF c = true
theorem wgo_blank {c : UInt8} (h : Bl c) (r : List UInt8) (cur : Wd) (acc : List Wd) : wgo (c :: r) cur acc = wgo r [] (flushW cur acc) := by
  rw [wgo, if_neg (by rw [h.1]; decide), if_neg (by rw [h.2.1]; decide), if_pos h.2.2]
theorem wgo_mark {m : UInt8} (h : signF m = false ∧ markF m = true) (r : List UInt8) (cur : Wd) (acc : List Wd) : wgo (m :: r) cur acc = wgo r [] (flushW cur acc ++ [[m]]) := by
  rw [wgo, if_neg (by rw [h.1]; decide), if_pos h.2]
theorem wgo_none {c : UInt8} (h : signF c = false ∧ markF c = false ∧ blankF c = false) (r : List UInt8) (cur : Wd) (acc : List Wd) : wgo (c :: r) cur acc = none := by
  rw [wgo, if_neg (by rw [h.1]; decide), if_neg (by rw [h.2.1]; decide), if_neg (by rw [h.2.2]; decide)]
theorem wgo_under {x y : List UInt8} (h : ∀ cur acc, wgo x cur acc = wgo y cur acc) : ∀ (o : List UInt8) (cur : Wd) (acc : List Wd), wgo (o ++ x) cur acc = wgo (o ++ y) cur acc
  | [], cur, acc => h cur acc
  | d :: o, cur, acc => by
    show wgo (d :: (o ++ x)) cur acc = wgo (d :: (o ++ y)) cur acc
    rw [wgo, wgo]
    split
    · exact wgo_under h o _ _
    · split
      · exact wgo_under h o _ _
      · split
        · exact wgo_under h o _ _
        · rfl
theorem bl_of {c : UInt8} (h : c.toNat = 32 ∨ c.toNat = 10) : Bl c := by
  have e : c = UInt8.ofNat c.toNat := (UInt8.ofNat_toNat).symm
  rcases h with h | h <;> rw [h] at e <;> subst e <;> exact ⟨rfl, rfl, rfl⟩
theorem mk_of {c : UInt8} (h : c.toNat = 123 ∨ c.toNat = 125 ∨ c.toNat = 59) : signF c = false ∧ markF c = true := by
  have e : c = UInt8.ofNat c.toNat := (UInt8.ofNat_toNat).symm
  rcases h with h | h | h <;> rw [h] at e <;> subst e <;> exact ⟨rfl, rfl⟩
def LP (o : List UInt8) : Prop := o.length = 0 ∨ (o.getD (o.length - 1) 0).toNat = 123 ∨ (o.getD (o.length - 1) 0).toNat = 125 ∨ (o.getD (o.length - 1) 0).toNat = 59 ∨ (o.getD (o.length - 1) 0).toNat = 32
def NP (t : List UInt8) (i : Nat) : Prop := i + 1 < t.length ∧ ((t.getD (i + 1) 0).toNat = 123 ∨ (t.getD (i + 1) 0).toNat = 125 ∨ (t.getD (i + 1) 0).toNat = 59)
instance (o : List UInt8) : Decidable (LP o) := by unfold LP; infer_instance
instance (t : List UInt8) (i : Nat) : Decidable (NP t i) := by unfold NP; infer_instance
theorem ti1 (i : Nat) : ((i : Int) + 1).toNat = i + 1 := by omega
theorem ti2 (i : Nat) : ((i : Int) - 1).toNat = i - 1 := by omega
theorem dec_true {p : Prop} [Decidable p] (h : p) : true = decide p := (decide_eq_true h).symm
theorem dec_false {p : Prop} [Decidable p] (h : ¬p) : false = decide p := (decide_eq_false h).symm
theorem dec_iff {p q : Prop} [Decidable p] [Decidable q] (h : q ↔ p) : decide q = decide p := decide_eq_decide.mpr h
theorem ns_of {c : UInt8} (h : c.toNat = 123 ∨ c.toNat = 125 ∨ c.toNat = 59 ∨ c.toNat = 32) : signF c = false := by
  rcases h with h | h | h | h
  · exact (mk_of (Or.inl h)).1
  · exact (mk_of (Or.inr (Or.inl h))).1
  · exact (mk_of (Or.inr (Or.inr h))).1
  · exact (bl_of (Or.inl h)).1
theorem tight_last {o : List UInt8} {c : UInt8} (hL : LP o) (hc : Bl c) (r : List UInt8) : wordsF (o ++ c :: r) = wordsF (o ++ r) := by
  rcases hL with h0 | h1
  · rw [List.length_eq_zero_iff] at h0
    subst h0
    exact wgo_blank hc r [] []
  · have hs := ns_of h1
    cases hr : o.reverse with
    | nil =>
      have : o = [] := List.reverse_eq_nil_iff.mp hr
      subst this
      exact wgo_blank hc r [] []
    | cons d q =>
      have ho : o = q.reverse ++ [d] := by rw [← List.reverse_reverse o, hr, List.reverse_cons]
      have hd : o.getD (o.length - 1) 0 = d := by rw [ho]; simp
      rw [hd] at hs
      have : ∀ cur acc, wgo (d :: c :: r) cur acc = wgo (d :: r) cur acc := fun cur acc => by
        by_cases hm : markF d = true
        · rw [wgo_mark ⟨hs, hm⟩, wgo_mark ⟨hs, hm⟩, wgo_blank hc, flushW, if_pos rfl]
        · by_cases hb : blankF d = true
          · have hd : Bl d := ⟨hs, by simpa using hm, hb⟩
            rw [wgo_blank hd, wgo_blank hd, wgo_blank hc, flushW, if_pos rfl]
          · rw [wgo_none ⟨hs, by simpa using hm, by simpa using hb⟩, wgo_none ⟨hs, by simpa using hm, by simpa using hb⟩]
      have h2 := wgo_under this q.reverse [] []
      rw [ho, List.append_assoc, List.append_assoc]
      exact h2
theorem tight_next {t o : List UInt8} {i : Nat} {c : UInt8} (hN : NP t i) (hc : Bl c) : wordsF (o ++ c :: t.drop (i + 1)) = wordsF (o ++ t.drop (i + 1)) := by
  obtain ⟨h1, h2⟩ := hN
  have hdr : t.drop (i + 1) = t.getD (i + 1) 0 :: t.drop (i + 2) := by rw [List.drop_eq_getElem_cons h1]; simp [h1]
  rw [hdr]
  have hm := mk_of h2
  refine wgo_under (fun cur acc => ?_) o [] []
  rw [wgo_blank hc, wgo_mark hm, wgo_mark hm, flushW, if_pos rfl]
theorem tight_blank {o : List UInt8} {c : UInt8} (hc : Bl c) (r : List UInt8) : wordsF (o ++ [32] ++ r) = wordsF (o ++ c :: r) := by
  rw [List.append_assoc]
  refine wgo_under (fun cur acc => ?_) o [] []
  show wgo (32 :: r) cur acc = _
  rw [wgo_blank hc, wgo_blank ⟨rfl, rfl, rfl⟩]
abbrev cTT : CallT := pickT 12 (immT S_known6) (pickT 14 (immT S_make) (pickT 13 (immT S_Print) (pickT 16 (immT S_parse) (pickT 18 (immT S_rsame) noneT))))
theorem cTT_ok [Syms] : cTT.ok Try.prog := pickT_imm_ok known6_ok (pickT_imm_ok make_ok' (pickT_imm_ok Print_ok (pickT_imm_ok parse_ok (pickT_imm_ok rsame_ok noneT_ok))))
noncomputable abbrev plTT : Nat → Nat → Pl := plAdd [(8, 10), (8, 11), (8, 12)] (plTab plt)
def ttS (s : List Fd) (t o : List UInt8) (i : Nat) : St := ⟨[(3, vF s), (4, .str t), (5, .str o), (6, .int .i64 i)], [], 0⟩
def ttA (s : List Fd) (t o : List UInt8) (i : Nat) (b : Bool) : St := ⟨[(7, .int .u8 (t.getD i 0).toNat), (8, .bool b), (3, vF s), (4, .str t), (5, .str o), (6, .int .i64 i)], [], 0⟩
def ttB (s : List Fd) (t o : List UInt8) (i : Nat) (b l : Bool) : St := ⟨[(7, .int .u8 (t.getD i 0).toNat), (8, .bool b), (9, .bool l), (3, vF s), (4, .str t), (5, .str o), (6, .int .i64 i)], [], 0⟩
def ttC (s : List Fd) (t o : List UInt8) (i : Nat) (b l n : Bool) : St := ⟨[(7, .int .u8 (t.getD i 0).toNat), (8, .bool b), (9, .bool l), (10, .bool n), (3, vF s), (4, .str t), (5, .str o), (6, .int .i64 i)], [], 0⟩
theorem ltight_t [Syms] (ns : List Int) (hn : ns.length ≤ 9223372036854775807) :
    fnT noneT cTT (fnTab fns) (tyTab tys) plTT 100 8 [vI ns] [] 0 (fun v H _ => v = .bool true ∧ H = []) := by
  repeat' (first | (refine And.intro ?_ ?_) | (intro h; (try first | replace h := of_decide_eq_true h | replace h := of_decide_eq_false h); (try simp only [sg] at h); (try simp only [sx, ↓reduceIte, Nat.reduceAdd, reduceCtorEq, Int.reduceLT, Int.reduceLE, Int.reduceSub, Nat.reduceEqDiff, Nat.reduceLT] at h); try exact nz h))
  all_goals (try exact cz)
  refine ⟨ns, rfl, hn, ?_⟩
  obtain ⟨t, hp⟩ := make_round ns
  have hml := make_len ns
  have hck := make_check ns
  have htl := hp.pr.len
  generalize makeF ns = s at *
  repeat' (first | (refine And.intro ?_ ?_) | (intro h; (try first | replace h := of_decide_eq_true h | replace h := of_decide_eq_false h); (try simp only [sg] at h); (try simp only [sx, ↓reduceIte, Nat.reduceAdd, reduceCtorEq, Int.reduceLT, Int.reduceLE, Int.reduceSub, Nat.reduceEqDiff, Nat.reduceLT] at h); try exact nz h))
  all_goals (try exact cz)
  refine ⟨s, 9, s.length, t, rfl, ⟨hp.pr.pr, by decide, hp.pr.ok, by omega⟩, ?_⟩
  have htl : t.length ≤ 896 := by omega
  repeat' (first | (refine And.intro ?_ ?_) | (intro h; (try first | replace h := of_decide_eq_true h | replace h := of_decide_eq_false h); (try simp only [sg] at h); (try simp only [sx, ↓reduceIte, Nat.reduceAdd, reduceCtorEq, Int.reduceLT, Int.reduceLE, Int.reduceSub, Nat.reduceEqDiff, Nat.reduceLT] at h); try exact nz h))
  all_goals (try exact cz)
  refine ⟨fun m st => ∃ (i : Nat) (o : List UInt8), (i ≤ t.length ∧ m = t.length - i ∧ o.length ≤ i ∧ wordsF (o ++ t.drop i) = wordsF t) ∧ st = ttS s t o i, ⟨_, ttS s t [] 0, reb_flat [3, 4, 5, 6] rfl, 0, [], ⟨by omega, rfl, by simp, rfl⟩, rfl⟩, ?_⟩
  rintro m st ⟨i, o, ⟨hi, rfl, hol, hwo⟩, rfl⟩
  by_cases hin : i < t.length
  · have hdr : t.drop i = t.getD i 0 :: t.drop (i + 1) := by rw [List.drop_eq_getElem_cons hin]; simp [hin]
    have hln : o.length + (List.take (((i : Int) + 1).toNat - (i : Int).toNat) (List.drop (i : Int).toNat t)).length ≤ 9223372036854775807 := by
      simp only [List.length_take, List.length_drop]; omega
    have htk : List.take (((i : Int) + 1).toNat - (i : Int).toNat) (List.drop (i : Int).toNat t) = [t.getD i 0] := by
      rw [show ((i : Int) + 1).toNat - (i : Int).toNat = 1 by omega, Int.toNat_natCast, hdr]; rfl
    have hw2 : wordsF (o ++ List.take (((i : Int) + 1).toNat - (i : Int).toNat) (List.drop (i : Int).toNat t) ++ t.drop (i + 1)) = wordsF t := by
      rw [htk, List.append_assoc]
      show wordsF (o ++ (t.getD i 0 :: t.drop (i + 1))) = wordsF t
      rw [← hdr]; exact hwo
    have hl2 : (o ++ List.take (((i : Int) + 1).toNat - (i : Int).toNat) (List.drop (i : Int).toNat t)).length ≤ i + 1 := by
      rw [htk, List.length_append, List.length_singleton]; omega
    have hwr : wr .i64 ((i : Int) + 1) = (i : Int) + 1 := wr_id (by omega) (by omega)
    have hdrop : Bl (t.getD i 0) → (LP o ∨ NP t i) → wordsF (o ++ t.drop (i + 1)) = wordsF t := fun hc h => by
      rw [← hwo, hdr]
      rcases h with h | h
      · exact (tight_last h hc _).symm
      · exact (tight_next h hc).symm
    have hbl : Bl (t.getD i 0) → wordsF (o ++ [32] ++ t.drop (i + 1)) = wordsF t := fun hc => by
      rw [← hwo, hdr]; exact tight_blank hc _
    have hl3 : (o ++ [32]).length ≤ i + 1 := by rw [List.length_append, List.length_singleton]; omega
    have hl4 : o.length + 1 ≤ 9223372036854775807 := by omega
    by_cases hB : (t.getD i 0).toNat = 32 ∨ (t.getD i 0).toNat = 10
    · replace hdrop := hdrop (bl_of hB)
      replace hbl := hbl (bl_of hB)
      repeat' (first | (refine And.intro ?_ ?_) | (intro h; (try first | replace h := of_decide_eq_true h | replace h := of_decide_eq_false h); (try simp only [sg] at h); (try simp only [sx, ↓reduceIte, Nat.reduceAdd, reduceCtorEq, Int.reduceLT, Int.reduceLE, Int.reduceSub, Nat.reduceEqDiff, Nat.reduceLT] at h); try exact nz h))
      all_goals (try exact cz)
      all_goals
        refine ⟨ttA s t o i true, reb_num [] (by first | rfl | kernel_rfl) ⟨.refl _, wk_bool ?_, .refl _, .refl _, .refl _, .refl _, trivial⟩ trivial, ?_⟩
      all_goals (try ((with_reducible show (_ : Bool) = (_ : Bool)); (try simp only [Int.toNat_natCast] at *); first | rfl | (show decide _ = _; exact decide_eq_true (by omega))))
      all_goals
        repeat' (first | (refine And.intro ?_ ?_) | (intro h; (try first | replace h := of_decide_eq_true h | replace h := of_decide_eq_false h); (try simp only [sg] at h); (try simp only [sx, ↓reduceIte, Nat.reduceAdd, reduceCtorEq, Int.reduceLT, Int.reduceLE, Int.reduceSub, Nat.reduceEqDiff, Nat.reduceLT] at h); try exact nz h))
        all_goals (try exact cz)
      all_goals
        refine ⟨ttB s t o i true (decide (LP o)), reb_num [] (by first | rfl | kernel_rfl) ⟨.refl _, .refl _, wk_bool ?_, .refl _, .refl _, .refl _, .refl _, trivial⟩ trivial, ?_⟩
      all_goals (try ((with_reducible show (_ : Bool) = (_ : Bool)); (try simp only [ti2, Int.toNat_natCast] at *); first
        | exact dec_true (by unfold LP; omega)
        | exact dec_false (by unfold LP; omega)
        | (show decide _ = _; exact dec_iff (by unfold LP; omega))))
      all_goals
        repeat' (first | (refine And.intro ?_ ?_) | (intro h; (try first | replace h := of_decide_eq_true h | replace h := of_decide_eq_false h); (try simp only [sg] at h); (try simp only [sx, ↓reduceIte, Nat.reduceAdd, reduceCtorEq, Int.reduceLT, Int.reduceLE, Int.reduceSub, Nat.reduceEqDiff, Nat.reduceLT] at h); try exact nz h))
        all_goals (try exact cz)
      all_goals (try ((with_reducible show (_ : Nat) < (_ : Nat)); omega))
      all_goals
        refine ⟨ttC s t o i true (decide (LP o)) (decide (NP t i)), reb_num [] (by first | rfl | kernel_rfl) ⟨.refl _, .refl _, .refl _, wk_bool ?_, .refl _, .refl _, .refl _, .refl _, trivial⟩ trivial, ?_⟩
      all_goals (try ((with_reducible show (_ : Bool) = (_ : Bool)); (try simp only [ti1, Int.toNat_natCast] at *); first
        | exact dec_true (by unfold NP; omega)
        | exact dec_false (by unfold NP; omega)
        | (show decide _ = _; exact dec_iff (by unfold NP; omega))))
      all_goals
        repeat' (first | (refine And.intro ?_ ?_) | (intro h; (try first | replace h := of_decide_eq_true h | replace h := of_decide_eq_false h); (try simp only [sg] at h); (try simp only [sx, ↓reduceIte, Nat.reduceAdd, reduceCtorEq, Int.reduceLT, Int.reduceLE, Int.reduceSub, Nat.reduceEqDiff, Nat.reduceLT] at h); try exact nz h))
        all_goals (try exact cz)
      all_goals (try ((with_reducible show (_ : Nat) ≤ (_ : Nat)); first | exact hl4 | exact hln))
      all_goals first
        | exact ⟨t.length - (i + 1), ttS s t o (i + 1), reb_flat [3, 4, 5, 6] rfl, ⟨i + 1, o, ⟨by omega, rfl, by omega, hdrop (by first | exact Or.inl (by assumption) | exact Or.inr (by assumption))⟩, rfl⟩, by omega⟩
        | exact ⟨t.length - (i + 1), ttS s t (o ++ [32]) (i + 1), reb_flat [3, 4, 5, 6] rfl, ⟨i + 1, _, ⟨by omega, rfl, hl3, hbl⟩, rfl⟩, by omega⟩
        | exact ⟨t.length - (i + 1), ttS s t (o ++ List.take (((i : Int) + 1).toNat - (i : Int).toNat) (List.drop (i : Int).toNat t)) (i + 1), reb_flat [3, 4, 5, 6] rfl, ⟨i + 1, _, ⟨by omega, rfl, hl2, hw2⟩, rfl⟩, by omega⟩
    · repeat' (first | (refine And.intro ?_ ?_) | (intro h; (try first | replace h := of_decide_eq_true h | replace h := of_decide_eq_false h); (try simp only [sg] at h); (try simp only [sx, ↓reduceIte, Nat.reduceAdd, reduceCtorEq, Int.reduceLT, Int.reduceLE, Int.reduceSub, Nat.reduceEqDiff, Nat.reduceLT] at h); try exact nz h))
      all_goals (try exact cz)
      all_goals
        refine ⟨ttA s t o i false, reb_num [] (by first | rfl | kernel_rfl) ⟨.refl _, wk_bool ?_, .refl _, .refl _, .refl _, .refl _, trivial⟩ trivial, ?_⟩
      all_goals (try ((with_reducible show (_ : Bool) = (_ : Bool)); (try simp only [Int.toNat_natCast] at *); first | rfl | (show decide _ = _; exact decide_eq_false (by omega))))
      all_goals
        repeat' (first | (refine And.intro ?_ ?_) | (intro h; (try first | replace h := of_decide_eq_true h | replace h := of_decide_eq_false h); (try simp only [sg] at h); (try simp only [sx, ↓reduceIte, Nat.reduceAdd, reduceCtorEq, Int.reduceLT, Int.reduceLE, Int.reduceSub, Nat.reduceEqDiff, Nat.reduceLT] at h); try exact nz h))
        all_goals (try exact cz)
      all_goals
        refine ⟨ttB s t o i false (decide (LP o)), reb_num [] (by first | rfl | kernel_rfl) ⟨.refl _, .refl _, wk_bool ?_, .refl _, .refl _, .refl _, .refl _, trivial⟩ trivial, ?_⟩
      all_goals (try ((with_reducible show (_ : Bool) = (_ : Bool)); (try simp only [ti2, Int.toNat_natCast] at *); first
        | exact dec_true (by unfold LP; omega)
        | exact dec_false (by unfold LP; omega)
        | (show decide _ = _; exact dec_iff (by unfold LP; omega))))
      all_goals
        repeat' (first | (refine And.intro ?_ ?_) | (intro h; (try first | replace h := of_decide_eq_true h | replace h := of_decide_eq_false h); (try simp only [sg] at h); (try simp only [sx, ↓reduceIte, Nat.reduceAdd, reduceCtorEq, Int.reduceLT, Int.reduceLE, Int.reduceSub, Nat.reduceEqDiff, Nat.reduceLT] at h); try exact nz h))
        all_goals (try exact cz)
      all_goals (try ((with_reducible show (_ : Nat) < (_ : Nat)); omega))
      all_goals
        refine ⟨ttC s t o i false (decide (LP o)) (decide (NP t i)), reb_num [] (by first | rfl | kernel_rfl) ⟨.refl _, .refl _, .refl _, wk_bool ?_, .refl _, .refl _, .refl _, .refl _, trivial⟩ trivial, ?_⟩
      all_goals (try ((with_reducible show (_ : Bool) = (_ : Bool)); (try simp only [ti1, Int.toNat_natCast] at *); first
        | exact dec_true (by unfold NP; omega)
        | exact dec_false (by unfold NP; omega)
        | (show decide _ = _; exact dec_iff (by unfold NP; omega))))
      all_goals
        repeat' (first | (refine And.intro ?_ ?_) | (intro h; (try first | replace h := of_decide_eq_true h | replace h := of_decide_eq_false h); (try simp only [sg] at h); (try simp only [sx, ↓reduceIte, Nat.reduceAdd, reduceCtorEq, Int.reduceLT, Int.reduceLE, Int.reduceSub, Nat.reduceEqDiff, Nat.reduceLT] at h); try exact nz h))
        all_goals (try exact cz)
      all_goals (try ((with_reducible show (_ : Nat) ≤ (_ : Nat)); first | exact hln))
      all_goals first
        | (exfalso; omega)
        | exact ⟨t.length - (i + 1), ttS s t (o ++ List.take (((i : Int) + 1).toNat - (i : Int).toNat) (List.drop (i : Int).toNat t)) (i + 1), reb_flat [3, 4, 5, 6] rfl, ⟨i + 1, _, ⟨by omega, rfl, hl2, hw2⟩, rfl⟩, by omega⟩
  · obtain rfl : i = t.length := by omega
    have hpa : parseF o = (s, 0) := by
      refine hp.text ?_ (by omega) hck
      rw [List.drop_of_length_le (Nat.le_refl _), List.append_nil] at hwo
      exact hwo
    repeat' (first | (refine And.intro ?_ ?_) | (intro h; (try first | replace h := of_decide_eq_true h | replace h := of_decide_eq_false h); (try simp only [sg] at h); (try simp only [sx, ↓reduceIte, Nat.reduceAdd, reduceCtorEq, Int.reduceLT, Int.reduceLE, Int.reduceSub, Nat.reduceEqDiff, Nat.reduceLT] at h); try exact nz h))
    all_goals (try exact cz)
    refine ⟨o, rfl, by omega, ?_⟩
    rw [hpa]
    repeat' (first | (refine And.intro ?_ ?_) | (intro h; (try first | replace h := of_decide_eq_true h | replace h := of_decide_eq_false h); (try simp only [sg] at h); (try simp only [sx, ↓reduceIte, Nat.reduceAdd, reduceCtorEq, Int.reduceLT, Int.reduceLE, Int.reduceSub, Nat.reduceEqDiff, Nat.reduceLT] at h); try exact nz h))
    all_goals (try exact cz)
    refine ⟨s, rfl, by omega, ?_⟩
    repeat' (first | (refine And.intro ?_ ?_) | (intro h; (try first | replace h := of_decide_eq_true h | replace h := of_decide_eq_false h); (try simp only [sg] at h); (try simp only [sx, ↓reduceIte, Nat.reduceAdd, reduceCtorEq, Int.reduceLT, Int.reduceLE, Int.reduceSub, Nat.reduceEqDiff, Nat.reduceLT] at h); try exact nz h))
    all_goals (try exact cz)
    all_goals exact ⟨_, reb_flat [2] rfl, _, rfl, rfl, rfl⟩
theorem ltight_sem [Syms] (ns : List Int) (hn : ns.length ≤ 9223372036854775807) :
    FnSem Try.prog 8 [vI ns] [] 0 (fun v H _ => v = .bool true ∧ H = []) :=
  fnT_sound tys_ok fns_ok noneT_det cTT_ok mixed (ltight_t ns hn)
end Go.Proofs.Ytjffmehcbaechaa
