/-
  The statement TextBlanks: its walk.
-/
import Derived.Test.YtjffmehcbaechaaTxtPrint
import Derived.Test.YtjffmehcbaechaaTxtRound
import Derived.Test.YtjffmehcbaechaaTxtChk
import Derived.Test.YtjffmehcbaechaaTxtKnown
import Derived.Test.YtjffmehcbaechaaTxtSame
import Derived.Test.YtjffmehcbaechaaSchMakeS
set_option linter.unusedVariables false
set_option linter.unusedSimpArgs false
namespace Go.Proofs.Ytjffmehcbaechaa
open Go Go.Av
set_option maxRecDepth 100000
set_option maxHeartbeats 4000000
/-- A sign that parts words. -/
def Bl (c : UInt8) : Prop := signF c = false ∧ markF c = false ∧ blankF c = true
theorem wgo_blank {c : UInt8} (h : Bl c) (r : List UInt8) (cur : Wd) (acc : List Wd) : wgo (c :: r) cur acc = wgo r [] (flushW cur acc) := by
  rw [wgo, if_neg (by rw [h.1]; decide), if_neg (by rw [h.2.1]; decide), if_pos h.2.2]
theorem wgo_eat : ∀ (B r : List UInt8) (acc : List Wd), (∀ c ∈ B, Bl c) → wgo (B ++ r) [] acc = wgo r [] acc
  | [], _, _, _ => rfl
  | c :: B, r, acc, h => by
    rw [List.cons_append, wgo_blank (h c (List.mem_cons_self ..)), flushW, if_pos rfl]
    exact wgo_eat B r acc fun x hx => h x (List.mem_cons_of_mem _ hx)
theorem wgo_more {c : UInt8} (hc : Bl c) {B : List UInt8} (hB : ∀ c ∈ B, Bl c) (hne : B ≠ []) (rest : List UInt8) : ∀ (o : List UInt8) (cur : Wd) (acc : List Wd), wgo (o ++ B ++ rest) cur acc = wgo (o ++ c :: rest) cur acc
  | [], cur, acc => by
    cases B with
    | nil => exact absurd rfl hne
    | cons b B =>
      show wgo (b :: (B ++ rest)) cur acc = wgo (c :: rest) cur acc
      rw [wgo_blank hc, wgo_blank (hB b (List.mem_cons_self ..)), wgo_eat B rest _ fun x hx => hB x (List.mem_cons_of_mem _ hx)]
  | d :: o, cur, acc => by
    show wgo (d :: (o ++ B ++ rest)) cur acc = wgo (d :: (o ++ c :: rest)) cur acc
    rw [wgo, wgo]
    split
    · exact wgo_more hc hB hne rest o _ _
    · split
      · exact wgo_more hc hB hne rest o _ _
      · split
        · exact wgo_more hc hB hne rest o _ _
        · rfl
def gap4 : List Wd := [[32], [9], [10], [32, 32, 32]]
theorem gap4_ok : ∀ z, z < 4 → gap4.getD z [] ≠ [] ∧ (gap4.getD z []).length ≤ 3 ∧ ∀ c ∈ gap4.getD z [], signF c = false ∧ markF c = false ∧ blankF c = true := by decide
theorem bl_of {c : UInt8} (h : c.toNat = 32 ∨ c.toNat = 10) : Bl c := by
  have e : c = UInt8.ofNat c.toNat := (UInt8.ofNat_toNat).symm
  rcases h with h | h <;> rw [h] at e <;> subst e <;> exact ⟨rfl, rfl, rfl⟩
abbrev cTB : CallT := pickT 12 (immT S_known6) (pickT 14 (immT S_make) (pickT 13 (immT S_Print) (pickT 15 (valT G_within6) (pickT 16 (immT S_parse) (pickT 18 (immT S_rsame) noneT)))))
theorem cTB_ok [Syms] : cTB.ok Try.prog := pickT_imm_ok known6_ok (pickT_imm_ok make_ok' (pickT_imm_ok Print_ok (pickT_val_ok within6_ok (pickT_imm_ok parse_ok (pickT_imm_ok rsame_ok noneT_ok)))))
noncomputable abbrev plTB : Nat → Nat → Pl := plAdd [(4, 10)] (plTab plt)
def tbS (gap : Int) (s : List Fd) (t o : List UInt8) (i : Nat) : St := ⟨[(1, .int .i64 gap), (5, vF s), (6, .str t), (7, .str o), (8, .int .i64 i)], [], 0⟩
theorem lblanks_t [Syms] (ns : List Int) (gap : Int) (hn : ns.length ≤ 9223372036854775807) :
    fnT noneT cTB (fnTab fns) (tyTab tys) plTB 100 4 [vI ns, .int .i64 gap] [] 0 (fun v H _ => v = .bool true ∧ H = []) := by
  repeat' (first | (refine And.intro ?_ ?_) | (intro h; (try first | replace h := of_decide_eq_true h | replace h := of_decide_eq_false h); (try simp only [sg] at h); (try simp only [sx, ↓reduceIte, Nat.reduceAdd, reduceCtorEq, Int.reduceLT, Int.reduceLE, Int.reduceSub, Nat.reduceEqDiff, Nat.reduceLT] at h); try exact nz h))
  all_goals (try exact cz)
  refine ⟨ns, rfl, hn, ?_⟩
  obtain ⟨t, hp⟩ := make_round ns
  have hml := make_len ns
  have hck := make_check ns
  have htl := hp.pr.len
  generalize makeF ns = s at *
  repeat' (first | (refine And.intro ?_ ?_) | (intro h; (try first | replace h := of_decide_eq_true h | replace h := of_decide_eq_false h); (try simp only [sg] at h); (try simp only [sx, ↓reduceIte, Nat.reduceAdd, reduceCtorEq, Int.reduceLT, Int.reduceLE, Int.reduceSub, Nat.reduceEqDiff, Nat.reduceLT] at h); try exact nz h))
  all_goals (try exact cz)
  refine ⟨s, 9, s.length, t, rfl, ⟨hp.pr.pr, by decide, hp.pr.ok, by omega⟩, ?_⟩
  have htl : t.length ≤ 896 := by omega
  repeat' (first | (refine And.intro ?_ ?_) | (intro h; (try first | replace h := of_decide_eq_true h | replace h := of_decide_eq_false h); (try simp only [sg] at h); (try simp only [sx, ↓reduceIte, Nat.reduceAdd, reduceCtorEq, Int.reduceLT, Int.reduceLE, Int.reduceSub, Nat.reduceEqDiff, Nat.reduceLT] at h); try exact nz h))
  all_goals (try exact cz)
  refine ⟨fun m st => ∃ (i : Nat) (o : List UInt8), (i ≤ t.length ∧ m = t.length - i ∧ o.length ≤ 3 * i ∧ wordsF (o ++ t.drop i) = wordsF t) ∧ st = tbS gap s t o i, ⟨_, tbS gap s t [] 0, reb_flat [1, 5, 6, 7, 8] rfl, 0, [], ⟨by omega, rfl, by simp, rfl⟩, rfl⟩, ?_⟩
  rintro m st ⟨i, o, ⟨hi, rfl, hol, hwo⟩, rfl⟩
  by_cases hin : i < t.length
  · have hdr : t.drop i = t.getD i 0 :: t.drop (i + 1) := by rw [List.drop_eq_getElem_cons hin]; simp [hin]
    have hgo : ∀ B, (∀ c ∈ B, Bl c) → B ≠ [] → ((t.getD i 0).toNat = 32 ∨ (t.getD i 0).toNat = 10) → wordsF (o ++ B ++ t.drop (i + 1)) = wordsF t := fun B h1 h2 h3 => by
      rw [← hwo, hdr]
      exact wgo_more (bl_of h3) h1 h2 (t.drop (i + 1)) o [] []
    by_cases hb : (t.getD i 0).toNat = 32 ∨ (t.getD i 0).toNat = 10
    · have hgo' : ∀ z, z < 4 → wordsF (o ++ gap4.getD z [] ++ t.drop (i + 1)) = wordsF t := fun z hz => hgo _ (gap4_ok z hz).2.2 (gap4_ok z hz).1 hb
      have hlg : ∀ z, z < 4 → (o ++ gap4.getD z []).length ≤ 3 * (i + 1) := fun z hz => by
        have := (gap4_ok z hz).2.1
        rw [List.length_append]; omega
      have hl3 : ∀ n, n ≤ 3 → o.length + n ≤ 9223372036854775807 := fun n h => by omega
      repeat' (first | (refine And.intro ?_ ?_) | (intro h; (try first | replace h := of_decide_eq_true h | replace h := of_decide_eq_false h); (try simp only [sg] at h); (try simp only [sx, ↓reduceIte, Nat.reduceAdd, reduceCtorEq, Int.reduceLT, Int.reduceLE, Int.reduceSub, Nat.reduceEqDiff, Nat.reduceLT] at h); try exact nz h))
      all_goals (try exact cz)
      all_goals
        refine ⟨wr .i64 (gap + i), 4, rfl, ⟨by omega, by omega⟩, ?_⟩
        obtain ⟨hw1, hw2⟩ := wi_range (a := wr .i64 (gap + i)) (n := 4) (by omega)
        obtain ⟨k, hk⟩ := Int.eq_ofNat_of_zero_le hw1
        rw [hk] at hw2 ⊢
        clear hw1 hk
        have hk4 : k < 4 := by omega
        rcases (by omega : k = 0 ∨ k = 1 ∨ k = 2 ∨ k = 3) with rfl | rfl | rfl | rfl
      all_goals
        repeat' (first | (refine And.intro ?_ ?_) | (intro h; (try first | replace h := of_decide_eq_true h | replace h := of_decide_eq_false h); (try simp only [sg] at h); (try simp only [sx, ↓reduceIte, Nat.reduceAdd, reduceCtorEq, Int.reduceLT, Int.reduceLE, Int.reduceSub, Nat.reduceEqDiff, Nat.reduceLT] at h); try exact nz h))
        all_goals (try exact cz)
      all_goals (try exact hl3 _ (Nat.le_of_ble_eq_true rfl))
      all_goals first
        | refine ⟨tbS gap s t (o ++ gap4.getD 0 []) i, reb_flat [1, 5, 6, 7, 8] rfl, ?_⟩
        | refine ⟨tbS gap s t (o ++ gap4.getD 1 []) i, reb_flat [1, 5, 6, 7, 8] rfl, ?_⟩
        | refine ⟨tbS gap s t (o ++ gap4.getD 2 []) i, reb_flat [1, 5, 6, 7, 8] rfl, ?_⟩
        | refine ⟨tbS gap s t (o ++ gap4.getD 3 []) i, reb_flat [1, 5, 6, 7, 8] rfl, ?_⟩
      all_goals
        repeat' (first | (refine And.intro ?_ ?_) | (intro h; (try first | replace h := of_decide_eq_true h | replace h := of_decide_eq_false h); (try simp only [sg] at h); (try simp only [sx, ↓reduceIte, Nat.reduceAdd, reduceCtorEq, Int.reduceLT, Int.reduceLE, Int.reduceSub, Nat.reduceEqDiff, Nat.reduceLT] at h); try exact nz h))
        all_goals (try exact cz)
        refine ⟨t.length - (i + 1), tbS gap s t _ (i + 1), reb_flat [1, 5, 6, 7, 8] rfl, ⟨i + 1, _, ⟨by omega, rfl, hlg _ (by decide), hgo' _ (by decide)⟩, rfl⟩, by omega⟩
    · have hln : o.length + (List.take (((i : Int) + 1).toNat - (i : Int).toNat) (List.drop (i : Int).toNat t)).length ≤ 9223372036854775807 := by
        simp only [List.length_take, List.length_drop]; omega
      have htk : List.take (((i : Int) + 1).toNat - (i : Int).toNat) (List.drop (i : Int).toNat t) = [t.getD i 0] := by
        rw [show ((i : Int) + 1).toNat - (i : Int).toNat = 1 by omega, Int.toNat_natCast, hdr]; rfl
      have hw2 : wordsF (o ++ List.take (((i : Int) + 1).toNat - (i : Int).toNat) (List.drop (i : Int).toNat t) ++ t.drop (i + 1)) = wordsF t := by
        rw [htk, List.append_assoc]
        show wordsF (o ++ (t.getD i 0 :: t.drop (i + 1))) = wordsF t
        rw [← hdr]; exact hwo
      have hl2 : (o ++ List.take (((i : Int) + 1).toNat - (i : Int).toNat) (List.drop (i : Int).toNat t)).length ≤ 3 * (i + 1) := by
        rw [htk, List.length_append, List.length_singleton]; omega
      repeat' (first | (refine And.intro ?_ ?_) | (intro h; (try first | replace h := of_decide_eq_true h | replace h := of_decide_eq_false h); (try simp only [sg] at h); (try simp only [sx, ↓reduceIte, Nat.reduceAdd, reduceCtorEq, Int.reduceLT, Int.reduceLE, Int.reduceSub, Nat.reduceEqDiff, Nat.reduceLT] at h); try exact nz h))
      all_goals (try exact cz)
      all_goals (try exact hln)
      all_goals refine ⟨t.length - (i + 1), tbS gap s t (o ++ _) (i + 1), reb_flat [1, 5, 6, 7, 8] rfl, ⟨i + 1, _, ⟨by omega, rfl, hl2, hw2⟩, rfl⟩, by omega⟩
  · obtain rfl : i = t.length := by omega
    have hpa : parseF o = (s, 0) := by
      refine hp.text ?_ (by omega) hck
      rw [List.drop_of_length_le (Nat.le_refl _), List.append_nil] at hwo
      exact hwo
    repeat' (first | (refine And.intro ?_ ?_) | (intro h; (try first | replace h := of_decide_eq_true h | replace h := of_decide_eq_false h); (try simp only [sg] at h); (try simp only [sx, ↓reduceIte, Nat.reduceAdd, reduceCtorEq, Int.reduceLT, Int.reduceLE, Int.reduceSub, Nat.reduceEqDiff, Nat.reduceLT] at h); try exact nz h))
    all_goals (try exact cz)
    refine ⟨o, rfl, by omega, ?_⟩
    rw [hpa]
    repeat' (first | (refine And.intro ?_ ?_) | (intro h; (try first | replace h := of_decide_eq_true h | replace h := of_decide_eq_false h); (try simp only [sg] at h); (try simp only [sx, ↓reduceIte, Nat.reduceAdd, reduceCtorEq, Int.reduceLT, Int.reduceLE, Int.reduceSub, Nat.reduceEqDiff, Nat.reduceLT] at h); try exact nz h))
    all_goals (try exact cz)
    refine ⟨s, rfl, by omega, ?_⟩
    repeat' (first | (refine And.intro ?_ ?_) | (intro h; (try first | replace h := of_decide_eq_true h | replace h := of_decide_eq_false h); (try simp only [sg] at h); (try simp only [sx, ↓reduceIte, Nat.reduceAdd, reduceCtorEq, Int.reduceLT, Int.reduceLE, Int.reduceSub, Nat.reduceEqDiff, Nat.reduceLT] at h); try exact nz h))
    all_goals (try exact cz)
    all_goals exact ⟨_, reb_flat [4] rfl, _, rfl, rfl, rfl⟩
theorem lblanks_sem [Syms] (ns : List Int) (gap : Int) (hn : ns.length ≤ 9223372036854775807) :
    FnSem Try.prog 4 [vI ns, .int .i64 gap] [] 0 (fun v H _ => v = .bool true ∧ H = []) :=
  fnT_sound tys_ok fns_ok noneT_det cTB_ok mixed (lblanks_t ns gap hn)
end Go.Proofs.Ytjffmehcbaechaa
