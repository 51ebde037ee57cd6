/-
  The document's 'words': a text's words.
-/
import Derived.Test.YtjffmehcbaechaaTxtWords
import Derived.Test.YtjffmehcbaechaaSchRName
set_option linter.unusedVariables false
set_option linter.unusedSimpArgs false
namespace Go.Proofs.Ytjffmehcbaechaa
open Go Go.Av
set_option maxRecDepth 100000
set_option maxHeartbeats 4000000
theorem wgo_stop {s : List UInt8} {k : Nat} {r : Wd} {acc : List Wd} (hr : r ≠ []) (hk : k = s.length ∨ (k < s.length ∧ signF (s.getD k 0) = false)) : wgo (s.drop k) r acc = wgo (s.drop k) [] (acc ++ [r]) := by
  rcases hk with rfl | ⟨hk, hs⟩
  · rw [List.drop_of_length_le (Nat.le_refl _), wgo, wgo, flushW, flushW, if_neg hr, if_pos rfl]
  · have e : flushW [] (acc ++ [r]) = flushW r acc := by rw [flushW, flushW, if_neg hr, if_pos rfl]
    have hn : ¬ signF (s.getD k 0) = true := by rw [hs]; decide
    rw [drop_cons hk, wgo, wgo, if_neg hn, if_neg hn, e]
theorem wgo_run {s : List UInt8} {i : Nat} {acc : List Wd} : ∀ (n : Nat), i + n ≤ s.length → (∀ j, i ≤ j → j < i + n → signF (s.getD j 0) = true) → wgo (s.drop i) [] acc = wgo (s.drop (i + n)) (List.take n (List.drop i s)) acc
  | 0, _, _ => by rw [Nat.add_zero, List.take_zero]
  | n + 1, h, hs => by
    rw [wgo_run n (by omega) fun j h1 h2 => hs j h1 (by omega), drop_cons (show i + n < s.length by omega), wgo, if_pos (hs _ (by omega) (by omega))]
    have := (cur_more (s := s) (cur := List.take n (List.drop i s)) (fr := i) (pos := i + (n + 1) - 1)) (by omega)
    congr 1
    rw [List.take_succ_eq_append_getElem (by rw [List.length_drop]; omega)]
    congr 2
    rw [List.getElem_drop]
    simp [show i + n < s.length by omega]
/-- A run of signs is one word. -/
theorem wgo_word {s : List UInt8} {i k : Nat} {acc : List Wd} (hik : i < k) (hk : k ≤ s.length) (hs : ∀ j, i ≤ j → j < k → signF (s.getD j 0) = true) (he : k = s.length ∨ (k < s.length ∧ signF (s.getD k 0) = false)) :
    wgo (s.drop i) [] acc = wgo (s.drop k) [] (acc ++ [List.take (k - i) (List.drop i s)]) := by
  rw [wgo_run (s := s) (i := i) (acc := acc) (k - i) (by omega) (fun j h1 h2 => hs j h1 (by omega)), show i + (k - i) = k by omega]
  refine wgo_stop (fun h => ?_) he
  have := congrArg List.length h
  simp at this
  omega
theorem mark_cut {s : List UInt8} {i : Nat} (h : i < s.length) : List.take (i + 1 - i) (List.drop i s) = [s.getD i 0] := (cur_one h).1
theorem rwords_t [Syms] (s : List UInt8) (hs : s.length ≤ 4000) :
    fnT noneT cSg (fnTab fns) (tyTab tys) (plTab plt) 100 28 [.str s] [] 0 (fun v H _ => v = (match wordsF s with | none => .tup [.nils, .bool false] | some l => .tup [vW l, .bool true]) ∧ H = []) := by
  have hPn : wordsF s = none → AVal.tup [.nils, .bool false] = (match wordsF s with | none => .tup [.nils, .bool false] | some l => .tup [vW l, .bool true]) := fun h => by rw [h]
  have hPs : ∀ l, wordsF s = some l → AVal.tup [vW l, .bool true] = (match wordsF s with | none => .tup [.nils, .bool false] | some l => .tup [vW l, .bool true]) := fun l h => by rw [h]
  generalize (match wordsF s with | none => AVal.tup [.nils, .bool false] | some l => .tup [vW l, .bool true]) = V at *
  repeat' (first | (refine And.intro ?_ ?_) | (intro h; (try first | replace h := of_decide_eq_true h | replace h := of_decide_eq_false h); (try simp only [sg] at h); (try simp only [sx, ↓reduceIte, Nat.reduceAdd, reduceCtorEq, Int.reduceLT, Int.reduceLE, Int.reduceSub, Nat.reduceEqDiff, Nat.reduceLT] at h); try exact nz h))
  all_goals (try exact cz)
  refine ⟨fun m st => ∃ (i : Nat) (acc : List Wd), (i ≤ s.length ∧ m = s.length - i ∧ acc.length ≤ i ∧ wgo (s.drop i) [] acc = wordsF s) ∧
      ((acc = [] ∧ st = ⟨[(0, .str s), (4, .nils), (5, .int .i64 i)], [], 0⟩) ∨ (acc ≠ [] ∧ st = ⟨[(0, .str s), (4, .slice 0 0 acc.length 1 none), (5, .int .i64 i)], [(0, some (.cells (acc.map encS) false))], 1⟩)),
    ⟨_, ⟨[(0, .str s), (4, .nils), (5, .int .i64 (0 : Nat))], [], 0⟩, reb_flat [0, 4, 5] rfl, 0, [], ⟨by omega, rfl, by simp, rfl⟩, .inl ⟨rfl, rfl⟩⟩, ?_⟩
  rintro m st ⟨i, acc, ⟨hi, rfl, hal, hgo⟩, hsh⟩
  by_cases hin : i < s.length
  rotate_left
  · -- the end
    obtain rfl : i = s.length := by omega
    rw [List.drop_of_length_le (Nat.le_refl _), wgo, flushW, if_pos rfl] at hgo
    rcases hsh with ⟨rfl, rfl⟩ | ⟨hne, rfl⟩
    · repeat' (first | (refine And.intro ?_ ?_) | (intro h; (try first | replace h := of_decide_eq_true h | replace h := of_decide_eq_false h); (try simp only [sg] at h); (try simp only [sx, ↓reduceIte, Nat.reduceAdd, reduceCtorEq, Int.reduceLT, Int.reduceLE, Int.reduceSub, Nat.reduceEqDiff, Nat.reduceLT] at h); try exact nz h))
      all_goals (try exact cz)
      exact ⟨_, (reb_slot (k := 2) (y := vW []) fun ι v hv => .vt _ _ _ _ (RelV.isZ (sz := 1) (by rfl) hv)).trans (reb_flat [2, 3] rfl), _, rfl, hPs [] hgo.symm, rfl⟩
    · repeat' (first | (refine And.intro ?_ ?_) | (intro h; (try first | replace h := of_decide_eq_true h | replace h := of_decide_eq_false h); (try simp only [sg] at h); (try simp only [sx, ↓reduceIte, Nat.reduceAdd, reduceCtorEq, Int.reduceLT, Int.reduceLE, Int.reduceSub, Nat.reduceEqDiff, Nat.reduceLT] at h); try exact nz h))
      all_goals (try exact cz)
      refine ⟨_, reb_own_keep (k := 2) (enc := encS) [] (l := acc) [(3, .bool true)] [] rfl rfl (fS _) ?_ ?_ ?_ ?_, _, rfl, hPs acc hgo.symm, rfl⟩
      · exact List.take_of_length_le (by rw [List.length_map]; exact Nat.le_refl _)
      · rw [List.length_map]; exact Nat.le_refl _
      · intro p hp; simp at hp; subst hp; exact ⟨(by show (3 : Nat) ≠ 2; decide), rfl⟩
      · intro n b h; rw [Heap.get_nil] at h; cases h
  have hdrop := drop_cons hin
  have hkind := kinds_of (s.getD i 0)
  rcases hsh with ⟨rfl, rfl⟩ | ⟨hne, rfl⟩
  · -- no words yet
    rcases hkind with ⟨hsF, hlow⟩ | ⟨hv, hsF, hmF, hlow⟩ | ⟨hv, hsF, hmF, hlow⟩ | ⟨hv, hsF, hmF, hlow⟩ | ⟨hv, hsF, hmF, hbF, hlow⟩ | ⟨hv, hsF, hmF, hbF, hlow⟩ | ⟨hv, hsF, hmF, hbF, hlow⟩ | ⟨hsF, hmF, hbF, hlow, hv⟩ | ⟨hsF, hmF, hbF, hhi⟩
    · -- sign
      have hsg : signN (s.getD i 0).toNat = true := by rw [signN_eq]; exact hsF
      repeat' (first | (refine And.intro ?_ ?_) | (intro h; (try first | replace h := of_decide_eq_true h | replace h := of_decide_eq_false h); (try simp only [sg] at h); (try simp only [sx, ↓reduceIte, Nat.reduceAdd, reduceCtorEq, Int.reduceLT, Int.reduceLE, Int.reduceSub, Nat.reduceEqDiff, Nat.reduceLT] at h); try exact nz h))
      all_goals (try exact cz)
      refine ⟨_, rfl, ?_⟩
      rw [show signN (s.getD ((i : Nat) : Int).toNat 0).toNat = true from hsg]
      repeat' (first | (refine And.intro ?_ ?_) | (intro h; (try first | replace h := of_decide_eq_true h | replace h := of_decide_eq_false h); (try simp only [sg] at h); (try simp only [sx, ↓reduceIte, Nat.reduceAdd, reduceCtorEq, Int.reduceLT, Int.reduceLE, Int.reduceSub, Nat.reduceEqDiff, Nat.reduceLT] at h); try exact nz h))
      all_goals (try exact cz)
      refine ⟨fun m2 st => ∃ k : Nat, (i ≤ k ∧ k ≤ s.length ∧ m2 = s.length - k ∧ ∀ j, i ≤ j → j < k → signF (s.getD j 0) = true) ∧ st = ⟨[(0, .str s), (4, .nils), (5, .int .i64 i), (7, .int .i64 k)], [], 0⟩, ⟨_, ⟨[(0, .str s), (4, .nils), (5, .int .i64 i), (7, .int .i64 i)], [], 0⟩, reb_flat [0, 4, 5, 7] rfl, i, ⟨Nat.le_refl _, by omega, rfl, fun j h1 h2 => by omega⟩, rfl⟩, ?_⟩
      rintro m2 st ⟨k, ⟨hik, hkl, rfl, hall⟩, rfl⟩
      by_cases hkn : k < s.length
      · by_cases hks : signF (s.getD k 0) = true
        · have hsgk : signN (s.getD k 0).toNat = true := by rw [signN_eq]; exact hks
          repeat' (first | (refine And.intro ?_ ?_) | (intro h; (try first | replace h := of_decide_eq_true h | replace h := of_decide_eq_false h); (try simp only [sg] at h); (try simp only [sx, ↓reduceIte, Nat.reduceAdd, reduceCtorEq, Int.reduceLT, Int.reduceLE, Int.reduceSub, Nat.reduceEqDiff, Nat.reduceLT] at h); try exact nz h))
          all_goals (try exact cz)
          refine ⟨_, rfl, ?_⟩
          rw [show signN (s.getD ((k : Nat) : Int).toNat 0).toNat = true from hsgk]
          repeat' (first | (refine And.intro ?_ ?_) | (intro h; (try first | replace h := of_decide_eq_true h | replace h := of_decide_eq_false h); (try simp only [sg] at h); (try simp only [sx, ↓reduceIte, Nat.reduceAdd, reduceCtorEq, Int.reduceLT, Int.reduceLE, Int.reduceSub, Nat.reduceEqDiff, Nat.reduceLT] at h); try exact nz h))
          all_goals (try exact cz)
          refine ⟨_, ⟨[(0, .str s), (4, .nils), (5, .int .i64 i), (7, .int .i64 (k + 1 : Nat))], [], 0⟩, reb_flat [0, 4, 5, 7] rfl, ⟨k + 1, ⟨by omega, by omega, rfl, fun j h1 h2 => ?_⟩, rfl⟩, by omega⟩
          rcases Nat.lt_or_ge j k with h' | h'
          · exact hall j h1 h'
          · obtain rfl : j = k := by omega
            exact hks
        · rw [Bool.not_eq_true] at hks
          have hsgk : signN (s.getD k 0).toNat = false := by rw [signN_eq]; exact hks
          have hik' : i < k := by
            rcases Nat.eq_or_lt_of_le hik with rfl | h
            · rw [hsF] at hks; cases hks
            · exact h
          have hw := wgo_word (acc := ([] : List Wd)) hik' hkl hall (.inr ⟨hkn, hks⟩)
          repeat' (first | (refine And.intro ?_ ?_) | (intro h; (try first | replace h := of_decide_eq_true h | replace h := of_decide_eq_false h); (try simp only [sg] at h); (try simp only [sx, ↓reduceIte, Nat.reduceAdd, reduceCtorEq, Int.reduceLT, Int.reduceLE, Int.reduceSub, Nat.reduceEqDiff, Nat.reduceLT] at h); try exact nz h))
          all_goals (try exact cz)
          refine ⟨_, rfl, ?_⟩
          rw [show signN (s.getD ((k : Nat) : Int).toNat 0).toNat = false from hsgk]
          repeat' (first | (refine And.intro ?_ ?_) | (intro h; (try first | replace h := of_decide_eq_true h | replace h := of_decide_eq_false h); (try simp only [sg] at h); (try simp only [sx, ↓reduceIte, Nat.reduceAdd, reduceCtorEq, Int.reduceLT, Int.reduceLE, Int.reduceSub, Nat.reduceEqDiff, Nat.reduceLT] at h); try exact nz h))
          all_goals (try exact cz)
          all_goals (try ((with_reducible show (_ : Nat) ≤ (_ : Nat)); (show _ * 16 ≤ _); omega))
          refine ⟨_, ⟨[(0, .str s), (4, .slice 0 0 (([] : List Wd) ++ [List.take (k - i) (List.drop i s)]).length 1 none), (5, .int .i64 (k : Nat))], [(0, some (.cells ((([] : List Wd) ++ [List.take (k - i) (List.drop i s)]).map encS) false))], 1⟩, reb_num [1] (by first | rfl | kernel_rfl) ⟨.refl _, wk_slc (by simp), wk_int (by omega), trivial⟩ ⟨⟨by decide, _, rfl, wkB_eq ?_ (fS _)⟩, trivial⟩, ⟨k, ([] : List Wd) ++ [List.take (k - i) (List.drop i s)], ⟨by omega, rfl, by rw [List.length_append]; first | (show _ + 1 ≤ _; omega) | (show 0 + 1 ≤ _; omega), ?_⟩, .inr ⟨by simp, rfl⟩⟩, by omega⟩
          · first | rfl | (simp only [Int.toNat_natCast]; rfl)
          · rw [← hw]; exact hgo
      · obtain rfl : k = s.length := by omega
        have hw := wgo_word (acc := ([] : List Wd)) (k := s.length) hin hkl hall (.inl rfl)
        repeat' (first | (refine And.intro ?_ ?_) | (intro h; (try first | replace h := of_decide_eq_true h | replace h := of_decide_eq_false h); (try simp only [sg] at h); (try simp only [sx, ↓reduceIte, Nat.reduceAdd, reduceCtorEq, Int.reduceLT, Int.reduceLE, Int.reduceSub, Nat.reduceEqDiff, Nat.reduceLT] at h); try exact nz h))
        all_goals (try exact cz)
        all_goals (try ((with_reducible show (_ : Nat) ≤ (_ : Nat)); (show _ * 16 ≤ _); omega))
        refine ⟨_, ⟨[(0, .str s), (4, .slice 0 0 (([] : List Wd) ++ [List.take (s.length - i) (List.drop i s)]).length 1 none), (5, .int .i64 (s.length : Nat))], [(0, some (.cells ((([] : List Wd) ++ [List.take (s.length - i) (List.drop i s)]).map encS) false))], 1⟩, reb_num [1] (by first | rfl | kernel_rfl) ⟨.refl _, wk_slc (by simp), wk_int (by omega), trivial⟩ ⟨⟨by decide, _, rfl, wkB_eq ?_ (fS _)⟩, trivial⟩, ⟨s.length, ([] : List Wd) ++ [List.take (s.length - i) (List.drop i s)], ⟨by omega, rfl, by rw [List.length_append]; first | (show _ + 1 ≤ _; omega) | (show 0 + 1 ≤ _; omega), ?_⟩, .inr ⟨by simp, rfl⟩⟩, by omega⟩
        · first | rfl | (simp only [Int.toNat_natCast]; rfl)
        · rw [← hw]; exact hgo
    · -- m123
      have hsg : signN (s.getD i 0).toNat = false := by rw [signN_eq]; exact hsF
      repeat' (first | (refine And.intro ?_ ?_) | (intro h; (try first | replace h := of_decide_eq_true h | replace h := of_decide_eq_false h); (try simp only [sg] at h); (try simp only [sx, ↓reduceIte, Nat.reduceAdd, reduceCtorEq, Int.reduceLT, Int.reduceLE, Int.reduceSub, Nat.reduceEqDiff, Nat.reduceLT] at h); try exact nz h))
      all_goals (try exact cz)
      refine ⟨_, rfl, ?_⟩
      rw [show signN (s.getD ((i : Nat) : Int).toNat 0).toNat = false from hsg]
      repeat' (first | (refine And.intro ?_ ?_) | (intro h; (try first | replace h := of_decide_eq_true h | replace h := of_decide_eq_false h); (try simp only [sg] at h); (try simp only [sx, ↓reduceIte, Nat.reduceAdd, reduceCtorEq, Int.reduceLT, Int.reduceLE, Int.reduceSub, Nat.reduceEqDiff, Nat.reduceLT] at h); try exact nz h))
      all_goals (try exact cz)
      all_goals (try ((with_reducible show (_ : Nat) ≤ (_ : Nat)); (show _ * 16 ≤ _); omega))
      refine ⟨_, ⟨[(0, .str s), (4, .slice 0 0 (([] : List Wd) ++ [[s.getD i 0]]).length 1 none), (5, .int .i64 (i + 1 : Nat))], [(0, some (.cells ((([] : List Wd) ++ [[s.getD i 0]]).map encS) false))], 1⟩, reb_num [1] (by first | rfl | kernel_rfl) ⟨.refl _, wk_slc (by simp), wk_int (by omega), trivial⟩ ⟨⟨by decide, _, rfl, wkB_eq ?_ (fS _)⟩, trivial⟩, ⟨i + 1, ([] : List Wd) ++ [[s.getD i 0]], ⟨by omega, rfl, by rw [List.length_append]; first | (show _ + 1 ≤ _; omega) | (show 0 + 1 ≤ _; omega), ?_⟩, .inr ⟨by simp, rfl⟩⟩, by omega⟩
      · rw [← mark_cut hin]; first | rfl | (simp only [Int.toNat_natCast]; rfl)
      · rw [← hgo, hdrop, wgo, if_neg (by rw [hsF]; decide), if_pos hmF]; rfl
    · -- m125
      have hsg : signN (s.getD i 0).toNat = false := by rw [signN_eq]; exact hsF
      repeat' (first | (refine And.intro ?_ ?_) | (intro h; (try first | replace h := of_decide_eq_true h | replace h := of_decide_eq_false h); (try simp only [sg] at h); (try simp only [sx, ↓reduceIte, Nat.reduceAdd, reduceCtorEq, Int.reduceLT, Int.reduceLE, Int.reduceSub, Nat.reduceEqDiff, Nat.reduceLT] at h); try exact nz h))
      all_goals (try exact cz)
      refine ⟨_, rfl, ?_⟩
      rw [show signN (s.getD ((i : Nat) : Int).toNat 0).toNat = false from hsg]
      repeat' (first | (refine And.intro ?_ ?_) | (intro h; (try first | replace h := of_decide_eq_true h | replace h := of_decide_eq_false h); (try simp only [sg] at h); (try simp only [sx, ↓reduceIte, Nat.reduceAdd, reduceCtorEq, Int.reduceLT, Int.reduceLE, Int.reduceSub, Nat.reduceEqDiff, Nat.reduceLT] at h); try exact nz h))
      all_goals (try exact cz)
      all_goals (try ((with_reducible show (_ : Nat) ≤ (_ : Nat)); (show _ * 16 ≤ _); omega))
      refine ⟨_, ⟨[(0, .str s), (4, .slice 0 0 (([] : List Wd) ++ [[s.getD i 0]]).length 1 none), (5, .int .i64 (i + 1 : Nat))], [(0, some (.cells ((([] : List Wd) ++ [[s.getD i 0]]).map encS) false))], 1⟩, reb_num [1] (by first | rfl | kernel_rfl) ⟨.refl _, wk_slc (by simp), wk_int (by omega), trivial⟩ ⟨⟨by decide, _, rfl, wkB_eq ?_ (fS _)⟩, trivial⟩, ⟨i + 1, ([] : List Wd) ++ [[s.getD i 0]], ⟨by omega, rfl, by rw [List.length_append]; first | (show _ + 1 ≤ _; omega) | (show 0 + 1 ≤ _; omega), ?_⟩, .inr ⟨by simp, rfl⟩⟩, by omega⟩
      · rw [← mark_cut hin]; first | rfl | (simp only [Int.toNat_natCast]; rfl)
      · rw [← hgo, hdrop, wgo, if_neg (by rw [hsF]; decide), if_pos hmF]; rfl
    · -- m59
      have hsg : signN (s.getD i 0).toNat = false := by rw [signN_eq]; exact hsF
      repeat' (first | (refine And.intro ?_ ?_) | (intro h; (try first | replace h := of_decide_eq_true h | replace h := of_decide_eq_false h); (try simp only [sg] at h); (try simp only [sx, ↓reduceIte, Nat.reduceAdd, reduceCtorEq, Int.reduceLT, Int.reduceLE, Int.reduceSub, Nat.reduceEqDiff, Nat.reduceLT] at h); try exact nz h))
      all_goals (try exact cz)
      refine ⟨_, rfl, ?_⟩
      rw [show signN (s.getD ((i : Nat) : Int).toNat 0).toNat = false from hsg]
      repeat' (first | (refine And.intro ?_ ?_) | (intro h; (try first | replace h := of_decide_eq_true h | replace h := of_decide_eq_false h); (try simp only [sg] at h); (try simp only [sx, ↓reduceIte, Nat.reduceAdd, reduceCtorEq, Int.reduceLT, Int.reduceLE, Int.reduceSub, Nat.reduceEqDiff, Nat.reduceLT] at h); try exact nz h))
      all_goals (try exact cz)
      all_goals (try ((with_reducible show (_ : Nat) ≤ (_ : Nat)); (show _ * 16 ≤ _); omega))
      refine ⟨_, ⟨[(0, .str s), (4, .slice 0 0 (([] : List Wd) ++ [[s.getD i 0]]).length 1 none), (5, .int .i64 (i + 1 : Nat))], [(0, some (.cells ((([] : List Wd) ++ [[s.getD i 0]]).map encS) false))], 1⟩, reb_num [1] (by first | rfl | kernel_rfl) ⟨.refl _, wk_slc (by simp), wk_int (by omega), trivial⟩ ⟨⟨by decide, _, rfl, wkB_eq ?_ (fS _)⟩, trivial⟩, ⟨i + 1, ([] : List Wd) ++ [[s.getD i 0]], ⟨by omega, rfl, by rw [List.length_append]; first | (show _ + 1 ≤ _; omega) | (show 0 + 1 ≤ _; omega), ?_⟩, .inr ⟨by simp, rfl⟩⟩, by omega⟩
      · rw [← mark_cut hin]; first | rfl | (simp only [Int.toNat_natCast]; rfl)
      · rw [← hgo, hdrop, wgo, if_neg (by rw [hsF]; decide), if_pos hmF]; rfl
    · -- b32
      have hsg : signN (s.getD i 0).toNat = false := by rw [signN_eq]; exact hsF
      repeat' (first | (refine And.intro ?_ ?_) | (intro h; (try first | replace h := of_decide_eq_true h | replace h := of_decide_eq_false h); (try simp only [sg] at h); (try simp only [sx, ↓reduceIte, Nat.reduceAdd, reduceCtorEq, Int.reduceLT, Int.reduceLE, Int.reduceSub, Nat.reduceEqDiff, Nat.reduceLT] at h); try exact nz h))
      all_goals (try exact cz)
      refine ⟨_, rfl, ?_⟩
      rw [show signN (s.getD ((i : Nat) : Int).toNat 0).toNat = false from hsg]
      repeat' (first | (refine And.intro ?_ ?_) | (intro h; (try first | replace h := of_decide_eq_true h | replace h := of_decide_eq_false h); (try simp only [sg] at h); (try simp only [sx, ↓reduceIte, Nat.reduceAdd, reduceCtorEq, Int.reduceLT, Int.reduceLE, Int.reduceSub, Nat.reduceEqDiff, Nat.reduceLT] at h); try exact nz h))
      all_goals (try exact cz)
      refine ⟨_, ⟨[(0, .str s), (4, .nils), (5, .int .i64 (i + 1 : Nat))], [], 0⟩, reb_flat [0, 4, 5] rfl, ⟨i + 1, ([] : List Wd), ⟨by omega, rfl, by first | omega | (simp only [List.length_nil]; omega), ?_⟩, .inl ⟨rfl, rfl⟩⟩, by omega⟩
      rw [← hgo, hdrop, wgo, if_neg (by rw [hsF]; decide), if_neg (by rw [hmF]; decide), if_pos hbF]; rfl
    · -- b9
      have hsg : signN (s.getD i 0).toNat = false := by rw [signN_eq]; exact hsF
      repeat' (first | (refine And.intro ?_ ?_) | (intro h; (try first | replace h := of_decide_eq_true h | replace h := of_decide_eq_false h); (try simp only [sg] at h); (try simp only [sx, ↓reduceIte, Nat.reduceAdd, reduceCtorEq, Int.reduceLT, Int.reduceLE, Int.reduceSub, Nat.reduceEqDiff, Nat.reduceLT] at h); try exact nz h))
      all_goals (try exact cz)
      refine ⟨_, rfl, ?_⟩
      rw [show signN (s.getD ((i : Nat) : Int).toNat 0).toNat = false from hsg]
      repeat' (first | (refine And.intro ?_ ?_) | (intro h; (try first | replace h := of_decide_eq_true h | replace h := of_decide_eq_false h); (try simp only [sg] at h); (try simp only [sx, ↓reduceIte, Nat.reduceAdd, reduceCtorEq, Int.reduceLT, Int.reduceLE, Int.reduceSub, Nat.reduceEqDiff, Nat.reduceLT] at h); try exact nz h))
      all_goals (try exact cz)
      refine ⟨_, ⟨[(0, .str s), (4, .nils), (5, .int .i64 (i + 1 : Nat))], [], 0⟩, reb_flat [0, 4, 5] rfl, ⟨i + 1, ([] : List Wd), ⟨by omega, rfl, by first | omega | (simp only [List.length_nil]; omega), ?_⟩, .inl ⟨rfl, rfl⟩⟩, by omega⟩
      rw [← hgo, hdrop, wgo, if_neg (by rw [hsF]; decide), if_neg (by rw [hmF]; decide), if_pos hbF]; rfl
    · -- b10
      have hsg : signN (s.getD i 0).toNat = false := by rw [signN_eq]; exact hsF
      repeat' (first | (refine And.intro ?_ ?_) | (intro h; (try first | replace h := of_decide_eq_true h | replace h := of_decide_eq_false h); (try simp only [sg] at h); (try simp only [sx, ↓reduceIte, Nat.reduceAdd, reduceCtorEq, Int.reduceLT, Int.reduceLE, Int.reduceSub, Nat.reduceEqDiff, Nat.reduceLT] at h); try exact nz h))
      all_goals (try exact cz)
      refine ⟨_, rfl, ?_⟩
      rw [show signN (s.getD ((i : Nat) : Int).toNat 0).toNat = false from hsg]
      repeat' (first | (refine And.intro ?_ ?_) | (intro h; (try first | replace h := of_decide_eq_true h | replace h := of_decide_eq_false h); (try simp only [sg] at h); (try simp only [sx, ↓reduceIte, Nat.reduceAdd, reduceCtorEq, Int.reduceLT, Int.reduceLE, Int.reduceSub, Nat.reduceEqDiff, Nat.reduceLT] at h); try exact nz h))
      all_goals (try exact cz)
      refine ⟨_, ⟨[(0, .str s), (4, .nils), (5, .int .i64 (i + 1 : Nat))], [], 0⟩, reb_flat [0, 4, 5] rfl, ⟨i + 1, ([] : List Wd), ⟨by omega, rfl, by first | omega | (simp only [List.length_nil]; omega), ?_⟩, .inl ⟨rfl, rfl⟩⟩, by omega⟩
      rw [← hgo, hdrop, wgo, if_neg (by rw [hsF]; decide), if_neg (by rw [hmF]; decide), if_pos hbF]; rfl
    · -- bad
      have hsg : signN (s.getD i 0).toNat = false := by rw [signN_eq]; exact hsF
      have hnone : wordsF s = none := by rw [← hgo, hdrop, wgo, if_neg (by rw [hsF]; decide), if_neg (by rw [hmF]; decide), if_neg (by rw [hbF]; decide)]
      repeat' (first | (refine And.intro ?_ ?_) | (intro h; (try first | replace h := of_decide_eq_true h | replace h := of_decide_eq_false h); (try simp only [sg] at h); (try simp only [sx, ↓reduceIte, Nat.reduceAdd, reduceCtorEq, Int.reduceLT, Int.reduceLE, Int.reduceSub, Nat.reduceEqDiff, Nat.reduceLT] at h); try exact nz h))
      all_goals (try exact cz)
      refine ⟨_, rfl, ?_⟩
      rw [show signN (s.getD ((i : Nat) : Int).toNat 0).toNat = false from hsg]
      repeat' (first | (refine And.intro ?_ ?_) | (intro h; (try first | replace h := of_decide_eq_true h | replace h := of_decide_eq_false h); (try simp only [sg] at h); (try simp only [sx, ↓reduceIte, Nat.reduceAdd, reduceCtorEq, Int.reduceLT, Int.reduceLE, Int.reduceSub, Nat.reduceEqDiff, Nat.reduceLT] at h); try exact nz h))
      all_goals (try exact cz)
      all_goals exact ⟨_, reb_flat [2, 3] rfl, _, rfl, hPn hnone, rfl⟩
    · -- high
      have hsg : signN (s.getD i 0).toNat = false := by rw [signN_eq]; exact hsF
      have hnone : wordsF s = none := by rw [← hgo, hdrop, wgo, if_neg (by rw [hsF]; decide), if_neg (by rw [hmF]; decide), if_neg (by rw [hbF]; decide)]
      repeat' (first | (refine And.intro ?_ ?_) | (intro h; (try first | replace h := of_decide_eq_true h | replace h := of_decide_eq_false h); (try simp only [sg] at h); (try simp only [sx, ↓reduceIte, Nat.reduceAdd, reduceCtorEq, Int.reduceLT, Int.reduceLE, Int.reduceSub, Nat.reduceEqDiff, Nat.reduceLT] at h); try exact nz h))
      all_goals (try exact cz)
      refine ⟨_, rfl, ?_⟩
      rw [show signN (s.getD ((i : Nat) : Int).toNat 0).toNat = false from hsg]
      repeat' (first | (refine And.intro ?_ ?_) | (intro h; (try first | replace h := of_decide_eq_true h | replace h := of_decide_eq_false h); (try simp only [sg] at h); (try simp only [sx, ↓reduceIte, Nat.reduceAdd, reduceCtorEq, Int.reduceLT, Int.reduceLE, Int.reduceSub, Nat.reduceEqDiff, Nat.reduceLT] at h); try exact nz h))
      all_goals (try exact cz)
      all_goals exact ⟨_, reb_flat [2, 3] rfl, _, rfl, hPn hnone, rfl⟩
  · -- some words
    rcases hkind with ⟨hsF, hlow⟩ | ⟨hv, hsF, hmF, hlow⟩ | ⟨hv, hsF, hmF, hlow⟩ | ⟨hv, hsF, hmF, hlow⟩ | ⟨hv, hsF, hmF, hbF, hlow⟩ | ⟨hv, hsF, hmF, hbF, hlow⟩ | ⟨hv, hsF, hmF, hbF, hlow⟩ | ⟨hsF, hmF, hbF, hlow, hv⟩ | ⟨hsF, hmF, hbF, hhi⟩
    · -- sign
      have hsg : signN (s.getD i 0).toNat = true := by rw [signN_eq]; exact hsF
      repeat' (first | (refine And.intro ?_ ?_) | (intro h; (try first | replace h := of_decide_eq_true h | replace h := of_decide_eq_false h); (try simp only [sg] at h); (try simp only [sx, ↓reduceIte, Nat.reduceAdd, reduceCtorEq, Int.reduceLT, Int.reduceLE, Int.reduceSub, Nat.reduceEqDiff, Nat.reduceLT] at h); try exact nz h))
      all_goals (try exact cz)
      refine ⟨_, rfl, ?_⟩
      rw [show signN (s.getD ((i : Nat) : Int).toNat 0).toNat = true from hsg]
      repeat' (first | (refine And.intro ?_ ?_) | (intro h; (try first | replace h := of_decide_eq_true h | replace h := of_decide_eq_false h); (try simp only [sg] at h); (try simp only [sx, ↓reduceIte, Nat.reduceAdd, reduceCtorEq, Int.reduceLT, Int.reduceLE, Int.reduceSub, Nat.reduceEqDiff, Nat.reduceLT] at h); try exact nz h))
      all_goals (try exact cz)
      refine ⟨fun m2 st => ∃ k : Nat, (i ≤ k ∧ k ≤ s.length ∧ m2 = s.length - k ∧ ∀ j, i ≤ j → j < k → signF (s.getD j 0) = true) ∧ st = ⟨[(0, .str s), (4, (.slice 0 0 acc.length 1 none)), (5, .int .i64 i), (7, .int .i64 k)], [(0, some (.cells (acc.map encS) false))], 1⟩, ⟨_, ⟨[(0, .str s), (4, (.slice 0 0 acc.length 1 none)), (5, .int .i64 i), (7, .int .i64 i)], [(0, some (.cells (acc.map encS) false))], 1⟩, reb_num [0] (by first | rfl | kernel_rfl) ⟨.refl _, .refl _, .refl _, .refl _, trivial⟩ ⟨⟨by decide, _, rfl, wkB_same (fS _)⟩, trivial⟩, i, ⟨Nat.le_refl _, by omega, rfl, fun j h1 h2 => by omega⟩, rfl⟩, ?_⟩
      rintro m2 st ⟨k, ⟨hik, hkl, rfl, hall⟩, rfl⟩
      by_cases hkn : k < s.length
      · by_cases hks : signF (s.getD k 0) = true
        · have hsgk : signN (s.getD k 0).toNat = true := by rw [signN_eq]; exact hks
          repeat' (first | (refine And.intro ?_ ?_) | (intro h; (try first | replace h := of_decide_eq_true h | replace h := of_decide_eq_false h); (try simp only [sg] at h); (try simp only [sx, ↓reduceIte, Nat.reduceAdd, reduceCtorEq, Int.reduceLT, Int.reduceLE, Int.reduceSub, Nat.reduceEqDiff, Nat.reduceLT] at h); try exact nz h))
          all_goals (try exact cz)
          refine ⟨_, rfl, ?_⟩
          rw [show signN (s.getD ((k : Nat) : Int).toNat 0).toNat = true from hsgk]
          repeat' (first | (refine And.intro ?_ ?_) | (intro h; (try first | replace h := of_decide_eq_true h | replace h := of_decide_eq_false h); (try simp only [sg] at h); (try simp only [sx, ↓reduceIte, Nat.reduceAdd, reduceCtorEq, Int.reduceLT, Int.reduceLE, Int.reduceSub, Nat.reduceEqDiff, Nat.reduceLT] at h); try exact nz h))
          all_goals (try exact cz)
          refine ⟨_, ⟨[(0, .str s), (4, (.slice 0 0 acc.length 1 none)), (5, .int .i64 i), (7, .int .i64 (k + 1 : Nat))], [(0, some (.cells (acc.map encS) false))], 1⟩, reb_num [0] (by first | rfl | kernel_rfl) ⟨.refl _, .refl _, .refl _, .refl _, trivial⟩ ⟨⟨by decide, _, rfl, wkB_same (fS _)⟩, trivial⟩, ⟨k + 1, ⟨by omega, by omega, rfl, fun j h1 h2 => ?_⟩, rfl⟩, by omega⟩
          rcases Nat.lt_or_ge j k with h' | h'
          · exact hall j h1 h'
          · obtain rfl : j = k := by omega
            exact hks
        · rw [Bool.not_eq_true] at hks
          have hsgk : signN (s.getD k 0).toNat = false := by rw [signN_eq]; exact hks
          have hik' : i < k := by
            rcases Nat.eq_or_lt_of_le hik with rfl | h
            · rw [hsF] at hks; cases hks
            · exact h
          have hw := wgo_word (acc := acc) hik' hkl hall (.inr ⟨hkn, hks⟩)
          repeat' (first | (refine And.intro ?_ ?_) | (intro h; (try first | replace h := of_decide_eq_true h | replace h := of_decide_eq_false h); (try simp only [sg] at h); (try simp only [sx, ↓reduceIte, Nat.reduceAdd, reduceCtorEq, Int.reduceLT, Int.reduceLE, Int.reduceSub, Nat.reduceEqDiff, Nat.reduceLT] at h); try exact nz h))
          all_goals (try exact cz)
          refine ⟨_, rfl, ?_⟩
          rw [show signN (s.getD ((k : Nat) : Int).toNat 0).toNat = false from hsgk]
          repeat' (first | (refine And.intro ?_ ?_) | (intro h; (try first | replace h := of_decide_eq_true h | replace h := of_decide_eq_false h); (try simp only [sg] at h); (try simp only [sx, ↓reduceIte, Nat.reduceAdd, reduceCtorEq, Int.reduceLT, Int.reduceLE, Int.reduceSub, Nat.reduceEqDiff, Nat.reduceLT] at h); try exact nz h))
          all_goals (try exact cz)
          all_goals (try ((with_reducible show (_ : Nat) ≤ (_ : Nat)); (show _ * 16 ≤ _); omega))
          refine ⟨_, ⟨[(0, .str s), (4, .slice 0 0 (acc ++ [List.take (k - i) (List.drop i s)]).length 1 none), (5, .int .i64 (k : Nat))], [(0, some (.cells ((acc ++ [List.take (k - i) (List.drop i s)]).map encS) false))], 1⟩, reb_num [2] (by first | rfl | kernel_rfl) ⟨.refl _, wk_slc (by simp), wk_int (by omega), trivial⟩ ⟨⟨by decide, _, rfl, wkB_eq ?_ (fS _)⟩, trivial⟩, ⟨k, acc ++ [List.take (k - i) (List.drop i s)], ⟨by omega, rfl, by rw [List.length_append]; first | (show _ + 1 ≤ _; omega) | (show 0 + 1 ≤ _; omega), ?_⟩, .inr ⟨by simp, rfl⟩⟩, by omega⟩
          · first | rfl | exact app_one acc _ | (simp only [Int.toNat_natCast]; first | rfl | exact app_one acc _)
          · rw [← hw]; exact hgo
      · obtain rfl : k = s.length := by omega
        have hw := wgo_word (acc := acc) (k := s.length) hin hkl hall (.inl rfl)
        repeat' (first | (refine And.intro ?_ ?_) | (intro h; (try first | replace h := of_decide_eq_true h | replace h := of_decide_eq_false h); (try simp only [sg] at h); (try simp only [sx, ↓reduceIte, Nat.reduceAdd, reduceCtorEq, Int.reduceLT, Int.reduceLE, Int.reduceSub, Nat.reduceEqDiff, Nat.reduceLT] at h); try exact nz h))
        all_goals (try exact cz)
        all_goals (try ((with_reducible show (_ : Nat) ≤ (_ : Nat)); (show _ * 16 ≤ _); omega))
        refine ⟨_, ⟨[(0, .str s), (4, .slice 0 0 (acc ++ [List.take (s.length - i) (List.drop i s)]).length 1 none), (5, .int .i64 (s.length : Nat))], [(0, some (.cells ((acc ++ [List.take (s.length - i) (List.drop i s)]).map encS) false))], 1⟩, reb_num [2] (by first | rfl | kernel_rfl) ⟨.refl _, wk_slc (by simp), wk_int (by omega), trivial⟩ ⟨⟨by decide, _, rfl, wkB_eq ?_ (fS _)⟩, trivial⟩, ⟨s.length, acc ++ [List.take (s.length - i) (List.drop i s)], ⟨by omega, rfl, by rw [List.length_append]; first | (show _ + 1 ≤ _; omega) | (show 0 + 1 ≤ _; omega), ?_⟩, .inr ⟨by simp, rfl⟩⟩, by omega⟩
        · first | rfl | exact app_one acc _ | (simp only [Int.toNat_natCast]; first | rfl | exact app_one acc _)
        · rw [← hw]; exact hgo
    · -- m123
      have hsg : signN (s.getD i 0).toNat = false := by rw [signN_eq]; exact hsF
      repeat' (first | (refine And.intro ?_ ?_) | (intro h; (try first | replace h := of_decide_eq_true h | replace h := of_decide_eq_false h); (try simp only [sg] at h); (try simp only [sx, ↓reduceIte, Nat.reduceAdd, reduceCtorEq, Int.reduceLT, Int.reduceLE, Int.reduceSub, Nat.reduceEqDiff, Nat.reduceLT] at h); try exact nz h))
      all_goals (try exact cz)
      refine ⟨_, rfl, ?_⟩
      rw [show signN (s.getD ((i : Nat) : Int).toNat 0).toNat = false from hsg]
      repeat' (first | (refine And.intro ?_ ?_) | (intro h; (try first | replace h := of_decide_eq_true h | replace h := of_decide_eq_false h); (try simp only [sg] at h); (try simp only [sx, ↓reduceIte, Nat.reduceAdd, reduceCtorEq, Int.reduceLT, Int.reduceLE, Int.reduceSub, Nat.reduceEqDiff, Nat.reduceLT] at h); try exact nz h))
      all_goals (try exact cz)
      all_goals (try ((with_reducible show (_ : Nat) ≤ (_ : Nat)); (show _ * 16 ≤ _); omega))
      refine ⟨_, ⟨[(0, .str s), (4, .slice 0 0 (acc ++ [[s.getD i 0]]).length 1 none), (5, .int .i64 (i + 1 : Nat))], [(0, some (.cells ((acc ++ [[s.getD i 0]]).map encS) false))], 1⟩, reb_num [2] (by first | rfl | kernel_rfl) ⟨.refl _, wk_slc (by simp), wk_int (by omega), trivial⟩ ⟨⟨by decide, _, rfl, wkB_eq ?_ (fS _)⟩, trivial⟩, ⟨i + 1, acc ++ [[s.getD i 0]], ⟨by omega, rfl, by rw [List.length_append]; first | (show _ + 1 ≤ _; omega) | (show 0 + 1 ≤ _; omega), ?_⟩, .inr ⟨by simp, rfl⟩⟩, by omega⟩
      · rw [← mark_cut hin]; exact app_one acc _
      · rw [← hgo, hdrop, wgo, if_neg (by rw [hsF]; decide), if_pos hmF]; rfl
    · -- m125
      have hsg : signN (s.getD i 0).toNat = false := by rw [signN_eq]; exact hsF
      repeat' (first | (refine And.intro ?_ ?_) | (intro h; (try first | replace h := of_decide_eq_true h | replace h := of_decide_eq_false h); (try simp only [sg] at h); (try simp only [sx, ↓reduceIte, Nat.reduceAdd, reduceCtorEq, Int.reduceLT, Int.reduceLE, Int.reduceSub, Nat.reduceEqDiff, Nat.reduceLT] at h); try exact nz h))
      all_goals (try exact cz)
      refine ⟨_, rfl, ?_⟩
      rw [show signN (s.getD ((i : Nat) : Int).toNat 0).toNat = false from hsg]
      repeat' (first | (refine And.intro ?_ ?_) | (intro h; (try first | replace h := of_decide_eq_true h | replace h := of_decide_eq_false h); (try simp only [sg] at h); (try simp only [sx, ↓reduceIte, Nat.reduceAdd, reduceCtorEq, Int.reduceLT, Int.reduceLE, Int.reduceSub, Nat.reduceEqDiff, Nat.reduceLT] at h); try exact nz h))
      all_goals (try exact cz)
      all_goals (try ((with_reducible show (_ : Nat) ≤ (_ : Nat)); (show _ * 16 ≤ _); omega))
      refine ⟨_, ⟨[(0, .str s), (4, .slice 0 0 (acc ++ [[s.getD i 0]]).length 1 none), (5, .int .i64 (i + 1 : Nat))], [(0, some (.cells ((acc ++ [[s.getD i 0]]).map encS) false))], 1⟩, reb_num [2] (by first | rfl | kernel_rfl) ⟨.refl _, wk_slc (by simp), wk_int (by omega), trivial⟩ ⟨⟨by decide, _, rfl, wkB_eq ?_ (fS _)⟩, trivial⟩, ⟨i + 1, acc ++ [[s.getD i 0]], ⟨by omega, rfl, by rw [List.length_append]; first | (show _ + 1 ≤ _; omega) | (show 0 + 1 ≤ _; omega), ?_⟩, .inr ⟨by simp, rfl⟩⟩, by omega⟩
      · rw [← mark_cut hin]; exact app_one acc _
      · rw [← hgo, hdrop, wgo, if_neg (by rw [hsF]; decide), if_pos hmF]; rfl
    · -- m59
      have hsg : signN (s.getD i 0).toNat = false := by rw [signN_eq]; exact hsF
      repeat' (first | (refine And.intro ?_ ?_) | (intro h; (try first | replace h := of_decide_eq_true h | replace h := of_decide_eq_false h); (try simp only [sg] at h); (try simp only [sx, ↓reduceIte, Nat.reduceAdd, reduceCtorEq, Int.reduceLT, Int.reduceLE, Int.reduceSub, Nat.reduceEqDiff, Nat.reduceLT] at h); try exact nz h))
      all_goals (try exact cz)
      refine ⟨_, rfl, ?_⟩
      rw [show signN (s.getD ((i : Nat) : Int).toNat 0).toNat = false from hsg]
      repeat' (first | (refine And.intro ?_ ?_) | (intro h; (try first | replace h := of_decide_eq_true h | replace h := of_decide_eq_false h); (try simp only [sg] at h); (try simp only [sx, ↓reduceIte, Nat.reduceAdd, reduceCtorEq, Int.reduceLT, Int.reduceLE, Int.reduceSub, Nat.reduceEqDiff, Nat.reduceLT] at h); try exact nz h))
      all_goals (try exact cz)
      all_goals (try ((with_reducible show (_ : Nat) ≤ (_ : Nat)); (show _ * 16 ≤ _); omega))
      refine ⟨_, ⟨[(0, .str s), (4, .slice 0 0 (acc ++ [[s.getD i 0]]).length 1 none), (5, .int .i64 (i + 1 : Nat))], [(0, some (.cells ((acc ++ [[s.getD i 0]]).map encS) false))], 1⟩, reb_num [2] (by first | rfl | kernel_rfl) ⟨.refl _, wk_slc (by simp), wk_int (by omega), trivial⟩ ⟨⟨by decide, _, rfl, wkB_eq ?_ (fS _)⟩, trivial⟩, ⟨i + 1, acc ++ [[s.getD i 0]], ⟨by omega, rfl, by rw [List.length_append]; first | (show _ + 1 ≤ _; omega) | (show 0 + 1 ≤ _; omega), ?_⟩, .inr ⟨by simp, rfl⟩⟩, by omega⟩
      · rw [← mark_cut hin]; exact app_one acc _
      · rw [← hgo, hdrop, wgo, if_neg (by rw [hsF]; decide), if_pos hmF]; rfl
    · -- b32
      have hsg : signN (s.getD i 0).toNat = false := by rw [signN_eq]; exact hsF
      repeat' (first | (refine And.intro ?_ ?_) | (intro h; (try first | replace h := of_decide_eq_true h | replace h := of_decide_eq_false h); (try simp only [sg] at h); (try simp only [sx, ↓reduceIte, Nat.reduceAdd, reduceCtorEq, Int.reduceLT, Int.reduceLE, Int.reduceSub, Nat.reduceEqDiff, Nat.reduceLT] at h); try exact nz h))
      all_goals (try exact cz)
      refine ⟨_, rfl, ?_⟩
      rw [show signN (s.getD ((i : Nat) : Int).toNat 0).toNat = false from hsg]
      repeat' (first | (refine And.intro ?_ ?_) | (intro h; (try first | replace h := of_decide_eq_true h | replace h := of_decide_eq_false h); (try simp only [sg] at h); (try simp only [sx, ↓reduceIte, Nat.reduceAdd, reduceCtorEq, Int.reduceLT, Int.reduceLE, Int.reduceSub, Nat.reduceEqDiff, Nat.reduceLT] at h); try exact nz h))
      all_goals (try exact cz)
      refine ⟨_, ⟨[(0, .str s), (4, (.slice 0 0 acc.length 1 none)), (5, .int .i64 (i + 1 : Nat))], [(0, some (.cells (acc.map encS) false))], 1⟩, reb_num [0] (by first | rfl | kernel_rfl) ⟨.refl _, .refl _, .refl _, trivial⟩ ⟨⟨by decide, _, rfl, wkB_same (fS _)⟩, trivial⟩, ⟨i + 1, acc, ⟨by omega, rfl, by first | omega | (simp only [List.length_nil]; omega), ?_⟩, .inr ⟨hne, rfl⟩⟩, by omega⟩
      rw [← hgo, hdrop, wgo, if_neg (by rw [hsF]; decide), if_neg (by rw [hmF]; decide), if_pos hbF]; rfl
    · -- b9
      have hsg : signN (s.getD i 0).toNat = false := by rw [signN_eq]; exact hsF
      repeat' (first | (refine And.intro ?_ ?_) | (intro h; (try first | replace h := of_decide_eq_true h | replace h := of_decide_eq_false h); (try simp only [sg] at h); (try simp only [sx, ↓reduceIte, Nat.reduceAdd, reduceCtorEq, Int.reduceLT, Int.reduceLE, Int.reduceSub, Nat.reduceEqDiff, Nat.reduceLT] at h); try exact nz h))
      all_goals (try exact cz)
      refine ⟨_, rfl, ?_⟩
      rw [show signN (s.getD ((i : Nat) : Int).toNat 0).toNat = false from hsg]
      repeat' (first | (refine And.intro ?_ ?_) | (intro h; (try first | replace h := of_decide_eq_true h | replace h := of_decide_eq_false h); (try simp only [sg] at h); (try simp only [sx, ↓reduceIte, Nat.reduceAdd, reduceCtorEq, Int.reduceLT, Int.reduceLE, Int.reduceSub, Nat.reduceEqDiff, Nat.reduceLT] at h); try exact nz h))
      all_goals (try exact cz)
      refine ⟨_, ⟨[(0, .str s), (4, (.slice 0 0 acc.length 1 none)), (5, .int .i64 (i + 1 : Nat))], [(0, some (.cells (acc.map encS) false))], 1⟩, reb_num [0] (by first | rfl | kernel_rfl) ⟨.refl _, .refl _, .refl _, trivial⟩ ⟨⟨by decide, _, rfl, wkB_same (fS _)⟩, trivial⟩, ⟨i + 1, acc, ⟨by omega, rfl, by first | omega | (simp only [List.length_nil]; omega), ?_⟩, .inr ⟨hne, rfl⟩⟩, by omega⟩
      rw [← hgo, hdrop, wgo, if_neg (by rw [hsF]; decide), if_neg (by rw [hmF]; decide), if_pos hbF]; rfl
    · -- b10
      have hsg : signN (s.getD i 0).toNat = false := by rw [signN_eq]; exact hsF
      repeat' (first | (refine And.intro ?_ ?_) | (intro h; (try first | replace h := of_decide_eq_true h | replace h := of_decide_eq_false h); (try simp only [sg] at h); (try simp only [sx, ↓reduceIte, Nat.reduceAdd, reduceCtorEq, Int.reduceLT, Int.reduceLE, Int.reduceSub, Nat.reduceEqDiff, Nat.reduceLT] at h); try exact nz h))
      all_goals (try exact cz)
      refine ⟨_, rfl, ?_⟩
      rw [show signN (s.getD ((i : Nat) : Int).toNat 0).toNat = false from hsg]
      repeat' (first | (refine And.intro ?_ ?_) | (intro h; (try first | replace h := of_decide_eq_true h | replace h := of_decide_eq_false h); (try simp only [sg] at h); (try simp only [sx, ↓reduceIte, Nat.reduceAdd, reduceCtorEq, Int.reduceLT, Int.reduceLE, Int.reduceSub, Nat.reduceEqDiff, Nat.reduceLT] at h); try exact nz h))
      all_goals (try exact cz)
      refine ⟨_, ⟨[(0, .str s), (4, (.slice 0 0 acc.length 1 none)), (5, .int .i64 (i + 1 : Nat))], [(0, some (.cells (acc.map encS) false))], 1⟩, reb_num [0] (by first | rfl | kernel_rfl) ⟨.refl _, .refl _, .refl _, trivial⟩ ⟨⟨by decide, _, rfl, wkB_same (fS _)⟩, trivial⟩, ⟨i + 1, acc, ⟨by omega, rfl, by first | omega | (simp only [List.length_nil]; omega), ?_⟩, .inr ⟨hne, rfl⟩⟩, by omega⟩
      rw [← hgo, hdrop, wgo, if_neg (by rw [hsF]; decide), if_neg (by rw [hmF]; decide), if_pos hbF]; rfl
    · -- bad
      have hsg : signN (s.getD i 0).toNat = false := by rw [signN_eq]; exact hsF
      have hnone : wordsF s = none := by rw [← hgo, hdrop, wgo, if_neg (by rw [hsF]; decide), if_neg (by rw [hmF]; decide), if_neg (by rw [hbF]; decide)]
      repeat' (first | (refine And.intro ?_ ?_) | (intro h; (try first | replace h := of_decide_eq_true h | replace h := of_decide_eq_false h); (try simp only [sg] at h); (try simp only [sx, ↓reduceIte, Nat.reduceAdd, reduceCtorEq, Int.reduceLT, Int.reduceLE, Int.reduceSub, Nat.reduceEqDiff, Nat.reduceLT] at h); try exact nz h))
      all_goals (try exact cz)
      refine ⟨_, rfl, ?_⟩
      rw [show signN (s.getD ((i : Nat) : Int).toNat 0).toNat = false from hsg]
      repeat' (first | (refine And.intro ?_ ?_) | (intro h; (try first | replace h := of_decide_eq_true h | replace h := of_decide_eq_false h); (try simp only [sg] at h); (try simp only [sx, ↓reduceIte, Nat.reduceAdd, reduceCtorEq, Int.reduceLT, Int.reduceLE, Int.reduceSub, Nat.reduceEqDiff, Nat.reduceLT] at h); try exact nz h))
      all_goals (try exact cz)
      all_goals exact ⟨_, reb_flat [2, 3] rfl, _, rfl, hPn hnone, rfl⟩
    · -- high
      have hsg : signN (s.getD i 0).toNat = false := by rw [signN_eq]; exact hsF
      have hnone : wordsF s = none := by rw [← hgo, hdrop, wgo, if_neg (by rw [hsF]; decide), if_neg (by rw [hmF]; decide), if_neg (by rw [hbF]; decide)]
      repeat' (first | (refine And.intro ?_ ?_) | (intro h; (try first | replace h := of_decide_eq_true h | replace h := of_decide_eq_false h); (try simp only [sg] at h); (try simp only [sx, ↓reduceIte, Nat.reduceAdd, reduceCtorEq, Int.reduceLT, Int.reduceLE, Int.reduceSub, Nat.reduceEqDiff, Nat.reduceLT] at h); try exact nz h))
      all_goals (try exact cz)
      refine ⟨_, rfl, ?_⟩
      rw [show signN (s.getD ((i : Nat) : Int).toNat 0).toNat = false from hsg]
      repeat' (first | (refine And.intro ?_ ?_) | (intro h; (try first | replace h := of_decide_eq_true h | replace h := of_decide_eq_false h); (try simp only [sg] at h); (try simp only [sx, ↓reduceIte, Nat.reduceAdd, reduceCtorEq, Int.reduceLT, Int.reduceLE, Int.reduceSub, Nat.reduceEqDiff, Nat.reduceLT] at h); try exact nz h))
      all_goals (try exact cz)
      all_goals exact ⟨_, reb_flat [2, 3] rfl, _, rfl, hPn hnone, rfl⟩
end Go.Proofs.Ytjffmehcbaechaa
