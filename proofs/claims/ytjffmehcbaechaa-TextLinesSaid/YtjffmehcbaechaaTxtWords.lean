/-
  'words': a text's words. The program's.
-/
import Derived.Test.YtjffmehcbaechaaTxtNext
set_option linter.unusedVariables false
set_option linter.unusedSimpArgs false
namespace Go.Proofs.Ytjffmehcbaechaa
open Go Go.Av
set_option maxRecDepth 100000
set_option maxHeartbeats 16000000
def signI (c : Int) : Bool := decide ((97 ≤ c ∧ c ≤ 122) ∨ (48 ≤ c ∧ c ≤ 57) ∨ c = 95)
theorem signI_eq (c : UInt8) : signI ((c.toNat : Nat) : Int) = signF c := by
  rw [Bool.eq_iff_iff, signI, decide_eq_true_eq, signF, letterF]
  simp only [Bool.or_eq_true, Bool.and_eq_true, decide_eq_true_eq]
  omega
theorem signI_high {c : Nat} (h : 128 ≤ c) : signI (c : Int) = false := by
  rw [signI, decide_eq_false]
  omega
theorem part_t [Syms] (c : Int) : fnT noneT noneT (fnTab fns) (tyTab tys) (plTab plt) 100 37 [.int .i32 c] [] 0 (fun v H _ => v = .bool (signI c) ∧ H = []) := by
  generalize hs : signI c = b
  rw [signI] at hs
  repeat' (first | (refine And.intro ?_ ?_) | (intro h; (try first | replace h := of_decide_eq_true h | replace h := of_decide_eq_false h); (try simp only [sg] at h); (try simp only [sx, ↓reduceIte, Nat.reduceAdd, reduceCtorEq, Int.reduceLT, Int.reduceLE, Int.reduceSub, Nat.reduceEqDiff, Nat.reduceLT] at h); try exact nz h))
  all_goals (try exact cz)
  all_goals
    refine ⟨_, reb_flat [2] rfl, _, rfl, congrArg AVal.bool ?_, rfl⟩
    rw [← hs, Bool.eq_iff_iff, decide_eq_true_eq]
    try simp only [↓reduceIte, decide_eq_true_eq, Bool.false_eq_true]
    first | omega | (simp only [true_iff]; omega)
def S_part : SpecI := fun args K => ∃ c : Int, args = [.int .i32 c] ∧ K (.bool (signI c))
theorem part_ok [Syms] : ImmOk Try.prog 37 S_part := by
  rintro args K ⟨c, rfl, hk⟩
  exact ⟨rfl, _, rfl, hk, fnI tys_ok fns_ok noneT_det noneT_ok mixed (part_t c)⟩
abbrev cWd : CallT := pickT 37 (immT S_part) noneT
theorem cWd_ok [Syms] : cWd.ok Try.prog := pickT_imm_ok part_ok noneT_ok
theorem sign_num {c : UInt8} (h : signF c = true) : 48 ≤ c.toNat := by
  rw [signF, letterF] at h
  simp only [Bool.or_eq_true, Bool.and_eq_true, decide_eq_true_eq] at h
  omega
theorem app_one (acc : List Wd) (x : Wd) : List.take acc.length (List.drop 0 (acc.map encS)) ++ [[AVal.str x]] = (acc ++ [x]).map encS := by
  rw [List.drop_zero, List.take_of_length_le (by rw [List.length_map]; exact Nat.le_refl _), List.map_append]; rfl
theorem app_two (acc : List Wd) (x y : Wd) : List.take (acc.length + 1) (List.drop 0 (List.take acc.length (List.drop 0 (acc.map encS)) ++ [[AVal.str x]])) ++ [[AVal.str y]] = (acc ++ [x] ++ [y]).map encS := by
  rw [app_one, List.drop_zero, List.take_of_length_le (by simp), List.map_append (l₂ := [y])]; rfl
theorem drop_cons {s : List UInt8} {pos : Nat} (h : pos < s.length) : s.drop pos = s.getD pos 0 :: s.drop (pos + 1) := by
  rw [List.drop_eq_getElem_cons h]; simp [h]
theorem cur_one {s : List UInt8} {pos : Nat} (h : pos < s.length) : List.take (pos + 1 - pos) (List.drop pos s) = [] ++ [s.getD pos 0] ∧ pos < pos + 1 := by
  rw [drop_cons h, show pos + 1 - pos = 1 by omega]
  exact ⟨rfl, by omega⟩
theorem cur_more {s cur : List UInt8} {fr pos : Nat} (h : pos < s.length) (hc : List.take (pos - fr) (List.drop fr s) = cur ∧ fr < pos) : List.take (pos + 1 - fr) (List.drop fr s) = cur ++ [s.getD pos 0] ∧ fr < pos + 1 := by
  refine ⟨?_, by omega⟩
  rw [show pos + 1 - fr = (pos - fr) + 1 by omega, List.take_succ_eq_append_getElem (by rw [List.length_drop]; omega), hc.1]
  congr 2
  rw [List.getElem_drop]
  simp [show fr + (pos - fr) = pos by omega, h]
/-- The kinds of a byte. -/
theorem kinds_of (c : UInt8) : (signF c = true ∧ c.toNat < 128) ∨ (c.toNat = 123 ∧ signF c = false ∧ markF c = true ∧ c.toNat < 128) ∨ (c.toNat = 125 ∧ signF c = false ∧ markF c = true ∧ c.toNat < 128) ∨ (c.toNat = 59 ∧ signF c = false ∧ markF c = true ∧ c.toNat < 128) ∨
    (c.toNat = 32 ∧ signF c = false ∧ markF c = false ∧ blankF c = true ∧ c.toNat < 128) ∨ (c.toNat = 9 ∧ signF c = false ∧ markF c = false ∧ blankF c = true ∧ c.toNat < 128) ∨ (c.toNat = 10 ∧ signF c = false ∧ markF c = false ∧ blankF c = true ∧ c.toNat < 128) ∨
    (signF c = false ∧ markF c = false ∧ blankF c = false ∧ c.toNat < 128 ∧ (c.toNat ≠ 123 ∧ c.toNat ≠ 125 ∧ c.toNat ≠ 59 ∧ c.toNat ≠ 32 ∧ c.toNat ≠ 9 ∧ c.toNat ≠ 10)) ∨ (signF c = false ∧ markF c = false ∧ blankF c = false ∧ 128 ≤ c.toNat) := by
  have hs : signF c = true ↔ (97 ≤ c.toNat ∧ c.toNat ≤ 122) ∨ (48 ≤ c.toNat ∧ c.toNat ≤ 57) ∨ c.toNat = 95 := by
    rw [signF, letterF]
    simp only [Bool.or_eq_true, Bool.and_eq_true, decide_eq_true_eq]
    omega
  have hm : markF c = true ↔ c.toNat = 123 ∨ c.toNat = 125 ∨ c.toNat = 59 := by
    rw [markF]
    simp only [Bool.or_eq_true, decide_eq_true_eq]
    omega
  have hb : blankF c = true ↔ c.toNat = 32 ∨ c.toNat = 9 ∨ c.toNat = 10 := by
    rw [blankF]
    simp only [Bool.or_eq_true, decide_eq_true_eq]
    omega
  generalize c.toNat = n at *
  cases hsb : signF c <;> cases hmb : markF c <;> cases hbb : blankF c <;> simp only [hsb, hmb, hbb, reduceCtorEq, false_iff, true_iff, false_and, true_and, and_false, and_true, or_false, false_or, or_true, true_or] at * <;> omega
theorem words_t [Syms] (s : List UInt8) (hs : s.length ≤ 4000) :
    fnT noneT cWd (fnTab fns) (tyTab tys) (plTab plt) 100 22 [.str s] [] 0 (fun v H _ => v = (match wordsF s with | none => .tup [.nils, .bool false] | some l => .tup [vW l, .bool true]) ∧ H = []) := by
  have hPn : wordsF s = none → AVal.tup [.nils, .bool false] = (match wordsF s with | none => .tup [.nils, .bool false] | some l => .tup [vW l, .bool true]) := fun h => by rw [h]
  have hPs : ∀ l, wordsF s = some l → AVal.tup [vW l, .bool true] = (match wordsF s with | none => .tup [.nils, .bool false] | some l => .tup [vW l, .bool true]) := fun l h => by rw [h]
  generalize (match wordsF s with | none => AVal.tup [.nils, .bool false] | some l => .tup [vW l, .bool true]) = V at *
  repeat' (first | (refine And.intro ?_ ?_) | (intro h; (try first | replace h := of_decide_eq_true h | replace h := of_decide_eq_false h); (try simp only [sg] at h); (try simp only [sx, ↓reduceIte, Nat.reduceAdd, reduceCtorEq, Int.reduceLT, Int.reduceLE, Int.reduceSub, Nat.reduceEqDiff, Nat.reduceLT] at h); try exact nz h))
  all_goals (try exact cz)
  refine ⟨fun m st => ∃ (pos fr : Nat) (cur : Wd) (acc : List Wd) (last : Int), (pos ≤ s.length ∧ m = s.length - pos ∧ acc.length ≤ 2 * pos ∧ wgo (s.drop pos) cur acc = wordsF s ∧ (last = 0 ↔ cur = []) ∧ (cur ≠ [] → List.take (pos - fr) (List.drop fr s) = cur ∧ fr < pos)) ∧
      ((acc = [] ∧ st = ⟨[(0, .str s), (2, .nils), (4, .int .i64 (fr : Nat)), (5, .int .i32 last), (9, .obj 0)], [(0, some (.iter s pos))], 1⟩) ∨ (acc ≠ [] ∧ st = ⟨[(0, .str s), (2, .slice 1 0 acc.length 1 none), (4, .int .i64 (fr : Nat)), (5, .int .i32 last), (9, .obj 0)], [(0, some (.iter s pos)), (1, some (.cells (acc.map encS) false))], 2⟩)),
    ⟨_, ⟨[(0, .str s), (2, .nils), (4, .int .i64 (0 : Nat)), (5, .int .i32 0), (9, .obj 0)], [(0, some (.iter s 0))], 1⟩, reb_num [0] (by first | rfl | kernel_rfl) ⟨.refl _, .refl _, .refl _, .refl _, .refl _, trivial⟩ ⟨⟨by decide, _, rfl, .refl _⟩, trivial⟩, 0, 0, [], [], 0, ⟨by omega, rfl, by simp, rfl, ⟨fun _ => rfl, fun _ => rfl⟩, fun h => absurd rfl h⟩, .inl ⟨rfl, rfl⟩⟩, ?_⟩
  rintro m st ⟨pos, fr, cur, acc, last, ⟨hpos, rfl, hal, hgo, hlc, hcur'⟩, hsh⟩
  by_cases hin : pos < s.length
  rotate_left
  · -- the end
    obtain rfl : pos = s.length := by omega
    rw [List.drop_of_length_le (Nat.le_refl _), wgo] at hgo
    have hx1 : True = True := rfl
    rcases hsh with ⟨rfl, rfl⟩ | ⟨hne, rfl⟩
    · by_cases hlz : last = 0
      · have hcz := hlc.1 hlz
        subst hlz; subst hcz
        repeat' (first | (refine And.intro ?_ ?_) | (intro h; (try first | replace h := of_decide_eq_true h | replace h := of_decide_eq_false h); (try simp only [sg, hx1] at h); (try simp only [sx, ↓reduceIte, Nat.reduceAdd, reduceCtorEq, Int.reduceLT, Int.reduceLE, Int.reduceSub, Nat.reduceEqDiff, Nat.reduceLT] at h); try exact nz h))
        all_goals (try exact cz)
        all_goals exact ⟨_, (reb_slot (k := 2) (y := vW []) fun ι v hv => .vt _ _ _ _ (RelV.isZ (sz := 1) (by rfl) hv)).trans (reb_flat [2, 3] rfl), _, rfl, hPs [] hgo.symm, rfl⟩
      · have hcn : cur ≠ [] := fun h => hlz (hlc.2 h)
        have hcur := (hcur' hcn).1
        have hfp := (hcur' hcn).2
        rw [flushW, if_neg hcn] at hgo
        have hc2 : List.take (s.length - fr) (List.drop fr s) = cur := hcur
        repeat' (first | (refine And.intro ?_ ?_) | (intro h; (try first | replace h := of_decide_eq_true h | replace h := of_decide_eq_false h); (try simp only [sg, hx1] at h); (try simp only [sx, ↓reduceIte, Nat.reduceAdd, reduceCtorEq, Int.reduceLT, Int.reduceLE, Int.reduceSub, Nat.reduceEqDiff, Nat.reduceLT] at h); try exact nz h))
        all_goals (try exact cz)
        all_goals (try ((with_reducible show (_ : Nat) ≤ (_ : Nat)); (show _ * 16 ≤ _); omega))
        refine ⟨_, reb_own_keep (k := 2) (enc := encS) [] (l := [cur]) [(3, .bool true)] [] rfl rfl ?_ ?_ (Nat.le_refl _) ?_ ?_, _, rfl, hPs [cur] hgo.symm, rfl⟩
        · exact fS [List.take (s.length - fr) (List.drop fr s)]
        · show [[AVal.str (List.take (s.length - fr) (List.drop fr s))]] = _
          rw [hc2]; rfl
        · intro p hp; simp at hp; subst hp; exact ⟨(by show (3 : Nat) ≠ 2; decide), rfl⟩
        · intro n b h; rw [Heap.get_nil] at h; cases h
    · by_cases hlz : last = 0
      · have hcz := hlc.1 hlz
        subst hlz; subst hcz
        repeat' (first | (refine And.intro ?_ ?_) | (intro h; (try first | replace h := of_decide_eq_true h | replace h := of_decide_eq_false h); (try simp only [sg, hx1] at h); (try simp only [sx, ↓reduceIte, Nat.reduceAdd, reduceCtorEq, Int.reduceLT, Int.reduceLE, Int.reduceSub, Nat.reduceEqDiff, Nat.reduceLT] at h); try exact nz h))
        all_goals (try exact cz)
        refine ⟨_, reb_own_keep (k := 2) (enc := encS) [] (l := acc) [(3, .bool true)] [] rfl rfl (fS _) ?_ ?_ ?_ ?_, _, rfl, hPs acc hgo.symm, rfl⟩
        · exact List.take_of_length_le (by rw [List.length_map]; exact Nat.le_refl _)
        · rw [List.length_map]; exact Nat.le_refl _
        · intro p hp; simp at hp; subst hp; exact ⟨(by show (3 : Nat) ≠ 2; decide), rfl⟩
        · intro n b h; rw [Heap.get_nil] at h; cases h
      · have hcn : cur ≠ [] := fun h => hlz (hlc.2 h)
        have hcur := (hcur' hcn).1
        have hfp := (hcur' hcn).2
        rw [flushW, if_neg hcn] at hgo
        have hc2 : List.take (s.length - fr) (List.drop fr s) = cur := hcur
        repeat' (first | (refine And.intro ?_ ?_) | (intro h; (try first | replace h := of_decide_eq_true h | replace h := of_decide_eq_false h); (try simp only [sg, hx1] at h); (try simp only [sx, ↓reduceIte, Nat.reduceAdd, reduceCtorEq, Int.reduceLT, Int.reduceLE, Int.reduceSub, Nat.reduceEqDiff, Nat.reduceLT] at h); try exact nz h))
        all_goals (try exact cz)
        all_goals (try ((with_reducible show (_ : Nat) ≤ (_ : Nat)); (show _ * 16 ≤ _); omega))
        have hrow : List.take acc.length (List.drop 0 (acc.map encS)) ++ [[AVal.str (List.take (s.length - fr) (List.drop fr s))]] = (acc ++ [cur]).map encS := by rw [hc2]; exact app_one acc cur
        have hlen : (acc ++ [cur]).length = acc.length + 1 := by simp
        refine ⟨_, reb_own_keep (k := 2) (enc := encS) [] (l := acc ++ [cur]) (len := acc.length + 1) (rows := List.take acc.length (List.drop 0 (acc.map encS)) ++ [[AVal.str (List.take (s.length - fr) (List.drop fr s))]]) [(3, .bool true)] [] rfl rfl (by rw [hrow]; exact fS _) ?_ ?_ ?_ ?_, _, rfl, hPs _ hgo.symm, rfl⟩
        · rw [hrow]; exact List.take_of_length_le (by rw [List.length_map, hlen]; exact Nat.le_refl _)
        · rw [hrow, List.length_map, hlen]; exact Nat.le_refl _
        · intro p hp; simp at hp; subst hp; exact ⟨(by show (3 : Nat) ≠ 2; decide), rfl⟩
        · intro n b h; rw [Heap.get_nil] at h; cases h
  have hdrop := drop_cons hin
  have hkind := kinds_of (s.getD pos 0)
  rcases hsh with ⟨rfl, rfl⟩ | ⟨hne, rfl⟩
  · -- no words yet
    have hx0 : True = True := rfl
    rcases hkind with ⟨hsF, hlow⟩ | ⟨hv, hsF, hmF, hlow⟩ | ⟨hv, hsF, hmF, hlow⟩ | ⟨hv, hsF, hmF, hlow⟩ | ⟨hv, hsF, hmF, hbF, hlow⟩ | ⟨hv, hsF, hmF, hbF, hlow⟩ | ⟨hv, hsF, hmF, hbF, hlow⟩ | ⟨hsF, hmF, hbF, hlow, hv⟩ | ⟨hsF, hmF, hbF, hhi⟩
    · -- sign
      have hd := dec_low hin hlow
      have hx1 := congrArg Prod.fst hd
      have hx2 := congrArg Prod.snd hd
      simp only at hx1 hx2
      have hsg : signI ((Utf8.decode ⟨⟨s⟩⟩ pos).1 : Nat) = signF (s.getD pos 0) := by rw [hx1]; exact signI_eq _
      rw [hsF] at hsg
      have h48 := sign_num hsF
      by_cases hlz : last = 0
      · have hcz : cur = [] := hlc.1 hlz
        subst hlz
        repeat' (first | (refine And.intro ?_ ?_) | (intro h; (try first | replace h := of_decide_eq_true h | replace h := of_decide_eq_false h); (try simp only [sg, hx1] at h); (try simp only [sx, ↓reduceIte, Nat.reduceAdd, reduceCtorEq, Int.reduceLT, Int.reduceLE, Int.reduceSub, Nat.reduceEqDiff, Nat.reduceLT] at h); try exact nz h))
        all_goals (try exact cz)
        all_goals (try ((with_reducible show (_ : Nat) ≤ (_ : Nat)); (show _ * 16 ≤ _); omega))
        refine ⟨_, rfl, ?_⟩
        rw [show signI ((Utf8.decode ⟨⟨s⟩⟩ pos).1 : Nat) = true from hsg]
        repeat' (first | (refine And.intro ?_ ?_) | (intro h; (try first | replace h := of_decide_eq_true h | replace h := of_decide_eq_false h); (try simp only [sg, hx1] at h); (try simp only [sx, ↓reduceIte, Nat.reduceAdd, reduceCtorEq, Int.reduceLT, Int.reduceLE, Int.reduceSub, Nat.reduceEqDiff, Nat.reduceLT] at h); try exact nz h))
        all_goals (try exact cz)
        all_goals (try ((with_reducible show (_ : Nat) ≤ (_ : Nat)); (show _ * 16 ≤ _); omega))
        refine ⟨_, ⟨[(0, .str s), (2, .nils), (4, .int .i64 (pos : Nat)), (5, .int .i32 ((Utf8.decode ⟨⟨s⟩⟩ pos).1 : Nat)), (9, .obj 0)], [(0, some (.iter s (pos + 1)))], 1⟩, reb_num [0] (by first | rfl | kernel_rfl) ⟨.refl _, .refl _, .refl _, .refl _, .refl _, trivial⟩ ⟨⟨by decide, _, rfl, by rw [hx2]; exact .refl _⟩, trivial⟩, ⟨pos + 1, pos, cur ++ [s.getD pos 0], [], _, ⟨by omega, rfl, ?_, ?_, ?_, ?_⟩, .inl ⟨rfl, rfl⟩⟩, by omega⟩
        · show ([] : List Wd).length ≤ 2 * (pos + 1)
          first | omega | (simp <;> omega)
        · rw [← hgo, hdrop, wgo]
          rw [if_pos hsF]
        · rw [hcz]; exact ⟨fun h => absurd h (by rw [hx1]; omega), fun h => absurd h (by simp)⟩
        · intro _; rw [hcz]; exact cur_one hin
      · have hcn : cur ≠ [] := fun h => hlz (hlc.2 h)
        have hcur := (hcur' hcn).1
        have hfp := (hcur' hcn).2
        repeat' (first | (refine And.intro ?_ ?_) | (intro h; (try first | replace h := of_decide_eq_true h | replace h := of_decide_eq_false h); (try simp only [sg, hx1] at h); (try simp only [sx, ↓reduceIte, Nat.reduceAdd, reduceCtorEq, Int.reduceLT, Int.reduceLE, Int.reduceSub, Nat.reduceEqDiff, Nat.reduceLT] at h); try exact nz h))
        all_goals (try exact cz)
        all_goals (try ((with_reducible show (_ : Nat) ≤ (_ : Nat)); (show _ * 16 ≤ _); omega))
        refine ⟨_, rfl, ?_⟩
        rw [show signI ((Utf8.decode ⟨⟨s⟩⟩ pos).1 : Nat) = true from hsg]
        repeat' (first | (refine And.intro ?_ ?_) | (intro h; (try first | replace h := of_decide_eq_true h | replace h := of_decide_eq_false h); (try simp only [sg, hx1] at h); (try simp only [sx, ↓reduceIte, Nat.reduceAdd, reduceCtorEq, Int.reduceLT, Int.reduceLE, Int.reduceSub, Nat.reduceEqDiff, Nat.reduceLT] at h); try exact nz h))
        all_goals (try exact cz)
        all_goals (try ((with_reducible show (_ : Nat) ≤ (_ : Nat)); (show _ * 16 ≤ _); omega))
        refine ⟨_, rfl, ?_⟩
        rw [show signI ((Utf8.decode ⟨⟨s⟩⟩ pos).1 : Nat) = true from hsg]
        repeat' (first | (refine And.intro ?_ ?_) | (intro h; (try first | replace h := of_decide_eq_true h | replace h := of_decide_eq_false h); (try simp only [sg, hx1] at h); (try simp only [sx, ↓reduceIte, Nat.reduceAdd, reduceCtorEq, Int.reduceLT, Int.reduceLE, Int.reduceSub, Nat.reduceEqDiff, Nat.reduceLT] at h); try exact nz h))
        all_goals (try exact cz)
        all_goals (try ((with_reducible show (_ : Nat) ≤ (_ : Nat)); (show _ * 16 ≤ _); omega))
        refine ⟨_, ⟨[(0, .str s), (2, .nils), (4, .int .i64 (fr : Nat)), (5, .int .i32 ((Utf8.decode ⟨⟨s⟩⟩ pos).1 : Nat)), (9, .obj 0)], [(0, some (.iter s (pos + 1)))], 1⟩, reb_num [0] (by first | rfl | kernel_rfl) ⟨.refl _, .refl _, .refl _, .refl _, .refl _, trivial⟩ ⟨⟨by decide, _, rfl, by rw [hx2]; exact .refl _⟩, trivial⟩, ⟨pos + 1, fr, cur ++ [s.getD pos 0], [], _, ⟨by omega, rfl, ?_, ?_, ?_, ?_⟩, .inl ⟨rfl, rfl⟩⟩, by omega⟩
        · show ([] : List Wd).length ≤ 2 * (pos + 1)
          first | omega | (simp <;> omega)
        · rw [← hgo, hdrop, wgo]
          rw [if_pos hsF]
        · exact ⟨fun h => absurd h (by rw [hx1]; omega), fun h => absurd h (by simp)⟩
        · intro _; exact cur_more hin (hcur' hcn)
    · -- m123
      have hd := dec_low hin hlow
      have hx1 := congrArg Prod.fst hd
      have hx2 := congrArg Prod.snd hd
      simp only at hx1 hx2
      have hsg : signI ((Utf8.decode ⟨⟨s⟩⟩ pos).1 : Nat) = signF (s.getD pos 0) := by rw [hx1]; exact signI_eq _
      rw [hsF] at hsg
      have hx3 : (Utf8.decode ⟨⟨s⟩⟩ pos).1 = 123 := hx1.trans hv
      have hcM : s.getD pos 0 = UInt8.ofNat 123 := by rw [← hv]; exact (UInt8.ofNat_toNat).symm
      by_cases hlz : last = 0
      · have hcz : cur = [] := hlc.1 hlz
        subst hlz
        repeat' (first | (refine And.intro ?_ ?_) | (intro h; (try first | replace h := of_decide_eq_true h | replace h := of_decide_eq_false h); (try simp only [sg, hx1] at h); (try simp only [sx, ↓reduceIte, Nat.reduceAdd, reduceCtorEq, Int.reduceLT, Int.reduceLE, Int.reduceSub, Nat.reduceEqDiff, Nat.reduceLT] at h); try exact nz h))
        all_goals (try exact cz)
        all_goals (try ((with_reducible show (_ : Nat) ≤ (_ : Nat)); (show _ * 16 ≤ _); omega))
        refine ⟨_, rfl, ?_⟩
        rw [show signI ((Utf8.decode ⟨⟨s⟩⟩ pos).1 : Nat) = false from hsg]
        repeat' (first | (refine And.intro ?_ ?_) | (intro h; (try first | replace h := of_decide_eq_true h | replace h := of_decide_eq_false h); (try simp only [sg, hx1] at h); (try simp only [sx, ↓reduceIte, Nat.reduceAdd, reduceCtorEq, Int.reduceLT, Int.reduceLE, Int.reduceSub, Nat.reduceEqDiff, Nat.reduceLT] at h); try exact nz h))
        all_goals (try exact cz)
        all_goals (try ((with_reducible show (_ : Nat) ≤ (_ : Nat)); (show _ * 16 ≤ _); omega))
        refine ⟨_, ⟨[(0, .str s), (2, .slice 1 0 (([] : List Wd) ++ [[UInt8.ofNat 123]]).length 1 none), (4, .int .i64 (fr : Nat)), (5, .int .i32 0), (9, .obj 0)], [(0, some (.iter s (pos + 1))), (1, some (.cells ((([] : List Wd) ++ [[UInt8.ofNat 123]]).map encS) false))], 2⟩, reb_num [0, 3] (by first | rfl | kernel_rfl) ⟨.refl _, wk_slc (by simp), .refl _, .refl _, .refl _, trivial⟩ ⟨⟨by decide, _, rfl, by rw [hx2]; exact .refl _⟩, ⟨by decide, _, rfl, wkB_eq ?_ (fS _)⟩, trivial⟩, ⟨pos + 1, fr, [], ([] : List Wd) ++ [[UInt8.ofNat 123]], _, ⟨by omega, rfl, ?_, ?_, ?_, ?_⟩, .inr ⟨by simp, rfl⟩⟩, by omega⟩
        · simp only [hx3]
          rfl
        · show (([] : List Wd) ++ [[UInt8.ofNat 123]]).length ≤ 2 * (pos + 1)
          first | omega | (simp <;> omega)
        · rw [← hgo, hdrop, wgo]
          rw [if_neg (by rw [hsF]; decide)]
          rw [if_pos hmF]
          simp only [hcz, flushW, if_true]
          rw [hcM]
        · exact ⟨fun _ => rfl, fun _ => rfl⟩
        · intro h; exact absurd rfl h
      · have hcn : cur ≠ [] := fun h => hlz (hlc.2 h)
        have hcur := (hcur' hcn).1
        have hfp := (hcur' hcn).2
        repeat' (first | (refine And.intro ?_ ?_) | (intro h; (try first | replace h := of_decide_eq_true h | replace h := of_decide_eq_false h); (try simp only [sg, hx1] at h); (try simp only [sx, ↓reduceIte, Nat.reduceAdd, reduceCtorEq, Int.reduceLT, Int.reduceLE, Int.reduceSub, Nat.reduceEqDiff, Nat.reduceLT] at h); try exact nz h))
        all_goals (try exact cz)
        all_goals (try ((with_reducible show (_ : Nat) ≤ (_ : Nat)); (show _ * 16 ≤ _); omega))
        refine ⟨_, rfl, ?_⟩
        rw [show signI ((Utf8.decode ⟨⟨s⟩⟩ pos).1 : Nat) = false from hsg]
        repeat' (first | (refine And.intro ?_ ?_) | (intro h; (try first | replace h := of_decide_eq_true h | replace h := of_decide_eq_false h); (try simp only [sg, hx1] at h); (try simp only [sx, ↓reduceIte, Nat.reduceAdd, reduceCtorEq, Int.reduceLT, Int.reduceLE, Int.reduceSub, Nat.reduceEqDiff, Nat.reduceLT] at h); try exact nz h))
        all_goals (try exact cz)
        all_goals (try ((with_reducible show (_ : Nat) ≤ (_ : Nat)); (show _ * 16 ≤ _); omega))
        refine ⟨_, rfl, ?_⟩
        rw [show signI ((Utf8.decode ⟨⟨s⟩⟩ pos).1 : Nat) = false from hsg]
        repeat' (first | (refine And.intro ?_ ?_) | (intro h; (try first | replace h := of_decide_eq_true h | replace h := of_decide_eq_false h); (try simp only [sg, hx1] at h); (try simp only [sx, ↓reduceIte, Nat.reduceAdd, reduceCtorEq, Int.reduceLT, Int.reduceLE, Int.reduceSub, Nat.reduceEqDiff, Nat.reduceLT] at h); try exact nz h))
        all_goals (try exact cz)
        all_goals (try ((with_reducible show (_ : Nat) ≤ (_ : Nat)); (show _ * 16 ≤ _); omega))
        refine ⟨_, ⟨[(0, .str s), (2, .slice 1 0 (([] : List Wd) ++ [cur] ++ [[UInt8.ofNat 123]]).length 1 none), (4, .int .i64 (fr : Nat)), (5, .int .i32 0), (9, .obj 0)], [(0, some (.iter s (pos + 1))), (1, some (.cells ((([] : List Wd) ++ [cur] ++ [[UInt8.ofNat 123]]).map encS) false))], 2⟩, reb_num [0, 5] (by first | rfl | kernel_rfl) ⟨.refl _, wk_slc (by simp), .refl _, .refl _, .refl _, trivial⟩ ⟨⟨by decide, _, rfl, by rw [hx2]; exact .refl _⟩, ⟨by decide, _, rfl, wkB_eq ?_ (fS _)⟩, trivial⟩, ⟨pos + 1, fr, [], ([] : List Wd) ++ [cur] ++ [[UInt8.ofNat 123]], _, ⟨by omega, rfl, ?_, ?_, ?_, ?_⟩, .inr ⟨by simp, rfl⟩⟩, by omega⟩
        · simp only [Int.toNat_natCast, hcur, hx3]
          rfl
        · show (([] : List Wd) ++ [cur] ++ [[UInt8.ofNat 123]]).length ≤ 2 * (pos + 1)
          first | omega | (simp <;> omega)
        · rw [← hgo, hdrop, wgo]
          rw [if_neg (by rw [hsF]; decide)]
          rw [if_pos hmF]
          rw [flushW, if_neg hcn]
          rw [hcM]
        · exact ⟨fun _ => rfl, fun _ => rfl⟩
        · intro h; exact absurd rfl h
    · -- m125
      have hd := dec_low hin hlow
      have hx1 := congrArg Prod.fst hd
      have hx2 := congrArg Prod.snd hd
      simp only at hx1 hx2
      have hsg : signI ((Utf8.decode ⟨⟨s⟩⟩ pos).1 : Nat) = signF (s.getD pos 0) := by rw [hx1]; exact signI_eq _
      rw [hsF] at hsg
      have hx3 : (Utf8.decode ⟨⟨s⟩⟩ pos).1 = 125 := hx1.trans hv
      have hcM : s.getD pos 0 = UInt8.ofNat 125 := by rw [← hv]; exact (UInt8.ofNat_toNat).symm
      by_cases hlz : last = 0
      · have hcz : cur = [] := hlc.1 hlz
        subst hlz
        repeat' (first | (refine And.intro ?_ ?_) | (intro h; (try first | replace h := of_decide_eq_true h | replace h := of_decide_eq_false h); (try simp only [sg, hx1] at h); (try simp only [sx, ↓reduceIte, Nat.reduceAdd, reduceCtorEq, Int.reduceLT, Int.reduceLE, Int.reduceSub, Nat.reduceEqDiff, Nat.reduceLT] at h); try exact nz h))
        all_goals (try exact cz)
        all_goals (try ((with_reducible show (_ : Nat) ≤ (_ : Nat)); (show _ * 16 ≤ _); omega))
        refine ⟨_, rfl, ?_⟩
        rw [show signI ((Utf8.decode ⟨⟨s⟩⟩ pos).1 : Nat) = false from hsg]
        repeat' (first | (refine And.intro ?_ ?_) | (intro h; (try first | replace h := of_decide_eq_true h | replace h := of_decide_eq_false h); (try simp only [sg, hx1] at h); (try simp only [sx, ↓reduceIte, Nat.reduceAdd, reduceCtorEq, Int.reduceLT, Int.reduceLE, Int.reduceSub, Nat.reduceEqDiff, Nat.reduceLT] at h); try exact nz h))
        all_goals (try exact cz)
        all_goals (try ((with_reducible show (_ : Nat) ≤ (_ : Nat)); (show _ * 16 ≤ _); omega))
        refine ⟨_, ⟨[(0, .str s), (2, .slice 1 0 (([] : List Wd) ++ [[UInt8.ofNat 125]]).length 1 none), (4, .int .i64 (fr : Nat)), (5, .int .i32 0), (9, .obj 0)], [(0, some (.iter s (pos + 1))), (1, some (.cells ((([] : List Wd) ++ [[UInt8.ofNat 125]]).map encS) false))], 2⟩, reb_num [0, 3] (by first | rfl | kernel_rfl) ⟨.refl _, wk_slc (by simp), .refl _, .refl _, .refl _, trivial⟩ ⟨⟨by decide, _, rfl, by rw [hx2]; exact .refl _⟩, ⟨by decide, _, rfl, wkB_eq ?_ (fS _)⟩, trivial⟩, ⟨pos + 1, fr, [], ([] : List Wd) ++ [[UInt8.ofNat 125]], _, ⟨by omega, rfl, ?_, ?_, ?_, ?_⟩, .inr ⟨by simp, rfl⟩⟩, by omega⟩
        · simp only [hx3]
          rfl
        · show (([] : List Wd) ++ [[UInt8.ofNat 125]]).length ≤ 2 * (pos + 1)
          first | omega | (simp <;> omega)
        · rw [← hgo, hdrop, wgo]
          rw [if_neg (by rw [hsF]; decide)]
          rw [if_pos hmF]
          simp only [hcz, flushW, if_true]
          rw [hcM]
        · exact ⟨fun _ => rfl, fun _ => rfl⟩
        · intro h; exact absurd rfl h
      · have hcn : cur ≠ [] := fun h => hlz (hlc.2 h)
        have hcur := (hcur' hcn).1
        have hfp := (hcur' hcn).2
        repeat' (first | (refine And.intro ?_ ?_) | (intro h; (try first | replace h := of_decide_eq_true h | replace h := of_decide_eq_false h); (try simp only [sg, hx1] at h); (try simp only [sx, ↓reduceIte, Nat.reduceAdd, reduceCtorEq, Int.reduceLT, Int.reduceLE, Int.reduceSub, Nat.reduceEqDiff, Nat.reduceLT] at h); try exact nz h))
        all_goals (try exact cz)
        all_goals (try ((with_reducible show (_ : Nat) ≤ (_ : Nat)); (show _ * 16 ≤ _); omega))
        refine ⟨_, rfl, ?_⟩
        rw [show signI ((Utf8.decode ⟨⟨s⟩⟩ pos).1 : Nat) = false from hsg]
        repeat' (first | (refine And.intro ?_ ?_) | (intro h; (try first | replace h := of_decide_eq_true h | replace h := of_decide_eq_false h); (try simp only [sg, hx1] at h); (try simp only [sx, ↓reduceIte, Nat.reduceAdd, reduceCtorEq, Int.reduceLT, Int.reduceLE, Int.reduceSub, Nat.reduceEqDiff, Nat.reduceLT] at h); try exact nz h))
        all_goals (try exact cz)
        all_goals (try ((with_reducible show (_ : Nat) ≤ (_ : Nat)); (show _ * 16 ≤ _); omega))
        refine ⟨_, rfl, ?_⟩
        rw [show signI ((Utf8.decode ⟨⟨s⟩⟩ pos).1 : Nat) = false from hsg]
        repeat' (first | (refine And.intro ?_ ?_) | (intro h; (try first | replace h := of_decide_eq_true h | replace h := of_decide_eq_false h); (try simp only [sg, hx1] at h); (try simp only [sx, ↓reduceIte, Nat.reduceAdd, reduceCtorEq, Int.reduceLT, Int.reduceLE, Int.reduceSub, Nat.reduceEqDiff, Nat.reduceLT] at h); try exact nz h))
        all_goals (try exact cz)
        all_goals (try ((with_reducible show (_ : Nat) ≤ (_ : Nat)); (show _ * 16 ≤ _); omega))
        refine ⟨_, ⟨[(0, .str s), (2, .slice 1 0 (([] : List Wd) ++ [cur] ++ [[UInt8.ofNat 125]]).length 1 none), (4, .int .i64 (fr : Nat)), (5, .int .i32 0), (9, .obj 0)], [(0, some (.iter s (pos + 1))), (1, some (.cells ((([] : List Wd) ++ [cur] ++ [[UInt8.ofNat 125]]).map encS) false))], 2⟩, reb_num [0, 5] (by first | rfl | kernel_rfl) ⟨.refl _, wk_slc (by simp), .refl _, .refl _, .refl _, trivial⟩ ⟨⟨by decide, _, rfl, by rw [hx2]; exact .refl _⟩, ⟨by decide, _, rfl, wkB_eq ?_ (fS _)⟩, trivial⟩, ⟨pos + 1, fr, [], ([] : List Wd) ++ [cur] ++ [[UInt8.ofNat 125]], _, ⟨by omega, rfl, ?_, ?_, ?_, ?_⟩, .inr ⟨by simp, rfl⟩⟩, by omega⟩
        · simp only [Int.toNat_natCast, hcur, hx3]
          rfl
        · show (([] : List Wd) ++ [cur] ++ [[UInt8.ofNat 125]]).length ≤ 2 * (pos + 1)
          first | omega | (simp <;> omega)
        · rw [← hgo, hdrop, wgo]
          rw [if_neg (by rw [hsF]; decide)]
          rw [if_pos hmF]
          rw [flushW, if_neg hcn]
          rw [hcM]
        · exact ⟨fun _ => rfl, fun _ => rfl⟩
        · intro h; exact absurd rfl h
    · -- m59
      have hd := dec_low hin hlow
      have hx1 := congrArg Prod.fst hd
      have hx2 := congrArg Prod.snd hd
      simp only at hx1 hx2
      have hsg : signI ((Utf8.decode ⟨⟨s⟩⟩ pos).1 : Nat) = signF (s.getD pos 0) := by rw [hx1]; exact signI_eq _
      rw [hsF] at hsg
      have hx3 : (Utf8.decode ⟨⟨s⟩⟩ pos).1 = 59 := hx1.trans hv
      have hcM : s.getD pos 0 = UInt8.ofNat 59 := by rw [← hv]; exact (UInt8.ofNat_toNat).symm
      by_cases hlz : last = 0
      · have hcz : cur = [] := hlc.1 hlz
        subst hlz
        repeat' (first | (refine And.intro ?_ ?_) | (intro h; (try first | replace h := of_decide_eq_true h | replace h := of_decide_eq_false h); (try simp only [sg, hx1] at h); (try simp only [sx, ↓reduceIte, Nat.reduceAdd, reduceCtorEq, Int.reduceLT, Int.reduceLE, Int.reduceSub, Nat.reduceEqDiff, Nat.reduceLT] at h); try exact nz h))
        all_goals (try exact cz)
        all_goals (try ((with_reducible show (_ : Nat) ≤ (_ : Nat)); (show _ * 16 ≤ _); omega))
        refine ⟨_, rfl, ?_⟩
        rw [show signI ((Utf8.decode ⟨⟨s⟩⟩ pos).1 : Nat) = false from hsg]
        repeat' (first | (refine And.intro ?_ ?_) | (intro h; (try first | replace h := of_decide_eq_true h | replace h := of_decide_eq_false h); (try simp only [sg, hx1] at h); (try simp only [sx, ↓reduceIte, Nat.reduceAdd, reduceCtorEq, Int.reduceLT, Int.reduceLE, Int.reduceSub, Nat.reduceEqDiff, Nat.reduceLT] at h); try exact nz h))
        all_goals (try exact cz)
        all_goals (try ((with_reducible show (_ : Nat) ≤ (_ : Nat)); (show _ * 16 ≤ _); omega))
        refine ⟨_, ⟨[(0, .str s), (2, .slice 1 0 (([] : List Wd) ++ [[UInt8.ofNat 59]]).length 1 none), (4, .int .i64 (fr : Nat)), (5, .int .i32 0), (9, .obj 0)], [(0, some (.iter s (pos + 1))), (1, some (.cells ((([] : List Wd) ++ [[UInt8.ofNat 59]]).map encS) false))], 2⟩, reb_num [0, 3] (by first | rfl | kernel_rfl) ⟨.refl _, wk_slc (by simp), .refl _, .refl _, .refl _, trivial⟩ ⟨⟨by decide, _, rfl, by rw [hx2]; exact .refl _⟩, ⟨by decide, _, rfl, wkB_eq ?_ (fS _)⟩, trivial⟩, ⟨pos + 1, fr, [], ([] : List Wd) ++ [[UInt8.ofNat 59]], _, ⟨by omega, rfl, ?_, ?_, ?_, ?_⟩, .inr ⟨by simp, rfl⟩⟩, by omega⟩
        · simp only [hx3]
          rfl
        · show (([] : List Wd) ++ [[UInt8.ofNat 59]]).length ≤ 2 * (pos + 1)
          first | omega | (simp <;> omega)
        · rw [← hgo, hdrop, wgo]
          rw [if_neg (by rw [hsF]; decide)]
          rw [if_pos hmF]
          simp only [hcz, flushW, if_true]
          rw [hcM]
        · exact ⟨fun _ => rfl, fun _ => rfl⟩
        · intro h; exact absurd rfl h
      · have hcn : cur ≠ [] := fun h => hlz (hlc.2 h)
        have hcur := (hcur' hcn).1
        have hfp := (hcur' hcn).2
        repeat' (first | (refine And.intro ?_ ?_) | (intro h; (try first | replace h := of_decide_eq_true h | replace h := of_decide_eq_false h); (try simp only [sg, hx1] at h); (try simp only [sx, ↓reduceIte, Nat.reduceAdd, reduceCtorEq, Int.reduceLT, Int.reduceLE, Int.reduceSub, Nat.reduceEqDiff, Nat.reduceLT] at h); try exact nz h))
        all_goals (try exact cz)
        all_goals (try ((with_reducible show (_ : Nat) ≤ (_ : Nat)); (show _ * 16 ≤ _); omega))
        refine ⟨_, rfl, ?_⟩
        rw [show signI ((Utf8.decode ⟨⟨s⟩⟩ pos).1 : Nat) = false from hsg]
        repeat' (first | (refine And.intro ?_ ?_) | (intro h; (try first | replace h := of_decide_eq_true h | replace h := of_decide_eq_false h); (try simp only [sg, hx1] at h); (try simp only [sx, ↓reduceIte, Nat.reduceAdd, reduceCtorEq, Int.reduceLT, Int.reduceLE, Int.reduceSub, Nat.reduceEqDiff, Nat.reduceLT] at h); try exact nz h))
        all_goals (try exact cz)
        all_goals (try ((with_reducible show (_ : Nat) ≤ (_ : Nat)); (show _ * 16 ≤ _); omega))
        refine ⟨_, rfl, ?_⟩
        rw [show signI ((Utf8.decode ⟨⟨s⟩⟩ pos).1 : Nat) = false from hsg]
        repeat' (first | (refine And.intro ?_ ?_) | (intro h; (try first | replace h := of_decide_eq_true h | replace h := of_decide_eq_false h); (try simp only [sg, hx1] at h); (try simp only [sx, ↓reduceIte, Nat.reduceAdd, reduceCtorEq, Int.reduceLT, Int.reduceLE, Int.reduceSub, Nat.reduceEqDiff, Nat.reduceLT] at h); try exact nz h))
        all_goals (try exact cz)
        all_goals (try ((with_reducible show (_ : Nat) ≤ (_ : Nat)); (show _ * 16 ≤ _); omega))
        refine ⟨_, ⟨[(0, .str s), (2, .slice 1 0 (([] : List Wd) ++ [cur] ++ [[UInt8.ofNat 59]]).length 1 none), (4, .int .i64 (fr : Nat)), (5, .int .i32 0), (9, .obj 0)], [(0, some (.iter s (pos + 1))), (1, some (.cells ((([] : List Wd) ++ [cur] ++ [[UInt8.ofNat 59]]).map encS) false))], 2⟩, reb_num [0, 5] (by first | rfl | kernel_rfl) ⟨.refl _, wk_slc (by simp), .refl _, .refl _, .refl _, trivial⟩ ⟨⟨by decide, _, rfl, by rw [hx2]; exact .refl _⟩, ⟨by decide, _, rfl, wkB_eq ?_ (fS _)⟩, trivial⟩, ⟨pos + 1, fr, [], ([] : List Wd) ++ [cur] ++ [[UInt8.ofNat 59]], _, ⟨by omega, rfl, ?_, ?_, ?_, ?_⟩, .inr ⟨by simp, rfl⟩⟩, by omega⟩
        · simp only [Int.toNat_natCast, hcur, hx3]
          rfl
        · show (([] : List Wd) ++ [cur] ++ [[UInt8.ofNat 59]]).length ≤ 2 * (pos + 1)
          first | omega | (simp <;> omega)
        · rw [← hgo, hdrop, wgo]
          rw [if_neg (by rw [hsF]; decide)]
          rw [if_pos hmF]
          rw [flushW, if_neg hcn]
          rw [hcM]
        · exact ⟨fun _ => rfl, fun _ => rfl⟩
        · intro h; exact absurd rfl h
    · -- b32
      have hd := dec_low hin hlow
      have hx1 := congrArg Prod.fst hd
      have hx2 := congrArg Prod.snd hd
      simp only at hx1 hx2
      have hsg : signI ((Utf8.decode ⟨⟨s⟩⟩ pos).1 : Nat) = signF (s.getD pos 0) := by rw [hx1]; exact signI_eq _
      rw [hsF] at hsg
      have hx3 : (Utf8.decode ⟨⟨s⟩⟩ pos).1 = 32 := hx1.trans hv
      by_cases hlz : last = 0
      · have hcz : cur = [] := hlc.1 hlz
        subst hlz
        repeat' (first | (refine And.intro ?_ ?_) | (intro h; (try first | replace h := of_decide_eq_true h | replace h := of_decide_eq_false h); (try simp only [sg, hx1] at h); (try simp only [sx, ↓reduceIte, Nat.reduceAdd, reduceCtorEq, Int.reduceLT, Int.reduceLE, Int.reduceSub, Nat.reduceEqDiff, Nat.reduceLT] at h); try exact nz h))
        all_goals (try exact cz)
        all_goals (try ((with_reducible show (_ : Nat) ≤ (_ : Nat)); (show _ * 16 ≤ _); omega))
        refine ⟨_, rfl, ?_⟩
        rw [show signI ((Utf8.decode ⟨⟨s⟩⟩ pos).1 : Nat) = false from hsg]
        repeat' (first | (refine And.intro ?_ ?_) | (intro h; (try first | replace h := of_decide_eq_true h | replace h := of_decide_eq_false h); (try simp only [sg, hx1] at h); (try simp only [sx, ↓reduceIte, Nat.reduceAdd, reduceCtorEq, Int.reduceLT, Int.reduceLE, Int.reduceSub, Nat.reduceEqDiff, Nat.reduceLT] at h); try exact nz h))
        all_goals (try exact cz)
        all_goals (try ((with_reducible show (_ : Nat) ≤ (_ : Nat)); (show _ * 16 ≤ _); omega))
        refine ⟨_, ⟨[(0, .str s), (2, .nils), (4, .int .i64 (fr : Nat)), (5, .int .i32 0), (9, .obj 0)], [(0, some (.iter s (pos + 1)))], 1⟩, reb_num [0] (by first | rfl | kernel_rfl) ⟨.refl _, .refl _, .refl _, .refl _, .refl _, trivial⟩ ⟨⟨by decide, _, rfl, by rw [hx2]; exact .refl _⟩, trivial⟩, ⟨pos + 1, fr, [], [], _, ⟨by omega, rfl, ?_, ?_, ?_, ?_⟩, .inl ⟨rfl, rfl⟩⟩, by omega⟩
        · show ([] : List Wd).length ≤ 2 * (pos + 1)
          first | omega | (simp <;> omega)
        · rw [← hgo, hdrop, wgo]
          rw [if_neg (by rw [hsF]; decide)]
          rw [if_neg (by rw [hmF]; decide), if_pos hbF]
          simp only [hcz, flushW, if_true]
        · exact ⟨fun _ => rfl, fun _ => rfl⟩
        · intro h; exact absurd rfl h
      · have hcn : cur ≠ [] := fun h => hlz (hlc.2 h)
        have hcur := (hcur' hcn).1
        have hfp := (hcur' hcn).2
        repeat' (first | (refine And.intro ?_ ?_) | (intro h; (try first | replace h := of_decide_eq_true h | replace h := of_decide_eq_false h); (try simp only [sg, hx1] at h); (try simp only [sx, ↓reduceIte, Nat.reduceAdd, reduceCtorEq, Int.reduceLT, Int.reduceLE, Int.reduceSub, Nat.reduceEqDiff, Nat.reduceLT] at h); try exact nz h))
        all_goals (try exact cz)
        all_goals (try ((with_reducible show (_ : Nat) ≤ (_ : Nat)); (show _ * 16 ≤ _); omega))
        refine ⟨_, rfl, ?_⟩
        rw [show signI ((Utf8.decode ⟨⟨s⟩⟩ pos).1 : Nat) = false from hsg]
        repeat' (first | (refine And.intro ?_ ?_) | (intro h; (try first | replace h := of_decide_eq_true h | replace h := of_decide_eq_false h); (try simp only [sg, hx1] at h); (try simp only [sx, ↓reduceIte, Nat.reduceAdd, reduceCtorEq, Int.reduceLT, Int.reduceLE, Int.reduceSub, Nat.reduceEqDiff, Nat.reduceLT] at h); try exact nz h))
        all_goals (try exact cz)
        all_goals (try ((with_reducible show (_ : Nat) ≤ (_ : Nat)); (show _ * 16 ≤ _); omega))
        refine ⟨_, rfl, ?_⟩
        rw [show signI ((Utf8.decode ⟨⟨s⟩⟩ pos).1 : Nat) = false from hsg]
        repeat' (first | (refine And.intro ?_ ?_) | (intro h; (try first | replace h := of_decide_eq_true h | replace h := of_decide_eq_false h); (try simp only [sg, hx1] at h); (try simp only [sx, ↓reduceIte, Nat.reduceAdd, reduceCtorEq, Int.reduceLT, Int.reduceLE, Int.reduceSub, Nat.reduceEqDiff, Nat.reduceLT] at h); try exact nz h))
        all_goals (try exact cz)
        all_goals (try ((with_reducible show (_ : Nat) ≤ (_ : Nat)); (show _ * 16 ≤ _); omega))
        refine ⟨_, ⟨[(0, .str s), (2, .slice 1 0 (([] : List Wd) ++ [cur]).length 1 none), (4, .int .i64 (fr : Nat)), (5, .int .i32 0), (9, .obj 0)], [(0, some (.iter s (pos + 1))), (1, some (.cells ((([] : List Wd) ++ [cur]).map encS) false))], 2⟩, reb_num [0, 3] (by first | rfl | kernel_rfl) ⟨.refl _, wk_slc (by simp), .refl _, .refl _, .refl _, trivial⟩ ⟨⟨by decide, _, rfl, by rw [hx2]; exact .refl _⟩, ⟨by decide, _, rfl, wkB_eq ?_ (fS _)⟩, trivial⟩, ⟨pos + 1, fr, [], ([] : List Wd) ++ [cur], _, ⟨by omega, rfl, ?_, ?_, ?_, ?_⟩, .inr ⟨by simp, rfl⟩⟩, by omega⟩
        · simp only [Int.toNat_natCast, hcur]
          rfl
        · show (([] : List Wd) ++ [cur]).length ≤ 2 * (pos + 1)
          first | omega | (simp <;> omega)
        · rw [← hgo, hdrop, wgo]
          rw [if_neg (by rw [hsF]; decide)]
          rw [if_neg (by rw [hmF]; decide), if_pos hbF]
          rw [flushW, if_neg hcn]
        · exact ⟨fun _ => rfl, fun _ => rfl⟩
        · intro h; exact absurd rfl h
    · -- b9
      have hd := dec_low hin hlow
      have hx1 := congrArg Prod.fst hd
      have hx2 := congrArg Prod.snd hd
      simp only at hx1 hx2
      have hsg : signI ((Utf8.decode ⟨⟨s⟩⟩ pos).1 : Nat) = signF (s.getD pos 0) := by rw [hx1]; exact signI_eq _
      rw [hsF] at hsg
      have hx3 : (Utf8.decode ⟨⟨s⟩⟩ pos).1 = 9 := hx1.trans hv
      by_cases hlz : last = 0
      · have hcz : cur = [] := hlc.1 hlz
        subst hlz
        repeat' (first | (refine And.intro ?_ ?_) | (intro h; (try first | replace h := of_decide_eq_true h | replace h := of_decide_eq_false h); (try simp only [sg, hx1] at h); (try simp only [sx, ↓reduceIte, Nat.reduceAdd, reduceCtorEq, Int.reduceLT, Int.reduceLE, Int.reduceSub, Nat.reduceEqDiff, Nat.reduceLT] at h); try exact nz h))
        all_goals (try exact cz)
        all_goals (try ((with_reducible show (_ : Nat) ≤ (_ : Nat)); (show _ * 16 ≤ _); omega))
        refine ⟨_, rfl, ?_⟩
        rw [show signI ((Utf8.decode ⟨⟨s⟩⟩ pos).1 : Nat) = false from hsg]
        repeat' (first | (refine And.intro ?_ ?_) | (intro h; (try first | replace h := of_decide_eq_true h | replace h := of_decide_eq_false h); (try simp only [sg, hx1] at h); (try simp only [sx, ↓reduceIte, Nat.reduceAdd, reduceCtorEq, Int.reduceLT, Int.reduceLE, Int.reduceSub, Nat.reduceEqDiff, Nat.reduceLT] at h); try exact nz h))
        all_goals (try exact cz)
        all_goals (try ((with_reducible show (_ : Nat) ≤ (_ : Nat)); (show _ * 16 ≤ _); omega))
        refine ⟨_, ⟨[(0, .str s), (2, .nils), (4, .int .i64 (fr : Nat)), (5, .int .i32 0), (9, .obj 0)], [(0, some (.iter s (pos + 1)))], 1⟩, reb_num [0] (by first | rfl | kernel_rfl) ⟨.refl _, .refl _, .refl _, .refl _, .refl _, trivial⟩ ⟨⟨by decide, _, rfl, by rw [hx2]; exact .refl _⟩, trivial⟩, ⟨pos + 1, fr, [], [], _, ⟨by omega, rfl, ?_, ?_, ?_, ?_⟩, .inl ⟨rfl, rfl⟩⟩, by omega⟩
        · show ([] : List Wd).length ≤ 2 * (pos + 1)
          first | omega | (simp <;> omega)
        · rw [← hgo, hdrop, wgo]
          rw [if_neg (by rw [hsF]; decide)]
          rw [if_neg (by rw [hmF]; decide), if_pos hbF]
          simp only [hcz, flushW, if_true]
        · exact ⟨fun _ => rfl, fun _ => rfl⟩
        · intro h; exact absurd rfl h
      · have hcn : cur ≠ [] := fun h => hlz (hlc.2 h)
        have hcur := (hcur' hcn).1
        have hfp := (hcur' hcn).2
        repeat' (first | (refine And.intro ?_ ?_) | (intro h; (try first | replace h := of_decide_eq_true h | replace h := of_decide_eq_false h); (try simp only [sg, hx1] at h); (try simp only [sx, ↓reduceIte, Nat.reduceAdd, reduceCtorEq, Int.reduceLT, Int.reduceLE, Int.reduceSub, Nat.reduceEqDiff, Nat.reduceLT] at h); try exact nz h))
        all_goals (try exact cz)
        all_goals (try ((with_reducible show (_ : Nat) ≤ (_ : Nat)); (show _ * 16 ≤ _); omega))
        refine ⟨_, rfl, ?_⟩
        rw [show signI ((Utf8.decode ⟨⟨s⟩⟩ pos).1 : Nat) = false from hsg]
        repeat' (first | (refine And.intro ?_ ?_) | (intro h; (try first | replace h := of_decide_eq_true h | replace h := of_decide_eq_false h); (try simp only [sg, hx1] at h); (try simp only [sx, ↓reduceIte, Nat.reduceAdd, reduceCtorEq, Int.reduceLT, Int.reduceLE, Int.reduceSub, Nat.reduceEqDiff, Nat.reduceLT] at h); try exact nz h))
        all_goals (try exact cz)
        all_goals (try ((with_reducible show (_ : Nat) ≤ (_ : Nat)); (show _ * 16 ≤ _); omega))
        refine ⟨_, rfl, ?_⟩
        rw [show signI ((Utf8.decode ⟨⟨s⟩⟩ pos).1 : Nat) = false from hsg]
        repeat' (first | (refine And.intro ?_ ?_) | (intro h; (try first | replace h := of_decide_eq_true h | replace h := of_decide_eq_false h); (try simp only [sg, hx1] at h); (try simp only [sx, ↓reduceIte, Nat.reduceAdd, reduceCtorEq, Int.reduceLT, Int.reduceLE, Int.reduceSub, Nat.reduceEqDiff, Nat.reduceLT] at h); try exact nz h))
        all_goals (try exact cz)
        all_goals (try ((with_reducible show (_ : Nat) ≤ (_ : Nat)); (show _ * 16 ≤ _); omega))
        refine ⟨_, ⟨[(0, .str s), (2, .slice 1 0 (([] : List Wd) ++ [cur]).length 1 none), (4, .int .i64 (fr : Nat)), (5, .int .i32 0), (9, .obj 0)], [(0, some (.iter s (pos + 1))), (1, some (.cells ((([] : List Wd) ++ [cur]).map encS) false))], 2⟩, reb_num [0, 3] (by first | rfl | kernel_rfl) ⟨.refl _, wk_slc (by simp), .refl _, .refl _, .refl _, trivial⟩ ⟨⟨by decide, _, rfl, by rw [hx2]; exact .refl _⟩, ⟨by decide, _, rfl, wkB_eq ?_ (fS _)⟩, trivial⟩, ⟨pos + 1, fr, [], ([] : List Wd) ++ [cur], _, ⟨by omega, rfl, ?_, ?_, ?_, ?_⟩, .inr ⟨by simp, rfl⟩⟩, by omega⟩
        · simp only [Int.toNat_natCast, hcur]
          rfl
        · show (([] : List Wd) ++ [cur]).length ≤ 2 * (pos + 1)
          first | omega | (simp <;> omega)
        · rw [← hgo, hdrop, wgo]
          rw [if_neg (by rw [hsF]; decide)]
          rw [if_neg (by rw [hmF]; decide), if_pos hbF]
          rw [flushW, if_neg hcn]
        · exact ⟨fun _ => rfl, fun _ => rfl⟩
        · intro h; exact absurd rfl h
    · -- b10
      have hd := dec_low hin hlow
      have hx1 := congrArg Prod.fst hd
      have hx2 := congrArg Prod.snd hd
      simp only at hx1 hx2
      have hsg : signI ((Utf8.decode ⟨⟨s⟩⟩ pos).1 : Nat) = signF (s.getD pos 0) := by rw [hx1]; exact signI_eq _
      rw [hsF] at hsg
      have hx3 : (Utf8.decode ⟨⟨s⟩⟩ pos).1 = 10 := hx1.trans hv
      by_cases hlz : last = 0
      · have hcz : cur = [] := hlc.1 hlz
        subst hlz
        repeat' (first | (refine And.intro ?_ ?_) | (intro h; (try first | replace h := of_decide_eq_true h | replace h := of_decide_eq_false h); (try simp only [sg, hx1] at h); (try simp only [sx, ↓reduceIte, Nat.reduceAdd, reduceCtorEq, Int.reduceLT, Int.reduceLE, Int.reduceSub, Nat.reduceEqDiff, Nat.reduceLT] at h); try exact nz h))
        all_goals (try exact cz)
        all_goals (try ((with_reducible show (_ : Nat) ≤ (_ : Nat)); (show _ * 16 ≤ _); omega))
        refine ⟨_, rfl, ?_⟩
        rw [show signI ((Utf8.decode ⟨⟨s⟩⟩ pos).1 : Nat) = false from hsg]
        repeat' (first | (refine And.intro ?_ ?_) | (intro h; (try first | replace h := of_decide_eq_true h | replace h := of_decide_eq_false h); (try simp only [sg, hx1] at h); (try simp only [sx, ↓reduceIte, Nat.reduceAdd, reduceCtorEq, Int.reduceLT, Int.reduceLE, Int.reduceSub, Nat.reduceEqDiff, Nat.reduceLT] at h); try exact nz h))
        all_goals (try exact cz)
        all_goals (try ((with_reducible show (_ : Nat) ≤ (_ : Nat)); (show _ * 16 ≤ _); omega))
        refine ⟨_, ⟨[(0, .str s), (2, .nils), (4, .int .i64 (fr : Nat)), (5, .int .i32 0), (9, .obj 0)], [(0, some (.iter s (pos + 1)))], 1⟩, reb_num [0] (by first | rfl | kernel_rfl) ⟨.refl _, .refl _, .refl _, .refl _, .refl _, trivial⟩ ⟨⟨by decide, _, rfl, by rw [hx2]; exact .refl _⟩, trivial⟩, ⟨pos + 1, fr, [], [], _, ⟨by omega, rfl, ?_, ?_, ?_, ?_⟩, .inl ⟨rfl, rfl⟩⟩, by omega⟩
        · show ([] : List Wd).length ≤ 2 * (pos + 1)
          first | omega | (simp <;> omega)
        · rw [← hgo, hdrop, wgo]
          rw [if_neg (by rw [hsF]; decide)]
          rw [if_neg (by rw [hmF]; decide), if_pos hbF]
          simp only [hcz, flushW, if_true]
        · exact ⟨fun _ => rfl, fun _ => rfl⟩
        · intro h; exact absurd rfl h
      · have hcn : cur ≠ [] := fun h => hlz (hlc.2 h)
        have hcur := (hcur' hcn).1
        have hfp := (hcur' hcn).2
        repeat' (first | (refine And.intro ?_ ?_) | (intro h; (try first | replace h := of_decide_eq_true h | replace h := of_decide_eq_false h); (try simp only [sg, hx1] at h); (try simp only [sx, ↓reduceIte, Nat.reduceAdd, reduceCtorEq, Int.reduceLT, Int.reduceLE, Int.reduceSub, Nat.reduceEqDiff, Nat.reduceLT] at h); try exact nz h))
        all_goals (try exact cz)
        all_goals (try ((with_reducible show (_ : Nat) ≤ (_ : Nat)); (show _ * 16 ≤ _); omega))
        refine ⟨_, rfl, ?_⟩
        rw [show signI ((Utf8.decode ⟨⟨s⟩⟩ pos).1 : Nat) = false from hsg]
        repeat' (first | (refine And.intro ?_ ?_) | (intro h; (try first | replace h := of_decide_eq_true h | replace h := of_decide_eq_false h); (try simp only [sg, hx1] at h); (try simp only [sx, ↓reduceIte, Nat.reduceAdd, reduceCtorEq, Int.reduceLT, Int.reduceLE, Int.reduceSub, Nat.reduceEqDiff, Nat.reduceLT] at h); try exact nz h))
        all_goals (try exact cz)
        all_goals (try ((with_reducible show (_ : Nat) ≤ (_ : Nat)); (show _ * 16 ≤ _); omega))
        refine ⟨_, rfl, ?_⟩
        rw [show signI ((Utf8.decode ⟨⟨s⟩⟩ pos).1 : Nat) = false from hsg]
        repeat' (first | (refine And.intro ?_ ?_) | (intro h; (try first | replace h := of_decide_eq_true h | replace h := of_decide_eq_false h); (try simp only [sg, hx1] at h); (try simp only [sx, ↓reduceIte, Nat.reduceAdd, reduceCtorEq, Int.reduceLT, Int.reduceLE, Int.reduceSub, Nat.reduceEqDiff, Nat.reduceLT] at h); try exact nz h))
        all_goals (try exact cz)
        all_goals (try ((with_reducible show (_ : Nat) ≤ (_ : Nat)); (show _ * 16 ≤ _); omega))
        refine ⟨_, ⟨[(0, .str s), (2, .slice 1 0 (([] : List Wd) ++ [cur]).length 1 none), (4, .int .i64 (fr : Nat)), (5, .int .i32 0), (9, .obj 0)], [(0, some (.iter s (pos + 1))), (1, some (.cells ((([] : List Wd) ++ [cur]).map encS) false))], 2⟩, reb_num [0, 3] (by first | rfl | kernel_rfl) ⟨.refl _, wk_slc (by simp), .refl _, .refl _, .refl _, trivial⟩ ⟨⟨by decide, _, rfl, by rw [hx2]; exact .refl _⟩, ⟨by decide, _, rfl, wkB_eq ?_ (fS _)⟩, trivial⟩, ⟨pos + 1, fr, [], ([] : List Wd) ++ [cur], _, ⟨by omega, rfl, ?_, ?_, ?_, ?_⟩, .inr ⟨by simp, rfl⟩⟩, by omega⟩
        · simp only [Int.toNat_natCast, hcur]
          rfl
        · show (([] : List Wd) ++ [cur]).length ≤ 2 * (pos + 1)
          first | omega | (simp <;> omega)
        · rw [← hgo, hdrop, wgo]
          rw [if_neg (by rw [hsF]; decide)]
          rw [if_neg (by rw [hmF]; decide), if_pos hbF]
          rw [flushW, if_neg hcn]
        · exact ⟨fun _ => rfl, fun _ => rfl⟩
        · intro h; exact absurd rfl h
    · -- bad
      have hd := dec_low hin hlow
      have hx1 := congrArg Prod.fst hd
      have hx2 := congrArg Prod.snd hd
      simp only at hx1 hx2
      have hsg : signI ((Utf8.decode ⟨⟨s⟩⟩ pos).1 : Nat) = signF (s.getD pos 0) := by rw [hx1]; exact signI_eq _
      rw [hsF] at hsg
      have hnone : wordsF s = none := by
        rw [← hgo, hdrop, wgo, if_neg (by rw [hsF]; decide), if_neg (by rw [hmF]; decide), if_neg (by rw [hbF]; decide)]
      by_cases hlz : last = 0
      · have hcz : cur = [] := hlc.1 hlz
        subst hlz
        repeat' (first | (refine And.intro ?_ ?_) | (intro h; (try first | replace h := of_decide_eq_true h | replace h := of_decide_eq_false h); (try simp only [sg, hx1] at h); (try simp only [sx, ↓reduceIte, Nat.reduceAdd, reduceCtorEq, Int.reduceLT, Int.reduceLE, Int.reduceSub, Nat.reduceEqDiff, Nat.reduceLT] at h); try exact nz h))
        all_goals (try exact cz)
        all_goals (try ((with_reducible show (_ : Nat) ≤ (_ : Nat)); (show _ * 16 ≤ _); omega))
        refine ⟨_, rfl, ?_⟩
        rw [show signI ((Utf8.decode ⟨⟨s⟩⟩ pos).1 : Nat) = false from hsg]
        repeat' (first | (refine And.intro ?_ ?_) | (intro h; (try first | replace h := of_decide_eq_true h | replace h := of_decide_eq_false h); (try simp only [sg, hx1] at h); (try simp only [sx, ↓reduceIte, Nat.reduceAdd, reduceCtorEq, Int.reduceLT, Int.reduceLE, Int.reduceSub, Nat.reduceEqDiff, Nat.reduceLT] at h); try exact nz h))
        all_goals (try exact cz)
        all_goals (try ((with_reducible show (_ : Nat) ≤ (_ : Nat)); (show _ * 16 ≤ _); omega))
        all_goals exact ⟨_, reb_flat [2, 3] rfl, _, rfl, hPn hnone, rfl⟩
      · have hcn : cur ≠ [] := fun h => hlz (hlc.2 h)
        have hcur := (hcur' hcn).1
        have hfp := (hcur' hcn).2
        repeat' (first | (refine And.intro ?_ ?_) | (intro h; (try first | replace h := of_decide_eq_true h | replace h := of_decide_eq_false h); (try simp only [sg, hx1] at h); (try simp only [sx, ↓reduceIte, Nat.reduceAdd, reduceCtorEq, Int.reduceLT, Int.reduceLE, Int.reduceSub, Nat.reduceEqDiff, Nat.reduceLT] at h); try exact nz h))
        all_goals (try exact cz)
        all_goals (try ((with_reducible show (_ : Nat) ≤ (_ : Nat)); (show _ * 16 ≤ _); omega))
        refine ⟨_, rfl, ?_⟩
        rw [show signI ((Utf8.decode ⟨⟨s⟩⟩ pos).1 : Nat) = false from hsg]
        repeat' (first | (refine And.intro ?_ ?_) | (intro h; (try first | replace h := of_decide_eq_true h | replace h := of_decide_eq_false h); (try simp only [sg, hx1] at h); (try simp only [sx, ↓reduceIte, Nat.reduceAdd, reduceCtorEq, Int.reduceLT, Int.reduceLE, Int.reduceSub, Nat.reduceEqDiff, Nat.reduceLT] at h); try exact nz h))
        all_goals (try exact cz)
        all_goals (try ((with_reducible show (_ : Nat) ≤ (_ : Nat)); (show _ * 16 ≤ _); omega))
        refine ⟨_, rfl, ?_⟩
        rw [show signI ((Utf8.decode ⟨⟨s⟩⟩ pos).1 : Nat) = false from hsg]
        repeat' (first | (refine And.intro ?_ ?_) | (intro h; (try first | replace h := of_decide_eq_true h | replace h := of_decide_eq_false h); (try simp only [sg, hx1] at h); (try simp only [sx, ↓reduceIte, Nat.reduceAdd, reduceCtorEq, Int.reduceLT, Int.reduceLE, Int.reduceSub, Nat.reduceEqDiff, Nat.reduceLT] at h); try exact nz h))
        all_goals (try exact cz)
        all_goals (try ((with_reducible show (_ : Nat) ≤ (_ : Nat)); (show _ * 16 ≤ _); omega))
        all_goals exact ⟨_, reb_flat [2, 3] rfl, _, rfl, hPn hnone, rfl⟩
    · -- high
      have hd := dec_high hin hhi
      have hx1 : True = True := rfl
      have hsg : signI ((Utf8.decode ⟨⟨s⟩⟩ pos).1 : Nat) = false := signI_high hd.1
      have hnone : wordsF s = none := by
        rw [← hgo, hdrop, wgo, if_neg (by rw [hsF]; decide), if_neg (by rw [hmF]; decide), if_neg (by rw [hbF]; decide)]
      by_cases hlz : last = 0
      · have hcz : cur = [] := hlc.1 hlz
        subst hlz
        repeat' (first | (refine And.intro ?_ ?_) | (intro h; (try first | replace h := of_decide_eq_true h | replace h := of_decide_eq_false h); (try simp only [sg, hx1] at h); (try simp only [sx, ↓reduceIte, Nat.reduceAdd, reduceCtorEq, Int.reduceLT, Int.reduceLE, Int.reduceSub, Nat.reduceEqDiff, Nat.reduceLT] at h); try exact nz h))
        all_goals (try exact cz)
        all_goals (try ((with_reducible show (_ : Nat) ≤ (_ : Nat)); (show _ * 16 ≤ _); omega))
        refine ⟨_, rfl, ?_⟩
        rw [show signI ((Utf8.decode ⟨⟨s⟩⟩ pos).1 : Nat) = false from hsg]
        repeat' (first | (refine And.intro ?_ ?_) | (intro h; (try first | replace h := of_decide_eq_true h | replace h := of_decide_eq_false h); (try simp only [sg, hx1] at h); (try simp only [sx, ↓reduceIte, Nat.reduceAdd, reduceCtorEq, Int.reduceLT, Int.reduceLE, Int.reduceSub, Nat.reduceEqDiff, Nat.reduceLT] at h); try exact nz h))
        all_goals (try exact cz)
        all_goals (try ((with_reducible show (_ : Nat) ≤ (_ : Nat)); (show _ * 16 ≤ _); omega))
        all_goals exact ⟨_, reb_flat [2, 3] rfl, _, rfl, hPn hnone, rfl⟩
      · have hcn : cur ≠ [] := fun h => hlz (hlc.2 h)
        have hcur := (hcur' hcn).1
        have hfp := (hcur' hcn).2
        repeat' (first | (refine And.intro ?_ ?_) | (intro h; (try first | replace h := of_decide_eq_true h | replace h := of_decide_eq_false h); (try simp only [sg, hx1] at h); (try simp only [sx, ↓reduceIte, Nat.reduceAdd, reduceCtorEq, Int.reduceLT, Int.reduceLE, Int.reduceSub, Nat.reduceEqDiff, Nat.reduceLT] at h); try exact nz h))
        all_goals (try exact cz)
        all_goals (try ((with_reducible show (_ : Nat) ≤ (_ : Nat)); (show _ * 16 ≤ _); omega))
        refine ⟨_, rfl, ?_⟩
        rw [show signI ((Utf8.decode ⟨⟨s⟩⟩ pos).1 : Nat) = false from hsg]
        repeat' (first | (refine And.intro ?_ ?_) | (intro h; (try first | replace h := of_decide_eq_true h | replace h := of_decide_eq_false h); (try simp only [sg, hx1] at h); (try simp only [sx, ↓reduceIte, Nat.reduceAdd, reduceCtorEq, Int.reduceLT, Int.reduceLE, Int.reduceSub, Nat.reduceEqDiff, Nat.reduceLT] at h); try exact nz h))
        all_goals (try exact cz)
        all_goals (try ((with_reducible show (_ : Nat) ≤ (_ : Nat)); (show _ * 16 ≤ _); omega))
        refine ⟨_, rfl, ?_⟩
        rw [show signI ((Utf8.decode ⟨⟨s⟩⟩ pos).1 : Nat) = false from hsg]
        repeat' (first | (refine And.intro ?_ ?_) | (intro h; (try first | replace h := of_decide_eq_true h | replace h := of_decide_eq_false h); (try simp only [sg, hx1] at h); (try simp only [sx, ↓reduceIte, Nat.reduceAdd, reduceCtorEq, Int.reduceLT, Int.reduceLE, Int.reduceSub, Nat.reduceEqDiff, Nat.reduceLT] at h); try exact nz h))
        all_goals (try exact cz)
        all_goals (try ((with_reducible show (_ : Nat) ≤ (_ : Nat)); (show _ * 16 ≤ _); omega))
        all_goals exact ⟨_, reb_flat [2, 3] rfl, _, rfl, hPn hnone, rfl⟩
  · -- some words
    have hx0 : True = True := rfl
    rcases hkind with ⟨hsF, hlow⟩ | ⟨hv, hsF, hmF, hlow⟩ | ⟨hv, hsF, hmF, hlow⟩ | ⟨hv, hsF, hmF, hlow⟩ | ⟨hv, hsF, hmF, hbF, hlow⟩ | ⟨hv, hsF, hmF, hbF, hlow⟩ | ⟨hv, hsF, hmF, hbF, hlow⟩ | ⟨hsF, hmF, hbF, hlow, hv⟩ | ⟨hsF, hmF, hbF, hhi⟩
    · -- sign
      have hd := dec_low hin hlow
      have hx1 := congrArg Prod.fst hd
      have hx2 := congrArg Prod.snd hd
      simp only at hx1 hx2
      have hsg : signI ((Utf8.decode ⟨⟨s⟩⟩ pos).1 : Nat) = signF (s.getD pos 0) := by rw [hx1]; exact signI_eq _
      rw [hsF] at hsg
      have h48 := sign_num hsF
      by_cases hlz : last = 0
      · have hcz : cur = [] := hlc.1 hlz
        subst hlz
        repeat' (first | (refine And.intro ?_ ?_) | (intro h; (try first | replace h := of_decide_eq_true h | replace h := of_decide_eq_false h); (try simp only [sg, hx1] at h); (try simp only [sx, ↓reduceIte, Nat.reduceAdd, reduceCtorEq, Int.reduceLT, Int.reduceLE, Int.reduceSub, Nat.reduceEqDiff, Nat.reduceLT] at h); try exact nz h))
        all_goals (try exact cz)
        all_goals (try ((with_reducible show (_ : Nat) ≤ (_ : Nat)); (show _ * 16 ≤ _); omega))
        refine ⟨_, rfl, ?_⟩
        rw [show signI ((Utf8.decode ⟨⟨s⟩⟩ pos).1 : Nat) = true from hsg]
        repeat' (first | (refine And.intro ?_ ?_) | (intro h; (try first | replace h := of_decide_eq_true h | replace h := of_decide_eq_false h); (try simp only [sg, hx1] at h); (try simp only [sx, ↓reduceIte, Nat.reduceAdd, reduceCtorEq, Int.reduceLT, Int.reduceLE, Int.reduceSub, Nat.reduceEqDiff, Nat.reduceLT] at h); try exact nz h))
        all_goals (try exact cz)
        all_goals (try ((with_reducible show (_ : Nat) ≤ (_ : Nat)); (show _ * 16 ≤ _); omega))
        refine ⟨_, ⟨[(0, .str s), (2, .slice 1 0 (acc).length 1 none), (4, .int .i64 (pos : Nat)), (5, .int .i32 ((Utf8.decode ⟨⟨s⟩⟩ pos).1 : Nat)), (9, .obj 0)], [(0, some (.iter s (pos + 1))), (1, some (.cells ((acc).map encS) false))], 2⟩, reb_num [0, 1] (by first | rfl | kernel_rfl) ⟨.refl _, .refl _, .refl _, .refl _, .refl _, trivial⟩ ⟨⟨by decide, _, rfl, by rw [hx2]; exact .refl _⟩, ⟨by decide, _, rfl, wkB_same (fS _)⟩, trivial⟩, ⟨pos + 1, pos, cur ++ [s.getD pos 0], acc, _, ⟨by omega, rfl, ?_, ?_, ?_, ?_⟩, .inr ⟨hne, rfl⟩⟩, by omega⟩
        · show (acc).length ≤ 2 * (pos + 1)
          first | omega | (simp <;> omega)
        · rw [← hgo, hdrop, wgo]
          rw [if_pos hsF]
        · rw [hcz]; exact ⟨fun h => absurd h (by rw [hx1]; omega), fun h => absurd h (by simp)⟩
        · intro _; rw [hcz]; exact cur_one hin
      · have hcn : cur ≠ [] := fun h => hlz (hlc.2 h)
        have hcur := (hcur' hcn).1
        have hfp := (hcur' hcn).2
        repeat' (first | (refine And.intro ?_ ?_) | (intro h; (try first | replace h := of_decide_eq_true h | replace h := of_decide_eq_false h); (try simp only [sg, hx1] at h); (try simp only [sx, ↓reduceIte, Nat.reduceAdd, reduceCtorEq, Int.reduceLT, Int.reduceLE, Int.reduceSub, Nat.reduceEqDiff, Nat.reduceLT] at h); try exact nz h))
        all_goals (try exact cz)
        all_goals (try ((with_reducible show (_ : Nat) ≤ (_ : Nat)); (show _ * 16 ≤ _); omega))
        refine ⟨_, rfl, ?_⟩
        rw [show signI ((Utf8.decode ⟨⟨s⟩⟩ pos).1 : Nat) = true from hsg]
        repeat' (first | (refine And.intro ?_ ?_) | (intro h; (try first | replace h := of_decide_eq_true h | replace h := of_decide_eq_false h); (try simp only [sg, hx1] at h); (try simp only [sx, ↓reduceIte, Nat.reduceAdd, reduceCtorEq, Int.reduceLT, Int.reduceLE, Int.reduceSub, Nat.reduceEqDiff, Nat.reduceLT] at h); try exact nz h))
        all_goals (try exact cz)
        all_goals (try ((with_reducible show (_ : Nat) ≤ (_ : Nat)); (show _ * 16 ≤ _); omega))
        refine ⟨_, rfl, ?_⟩
        rw [show signI ((Utf8.decode ⟨⟨s⟩⟩ pos).1 : Nat) = true from hsg]
        repeat' (first | (refine And.intro ?_ ?_) | (intro h; (try first | replace h := of_decide_eq_true h | replace h := of_decide_eq_false h); (try simp only [sg, hx1] at h); (try simp only [sx, ↓reduceIte, Nat.reduceAdd, reduceCtorEq, Int.reduceLT, Int.reduceLE, Int.reduceSub, Nat.reduceEqDiff, Nat.reduceLT] at h); try exact nz h))
        all_goals (try exact cz)
        all_goals (try ((with_reducible show (_ : Nat) ≤ (_ : Nat)); (show _ * 16 ≤ _); omega))
        refine ⟨_, ⟨[(0, .str s), (2, .slice 1 0 (acc).length 1 none), (4, .int .i64 (fr : Nat)), (5, .int .i32 ((Utf8.decode ⟨⟨s⟩⟩ pos).1 : Nat)), (9, .obj 0)], [(0, some (.iter s (pos + 1))), (1, some (.cells ((acc).map encS) false))], 2⟩, reb_num [0, 1] (by first | rfl | kernel_rfl) ⟨.refl _, .refl _, .refl _, .refl _, .refl _, trivial⟩ ⟨⟨by decide, _, rfl, by rw [hx2]; exact .refl _⟩, ⟨by decide, _, rfl, wkB_same (fS _)⟩, trivial⟩, ⟨pos + 1, fr, cur ++ [s.getD pos 0], acc, _, ⟨by omega, rfl, ?_, ?_, ?_, ?_⟩, .inr ⟨hne, rfl⟩⟩, by omega⟩
        · show (acc).length ≤ 2 * (pos + 1)
          first | omega | (simp <;> omega)
        · rw [← hgo, hdrop, wgo]
          rw [if_pos hsF]
        · exact ⟨fun h => absurd h (by rw [hx1]; omega), fun h => absurd h (by simp)⟩
        · intro _; exact cur_more hin (hcur' hcn)
    · -- m123
      have hd := dec_low hin hlow
      have hx1 := congrArg Prod.fst hd
      have hx2 := congrArg Prod.snd hd
      simp only at hx1 hx2
      have hsg : signI ((Utf8.decode ⟨⟨s⟩⟩ pos).1 : Nat) = signF (s.getD pos 0) := by rw [hx1]; exact signI_eq _
      rw [hsF] at hsg
      have hx3 : (Utf8.decode ⟨⟨s⟩⟩ pos).1 = 123 := hx1.trans hv
      have hcM : s.getD pos 0 = UInt8.ofNat 123 := by rw [← hv]; exact (UInt8.ofNat_toNat).symm
      by_cases hlz : last = 0
      · have hcz : cur = [] := hlc.1 hlz
        subst hlz
        repeat' (first | (refine And.intro ?_ ?_) | (intro h; (try first | replace h := of_decide_eq_true h | replace h := of_decide_eq_false h); (try simp only [sg, hx1] at h); (try simp only [sx, ↓reduceIte, Nat.reduceAdd, reduceCtorEq, Int.reduceLT, Int.reduceLE, Int.reduceSub, Nat.reduceEqDiff, Nat.reduceLT] at h); try exact nz h))
        all_goals (try exact cz)
        all_goals (try ((with_reducible show (_ : Nat) ≤ (_ : Nat)); (show _ * 16 ≤ _); omega))
        refine ⟨_, rfl, ?_⟩
        rw [show signI ((Utf8.decode ⟨⟨s⟩⟩ pos).1 : Nat) = false from hsg]
        repeat' (first | (refine And.intro ?_ ?_) | (intro h; (try first | replace h := of_decide_eq_true h | replace h := of_decide_eq_false h); (try simp only [sg, hx1] at h); (try simp only [sx, ↓reduceIte, Nat.reduceAdd, reduceCtorEq, Int.reduceLT, Int.reduceLE, Int.reduceSub, Nat.reduceEqDiff, Nat.reduceLT] at h); try exact nz h))
        all_goals (try exact cz)
        all_goals (try ((with_reducible show (_ : Nat) ≤ (_ : Nat)); (show _ * 16 ≤ _); omega))
        refine ⟨_, ⟨[(0, .str s), (2, .slice 1 0 (acc ++ [[UInt8.ofNat 123]]).length 1 none), (4, .int .i64 (fr : Nat)), (5, .int .i32 0), (9, .obj 0)], [(0, some (.iter s (pos + 1))), (1, some (.cells ((acc ++ [[UInt8.ofNat 123]]).map encS) false))], 2⟩, reb_num [0, 4] (by first | rfl | kernel_rfl) ⟨.refl _, wk_slc (by simp), .refl _, .refl _, .refl _, trivial⟩ ⟨⟨by decide, _, rfl, by rw [hx2]; exact .refl _⟩, ⟨by decide, _, rfl, wkB_eq ?_ (fS _)⟩, trivial⟩, ⟨pos + 1, fr, [], acc ++ [[UInt8.ofNat 123]], _, ⟨by omega, rfl, ?_, ?_, ?_, ?_⟩, .inr ⟨by simp, rfl⟩⟩, by omega⟩
        · simp only [hx3]
          exact app_one acc _
        · show (acc ++ [[UInt8.ofNat 123]]).length ≤ 2 * (pos + 1)
          first | omega | (simp <;> omega)
        · rw [← hgo, hdrop, wgo]
          rw [if_neg (by rw [hsF]; decide)]
          rw [if_pos hmF]
          simp only [hcz, flushW, if_true]
          rw [hcM]
        · exact ⟨fun _ => rfl, fun _ => rfl⟩
        · intro h; exact absurd rfl h
      · have hcn : cur ≠ [] := fun h => hlz (hlc.2 h)
        have hcur := (hcur' hcn).1
        have hfp := (hcur' hcn).2
        repeat' (first | (refine And.intro ?_ ?_) | (intro h; (try first | replace h := of_decide_eq_true h | replace h := of_decide_eq_false h); (try simp only [sg, hx1] at h); (try simp only [sx, ↓reduceIte, Nat.reduceAdd, reduceCtorEq, Int.reduceLT, Int.reduceLE, Int.reduceSub, Nat.reduceEqDiff, Nat.reduceLT] at h); try exact nz h))
        all_goals (try exact cz)
        all_goals (try ((with_reducible show (_ : Nat) ≤ (_ : Nat)); (show _ * 16 ≤ _); omega))
        refine ⟨_, rfl, ?_⟩
        rw [show signI ((Utf8.decode ⟨⟨s⟩⟩ pos).1 : Nat) = false from hsg]
        repeat' (first | (refine And.intro ?_ ?_) | (intro h; (try first | replace h := of_decide_eq_true h | replace h := of_decide_eq_false h); (try simp only [sg, hx1] at h); (try simp only [sx, ↓reduceIte, Nat.reduceAdd, reduceCtorEq, Int.reduceLT, Int.reduceLE, Int.reduceSub, Nat.reduceEqDiff, Nat.reduceLT] at h); try exact nz h))
        all_goals (try exact cz)
        all_goals (try ((with_reducible show (_ : Nat) ≤ (_ : Nat)); (show _ * 16 ≤ _); omega))
        refine ⟨_, rfl, ?_⟩
        rw [show signI ((Utf8.decode ⟨⟨s⟩⟩ pos).1 : Nat) = false from hsg]
        repeat' (first | (refine And.intro ?_ ?_) | (intro h; (try first | replace h := of_decide_eq_true h | replace h := of_decide_eq_false h); (try simp only [sg, hx1] at h); (try simp only [sx, ↓reduceIte, Nat.reduceAdd, reduceCtorEq, Int.reduceLT, Int.reduceLE, Int.reduceSub, Nat.reduceEqDiff, Nat.reduceLT] at h); try exact nz h))
        all_goals (try exact cz)
        all_goals (try ((with_reducible show (_ : Nat) ≤ (_ : Nat)); (show _ * 16 ≤ _); omega))
        · show 0 + (acc.length + 1) ≤ (List.take acc.length (List.drop 0 (acc.map encS)) ++ [[AVal.str _]]).length
          simp
        refine ⟨_, ⟨[(0, .str s), (2, .slice 1 0 (acc ++ [cur] ++ [[UInt8.ofNat 123]]).length 1 none), (4, .int .i64 (fr : Nat)), (5, .int .i32 0), (9, .obj 0)], [(0, some (.iter s (pos + 1))), (1, some (.cells ((acc ++ [cur] ++ [[UInt8.ofNat 123]]).map encS) false))], 2⟩, reb_num [0, 6] (by first | rfl | kernel_rfl) ⟨.refl _, wk_slc (by simp), .refl _, .refl _, .refl _, trivial⟩ ⟨⟨by decide, _, rfl, by rw [hx2]; exact .refl _⟩, ⟨by decide, _, rfl, wkB_eq ?_ (fS _)⟩, trivial⟩, ⟨pos + 1, fr, [], acc ++ [cur] ++ [[UInt8.ofNat 123]], _, ⟨by omega, rfl, ?_, ?_, ?_, ?_⟩, .inr ⟨by simp, rfl⟩⟩, by omega⟩
        · simp only [Int.toNat_natCast, hcur, hx3]
          exact app_two acc cur _
        · show (acc ++ [cur] ++ [[UInt8.ofNat 123]]).length ≤ 2 * (pos + 1)
          first | omega | (simp <;> omega)
        · rw [← hgo, hdrop, wgo]
          rw [if_neg (by rw [hsF]; decide)]
          rw [if_pos hmF]
          rw [flushW, if_neg hcn]
          rw [hcM]
        · exact ⟨fun _ => rfl, fun _ => rfl⟩
        · intro h; exact absurd rfl h
    · -- m125
      have hd := dec_low hin hlow
      have hx1 := congrArg Prod.fst hd
      have hx2 := congrArg Prod.snd hd
      simp only at hx1 hx2
      have hsg : signI ((Utf8.decode ⟨⟨s⟩⟩ pos).1 : Nat) = signF (s.getD pos 0) := by rw [hx1]; exact signI_eq _
      rw [hsF] at hsg
      have hx3 : (Utf8.decode ⟨⟨s⟩⟩ pos).1 = 125 := hx1.trans hv
      have hcM : s.getD pos 0 = UInt8.ofNat 125 := by rw [← hv]; exact (UInt8.ofNat_toNat).symm
      by_cases hlz : last = 0
      · have hcz : cur = [] := hlc.1 hlz
        subst hlz
        repeat' (first | (refine And.intro ?_ ?_) | (intro h; (try first | replace h := of_decide_eq_true h | replace h := of_decide_eq_false h); (try simp only [sg, hx1] at h); (try simp only [sx, ↓reduceIte, Nat.reduceAdd, reduceCtorEq, Int.reduceLT, Int.reduceLE, Int.reduceSub, Nat.reduceEqDiff, Nat.reduceLT] at h); try exact nz h))
        all_goals (try exact cz)
        all_goals (try ((with_reducible show (_ : Nat) ≤ (_ : Nat)); (show _ * 16 ≤ _); omega))
        refine ⟨_, rfl, ?_⟩
        rw [show signI ((Utf8.decode ⟨⟨s⟩⟩ pos).1 : Nat) = false from hsg]
        repeat' (first | (refine And.intro ?_ ?_) | (intro h; (try first | replace h := of_decide_eq_true h | replace h := of_decide_eq_false h); (try simp only [sg, hx1] at h); (try simp only [sx, ↓reduceIte, Nat.reduceAdd, reduceCtorEq, Int.reduceLT, Int.reduceLE, Int.reduceSub, Nat.reduceEqDiff, Nat.reduceLT] at h); try exact nz h))
        all_goals (try exact cz)
        all_goals (try ((with_reducible show (_ : Nat) ≤ (_ : Nat)); (show _ * 16 ≤ _); omega))
        refine ⟨_, ⟨[(0, .str s), (2, .slice 1 0 (acc ++ [[UInt8.ofNat 125]]).length 1 none), (4, .int .i64 (fr : Nat)), (5, .int .i32 0), (9, .obj 0)], [(0, some (.iter s (pos + 1))), (1, some (.cells ((acc ++ [[UInt8.ofNat 125]]).map encS) false))], 2⟩, reb_num [0, 4] (by first | rfl | kernel_rfl) ⟨.refl _, wk_slc (by simp), .refl _, .refl _, .refl _, trivial⟩ ⟨⟨by decide, _, rfl, by rw [hx2]; exact .refl _⟩, ⟨by decide, _, rfl, wkB_eq ?_ (fS _)⟩, trivial⟩, ⟨pos + 1, fr, [], acc ++ [[UInt8.ofNat 125]], _, ⟨by omega, rfl, ?_, ?_, ?_, ?_⟩, .inr ⟨by simp, rfl⟩⟩, by omega⟩
        · simp only [hx3]
          exact app_one acc _
        · show (acc ++ [[UInt8.ofNat 125]]).length ≤ 2 * (pos + 1)
          first | omega | (simp <;> omega)
        · rw [← hgo, hdrop, wgo]
          rw [if_neg (by rw [hsF]; decide)]
          rw [if_pos hmF]
          simp only [hcz, flushW, if_true]
          rw [hcM]
        · exact ⟨fun _ => rfl, fun _ => rfl⟩
        · intro h; exact absurd rfl h
      · have hcn : cur ≠ [] := fun h => hlz (hlc.2 h)
        have hcur := (hcur' hcn).1
        have hfp := (hcur' hcn).2
        repeat' (first | (refine And.intro ?_ ?_) | (intro h; (try first | replace h := of_decide_eq_true h | replace h := of_decide_eq_false h); (try simp only [sg, hx1] at h); (try simp only [sx, ↓reduceIte, Nat.reduceAdd, reduceCtorEq, Int.reduceLT, Int.reduceLE, Int.reduceSub, Nat.reduceEqDiff, Nat.reduceLT] at h); try exact nz h))
        all_goals (try exact cz)
        all_goals (try ((with_reducible show (_ : Nat) ≤ (_ : Nat)); (show _ * 16 ≤ _); omega))
        refine ⟨_, rfl, ?_⟩
        rw [show signI ((Utf8.decode ⟨⟨s⟩⟩ pos).1 : Nat) = false from hsg]
        repeat' (first | (refine And.intro ?_ ?_) | (intro h; (try first | replace h := of_decide_eq_true h | replace h := of_decide_eq_false h); (try simp only [sg, hx1] at h); (try simp only [sx, ↓reduceIte, Nat.reduceAdd, reduceCtorEq, Int.reduceLT, Int.reduceLE, Int.reduceSub, Nat.reduceEqDiff, Nat.reduceLT] at h); try exact nz h))
        all_goals (try exact cz)
        all_goals (try ((with_reducible show (_ : Nat) ≤ (_ : Nat)); (show _ * 16 ≤ _); omega))
        refine ⟨_, rfl, ?_⟩
        rw [show signI ((Utf8.decode ⟨⟨s⟩⟩ pos).1 : Nat) = false from hsg]
        repeat' (first | (refine And.intro ?_ ?_) | (intro h; (try first | replace h := of_decide_eq_true h | replace h := of_decide_eq_false h); (try simp only [sg, hx1] at h); (try simp only [sx, ↓reduceIte, Nat.reduceAdd, reduceCtorEq, Int.reduceLT, Int.reduceLE, Int.reduceSub, Nat.reduceEqDiff, Nat.reduceLT] at h); try exact nz h))
        all_goals (try exact cz)
        all_goals (try ((with_reducible show (_ : Nat) ≤ (_ : Nat)); (show _ * 16 ≤ _); omega))
        · show 0 + (acc.length + 1) ≤ (List.take acc.length (List.drop 0 (acc.map encS)) ++ [[AVal.str _]]).length
          simp
        refine ⟨_, ⟨[(0, .str s), (2, .slice 1 0 (acc ++ [cur] ++ [[UInt8.ofNat 125]]).length 1 none), (4, .int .i64 (fr : Nat)), (5, .int .i32 0), (9, .obj 0)], [(0, some (.iter s (pos + 1))), (1, some (.cells ((acc ++ [cur] ++ [[UInt8.ofNat 125]]).map encS) false))], 2⟩, reb_num [0, 6] (by first | rfl | kernel_rfl) ⟨.refl _, wk_slc (by simp), .refl _, .refl _, .refl _, trivial⟩ ⟨⟨by decide, _, rfl, by rw [hx2]; exact .refl _⟩, ⟨by decide, _, rfl, wkB_eq ?_ (fS _)⟩, trivial⟩, ⟨pos + 1, fr, [], acc ++ [cur] ++ [[UInt8.ofNat 125]], _, ⟨by omega, rfl, ?_, ?_, ?_, ?_⟩, .inr ⟨by simp, rfl⟩⟩, by omega⟩
        · simp only [Int.toNat_natCast, hcur, hx3]
          exact app_two acc cur _
        · show (acc ++ [cur] ++ [[UInt8.ofNat 125]]).length ≤ 2 * (pos + 1)
          first | omega | (simp <;> omega)
        · rw [← hgo, hdrop, wgo]
          rw [if_neg (by rw [hsF]; decide)]
          rw [if_pos hmF]
          rw [flushW, if_neg hcn]
          rw [hcM]
        · exact ⟨fun _ => rfl, fun _ => rfl⟩
        · intro h; exact absurd rfl h
    · -- m59
      have hd := dec_low hin hlow
      have hx1 := congrArg Prod.fst hd
      have hx2 := congrArg Prod.snd hd
      simp only at hx1 hx2
      have hsg : signI ((Utf8.decode ⟨⟨s⟩⟩ pos).1 : Nat) = signF (s.getD pos 0) := by rw [hx1]; exact signI_eq _
      rw [hsF] at hsg
      have hx3 : (Utf8.decode ⟨⟨s⟩⟩ pos).1 = 59 := hx1.trans hv
      have hcM : s.getD pos 0 = UInt8.ofNat 59 := by rw [← hv]; exact (UInt8.ofNat_toNat).symm
      by_cases hlz : last = 0
      · have hcz : cur = [] := hlc.1 hlz
        subst hlz
        repeat' (first | (refine And.intro ?_ ?_) | (intro h; (try first | replace h := of_decide_eq_true h | replace h := of_decide_eq_false h); (try simp only [sg, hx1] at h); (try simp only [sx, ↓reduceIte, Nat.reduceAdd, reduceCtorEq, Int.reduceLT, Int.reduceLE, Int.reduceSub, Nat.reduceEqDiff, Nat.reduceLT] at h); try exact nz h))
        all_goals (try exact cz)
        all_goals (try ((with_reducible show (_ : Nat) ≤ (_ : Nat)); (show _ * 16 ≤ _); omega))
        refine ⟨_, rfl, ?_⟩
        rw [show signI ((Utf8.decode ⟨⟨s⟩⟩ pos).1 : Nat) = false from hsg]
        repeat' (first | (refine And.intro ?_ ?_) | (intro h; (try first | replace h := of_decide_eq_true h | replace h := of_decide_eq_false h); (try simp only [sg, hx1] at h); (try simp only [sx, ↓reduceIte, Nat.reduceAdd, reduceCtorEq, Int.reduceLT, Int.reduceLE, Int.reduceSub, Nat.reduceEqDiff, Nat.reduceLT] at h); try exact nz h))
        all_goals (try exact cz)
        all_goals (try ((with_reducible show (_ : Nat) ≤ (_ : Nat)); (show _ * 16 ≤ _); omega))
        refine ⟨_, ⟨[(0, .str s), (2, .slice 1 0 (acc ++ [[UInt8.ofNat 59]]).length 1 none), (4, .int .i64 (fr : Nat)), (5, .int .i32 0), (9, .obj 0)], [(0, some (.iter s (pos + 1))), (1, some (.cells ((acc ++ [[UInt8.ofNat 59]]).map encS) false))], 2⟩, reb_num [0, 4] (by first | rfl | kernel_rfl) ⟨.refl _, wk_slc (by simp), .refl _, .refl _, .refl _, trivial⟩ ⟨⟨by decide, _, rfl, by rw [hx2]; exact .refl _⟩, ⟨by decide, _, rfl, wkB_eq ?_ (fS _)⟩, trivial⟩, ⟨pos + 1, fr, [], acc ++ [[UInt8.ofNat 59]], _, ⟨by omega, rfl, ?_, ?_, ?_, ?_⟩, .inr ⟨by simp, rfl⟩⟩, by omega⟩
        · simp only [hx3]
          exact app_one acc _
        · show (acc ++ [[UInt8.ofNat 59]]).length ≤ 2 * (pos + 1)
          first | omega | (simp <;> omega)
        · rw [← hgo, hdrop, wgo]
          rw [if_neg (by rw [hsF]; decide)]
          rw [if_pos hmF]
          simp only [hcz, flushW, if_true]
          rw [hcM]
        · exact ⟨fun _ => rfl, fun _ => rfl⟩
        · intro h; exact absurd rfl h
      · have hcn : cur ≠ [] := fun h => hlz (hlc.2 h)
        have hcur := (hcur' hcn).1
        have hfp := (hcur' hcn).2
        repeat' (first | (refine And.intro ?_ ?_) | (intro h; (try first | replace h := of_decide_eq_true h | replace h := of_decide_eq_false h); (try simp only [sg, hx1] at h); (try simp only [sx, ↓reduceIte, Nat.reduceAdd, reduceCtorEq, Int.reduceLT, Int.reduceLE, Int.reduceSub, Nat.reduceEqDiff, Nat.reduceLT] at h); try exact nz h))
        all_goals (try exact cz)
        all_goals (try ((with_reducible show (_ : Nat) ≤ (_ : Nat)); (show _ * 16 ≤ _); omega))
        refine ⟨_, rfl, ?_⟩
        rw [show signI ((Utf8.decode ⟨⟨s⟩⟩ pos).1 : Nat) = false from hsg]
        repeat' (first | (refine And.intro ?_ ?_) | (intro h; (try first | replace h := of_decide_eq_true h | replace h := of_decide_eq_false h); (try simp only [sg, hx1] at h); (try simp only [sx, ↓reduceIte, Nat.reduceAdd, reduceCtorEq, Int.reduceLT, Int.reduceLE, Int.reduceSub, Nat.reduceEqDiff, Nat.reduceLT] at h); try exact nz h))
        all_goals (try exact cz)
        all_goals (try ((with_reducible show (_ : Nat) ≤ (_ : Nat)); (show _ * 16 ≤ _); omega))
        refine ⟨_, rfl, ?_⟩
        rw [show signI ((Utf8.decode ⟨⟨s⟩⟩ pos).1 : Nat) = false from hsg]
        repeat' (first | (refine And.intro ?_ ?_) | (intro h; (try first | replace h := of_decide_eq_true h | replace h := of_decide_eq_false h); (try simp only [sg, hx1] at h); (try simp only [sx, ↓reduceIte, Nat.reduceAdd, reduceCtorEq, Int.reduceLT, Int.reduceLE, Int.reduceSub, Nat.reduceEqDiff, Nat.reduceLT] at h); try exact nz h))
        all_goals (try exact cz)
        all_goals (try ((with_reducible show (_ : Nat) ≤ (_ : Nat)); (show _ * 16 ≤ _); omega))
        · show 0 + (acc.length + 1) ≤ (List.take acc.length (List.drop 0 (acc.map encS)) ++ [[AVal.str _]]).length
          simp
        refine ⟨_, ⟨[(0, .str s), (2, .slice 1 0 (acc ++ [cur] ++ [[UInt8.ofNat 59]]).length 1 none), (4, .int .i64 (fr : Nat)), (5, .int .i32 0), (9, .obj 0)], [(0, some (.iter s (pos + 1))), (1, some (.cells ((acc ++ [cur] ++ [[UInt8.ofNat 59]]).map encS) false))], 2⟩, reb_num [0, 6] (by first | rfl | kernel_rfl) ⟨.refl _, wk_slc (by simp), .refl _, .refl _, .refl _, trivial⟩ ⟨⟨by decide, _, rfl, by rw [hx2]; exact .refl _⟩, ⟨by decide, _, rfl, wkB_eq ?_ (fS _)⟩, trivial⟩, ⟨pos + 1, fr, [], acc ++ [cur] ++ [[UInt8.ofNat 59]], _, ⟨by omega, rfl, ?_, ?_, ?_, ?_⟩, .inr ⟨by simp, rfl⟩⟩, by omega⟩
        · simp only [Int.toNat_natCast, hcur, hx3]
          exact app_two acc cur _
        · show (acc ++ [cur] ++ [[UInt8.ofNat 59]]).length ≤ 2 * (pos + 1)
          first | omega | (simp <;> omega)
        · rw [← hgo, hdrop, wgo]
          rw [if_neg (by rw [hsF]; decide)]
          rw [if_pos hmF]
          rw [flushW, if_neg hcn]
          rw [hcM]
        · exact ⟨fun _ => rfl, fun _ => rfl⟩
        · intro h; exact absurd rfl h
    · -- b32
      have hd := dec_low hin hlow
      have hx1 := congrArg Prod.fst hd
      have hx2 := congrArg Prod.snd hd
      simp only at hx1 hx2
      have hsg : signI ((Utf8.decode ⟨⟨s⟩⟩ pos).1 : Nat) = signF (s.getD pos 0) := by rw [hx1]; exact signI_eq _
      rw [hsF] at hsg
      have hx3 : (Utf8.decode ⟨⟨s⟩⟩ pos).1 = 32 := hx1.trans hv
      by_cases hlz : last = 0
      · have hcz : cur = [] := hlc.1 hlz
        subst hlz
        repeat' (first | (refine And.intro ?_ ?_) | (intro h; (try first | replace h := of_decide_eq_true h | replace h := of_decide_eq_false h); (try simp only [sg, hx1] at h); (try simp only [sx, ↓reduceIte, Nat.reduceAdd, reduceCtorEq, Int.reduceLT, Int.reduceLE, Int.reduceSub, Nat.reduceEqDiff, Nat.reduceLT] at h); try exact nz h))
        all_goals (try exact cz)
        all_goals (try ((with_reducible show (_ : Nat) ≤ (_ : Nat)); (show _ * 16 ≤ _); omega))
        refine ⟨_, rfl, ?_⟩
        rw [show signI ((Utf8.decode ⟨⟨s⟩⟩ pos).1 : Nat) = false from hsg]
        repeat' (first | (refine And.intro ?_ ?_) | (intro h; (try first | replace h := of_decide_eq_true h | replace h := of_decide_eq_false h); (try simp only [sg, hx1] at h); (try simp only [sx, ↓reduceIte, Nat.reduceAdd, reduceCtorEq, Int.reduceLT, Int.reduceLE, Int.reduceSub, Nat.reduceEqDiff, Nat.reduceLT] at h); try exact nz h))
        all_goals (try exact cz)
        all_goals (try ((with_reducible show (_ : Nat) ≤ (_ : Nat)); (show _ * 16 ≤ _); omega))
        refine ⟨_, ⟨[(0, .str s), (2, .slice 1 0 (acc).length 1 none), (4, .int .i64 (fr : Nat)), (5, .int .i32 0), (9, .obj 0)], [(0, some (.iter s (pos + 1))), (1, some (.cells ((acc).map encS) false))], 2⟩, reb_num [0, 1] (by first | rfl | kernel_rfl) ⟨.refl _, .refl _, .refl _, .refl _, .refl _, trivial⟩ ⟨⟨by decide, _, rfl, by rw [hx2]; exact .refl _⟩, ⟨by decide, _, rfl, wkB_same (fS _)⟩, trivial⟩, ⟨pos + 1, fr, [], acc, _, ⟨by omega, rfl, ?_, ?_, ?_, ?_⟩, .inr ⟨hne, rfl⟩⟩, by omega⟩
        · show (acc).length ≤ 2 * (pos + 1)
          first | omega | (simp <;> omega)
        · rw [← hgo, hdrop, wgo]
          rw [if_neg (by rw [hsF]; decide)]
          rw [if_neg (by rw [hmF]; decide), if_pos hbF]
          simp only [hcz, flushW, if_true]
        · exact ⟨fun _ => rfl, fun _ => rfl⟩
        · intro h; exact absurd rfl h
      · have hcn : cur ≠ [] := fun h => hlz (hlc.2 h)
        have hcur := (hcur' hcn).1
        have hfp := (hcur' hcn).2
        repeat' (first | (refine And.intro ?_ ?_) | (intro h; (try first | replace h := of_decide_eq_true h | replace h := of_decide_eq_false h); (try simp only [sg, hx1] at h); (try simp only [sx, ↓reduceIte, Nat.reduceAdd, reduceCtorEq, Int.reduceLT, Int.reduceLE, Int.reduceSub, Nat.reduceEqDiff, Nat.reduceLT] at h); try exact nz h))
        all_goals (try exact cz)
        all_goals (try ((with_reducible show (_ : Nat) ≤ (_ : Nat)); (show _ * 16 ≤ _); omega))
        refine ⟨_, rfl, ?_⟩
        rw [show signI ((Utf8.decode ⟨⟨s⟩⟩ pos).1 : Nat) = false from hsg]
        repeat' (first | (refine And.intro ?_ ?_) | (intro h; (try first | replace h := of_decide_eq_true h | replace h := of_decide_eq_false h); (try simp only [sg, hx1] at h); (try simp only [sx, ↓reduceIte, Nat.reduceAdd, reduceCtorEq, Int.reduceLT, Int.reduceLE, Int.reduceSub, Nat.reduceEqDiff, Nat.reduceLT] at h); try exact nz h))
        all_goals (try exact cz)
        all_goals (try ((with_reducible show (_ : Nat) ≤ (_ : Nat)); (show _ * 16 ≤ _); omega))
        refine ⟨_, rfl, ?_⟩
        rw [show signI ((Utf8.decode ⟨⟨s⟩⟩ pos).1 : Nat) = false from hsg]
        repeat' (first | (refine And.intro ?_ ?_) | (intro h; (try first | replace h := of_decide_eq_true h | replace h := of_decide_eq_false h); (try simp only [sg, hx1] at h); (try simp only [sx, ↓reduceIte, Nat.reduceAdd, reduceCtorEq, Int.reduceLT, Int.reduceLE, Int.reduceSub, Nat.reduceEqDiff, Nat.reduceLT] at h); try exact nz h))
        all_goals (try exact cz)
        all_goals (try ((with_reducible show (_ : Nat) ≤ (_ : Nat)); (show _ * 16 ≤ _); omega))
        refine ⟨_, ⟨[(0, .str s), (2, .slice 1 0 (acc ++ [cur]).length 1 none), (4, .int .i64 (fr : Nat)), (5, .int .i32 0), (9, .obj 0)], [(0, some (.iter s (pos + 1))), (1, some (.cells ((acc ++ [cur]).map encS) false))], 2⟩, reb_num [0, 4] (by first | rfl | kernel_rfl) ⟨.refl _, wk_slc (by simp), .refl _, .refl _, .refl _, trivial⟩ ⟨⟨by decide, _, rfl, by rw [hx2]; exact .refl _⟩, ⟨by decide, _, rfl, wkB_eq ?_ (fS _)⟩, trivial⟩, ⟨pos + 1, fr, [], acc ++ [cur], _, ⟨by omega, rfl, ?_, ?_, ?_, ?_⟩, .inr ⟨by simp, rfl⟩⟩, by omega⟩
        · simp only [Int.toNat_natCast, hcur]
          exact app_one acc _
        · show (acc ++ [cur]).length ≤ 2 * (pos + 1)
          first | omega | (simp <;> omega)
        · rw [← hgo, hdrop, wgo]
          rw [if_neg (by rw [hsF]; decide)]
          rw [if_neg (by rw [hmF]; decide), if_pos hbF]
          rw [flushW, if_neg hcn]
        · exact ⟨fun _ => rfl, fun _ => rfl⟩
        · intro h; exact absurd rfl h
    · -- b9
      have hd := dec_low hin hlow
      have hx1 := congrArg Prod.fst hd
      have hx2 := congrArg Prod.snd hd
      simp only at hx1 hx2
      have hsg : signI ((Utf8.decode ⟨⟨s⟩⟩ pos).1 : Nat) = signF (s.getD pos 0) := by rw [hx1]; exact signI_eq _
      rw [hsF] at hsg
      have hx3 : (Utf8.decode ⟨⟨s⟩⟩ pos).1 = 9 := hx1.trans hv
      by_cases hlz : last = 0
      · have hcz : cur = [] := hlc.1 hlz
        subst hlz
        repeat' (first | (refine And.intro ?_ ?_) | (intro h; (try first | replace h := of_decide_eq_true h | replace h := of_decide_eq_false h); (try simp only [sg, hx1] at h); (try simp only [sx, ↓reduceIte, Nat.reduceAdd, reduceCtorEq, Int.reduceLT, Int.reduceLE, Int.reduceSub, Nat.reduceEqDiff, Nat.reduceLT] at h); try exact nz h))
        all_goals (try exact cz)
        all_goals (try ((with_reducible show (_ : Nat) ≤ (_ : Nat)); (show _ * 16 ≤ _); omega))
        refine ⟨_, rfl, ?_⟩
        rw [show signI ((Utf8.decode ⟨⟨s⟩⟩ pos).1 : Nat) = false from hsg]
        repeat' (first | (refine And.intro ?_ ?_) | (intro h; (try first | replace h := of_decide_eq_true h | replace h := of_decide_eq_false h); (try simp only [sg, hx1] at h); (try simp only [sx, ↓reduceIte, Nat.reduceAdd, reduceCtorEq, Int.reduceLT, Int.reduceLE, Int.reduceSub, Nat.reduceEqDiff, Nat.reduceLT] at h); try exact nz h))
        all_goals (try exact cz)
        all_goals (try ((with_reducible show (_ : Nat) ≤ (_ : Nat)); (show _ * 16 ≤ _); omega))
        refine ⟨_, ⟨[(0, .str s), (2, .slice 1 0 (acc).length 1 none), (4, .int .i64 (fr : Nat)), (5, .int .i32 0), (9, .obj 0)], [(0, some (.iter s (pos + 1))), (1, some (.cells ((acc).map encS) false))], 2⟩, reb_num [0, 1] (by first | rfl | kernel_rfl) ⟨.refl _, .refl _, .refl _, .refl _, .refl _, trivial⟩ ⟨⟨by decide, _, rfl, by rw [hx2]; exact .refl _⟩, ⟨by decide, _, rfl, wkB_same (fS _)⟩, trivial⟩, ⟨pos + 1, fr, [], acc, _, ⟨by omega, rfl, ?_, ?_, ?_, ?_⟩, .inr ⟨hne, rfl⟩⟩, by omega⟩
        · show (acc).length ≤ 2 * (pos + 1)
          first | omega | (simp <;> omega)
        · rw [← hgo, hdrop, wgo]
          rw [if_neg (by rw [hsF]; decide)]
          rw [if_neg (by rw [hmF]; decide), if_pos hbF]
          simp only [hcz, flushW, if_true]
        · exact ⟨fun _ => rfl, fun _ => rfl⟩
        · intro h; exact absurd rfl h
      · have hcn : cur ≠ [] := fun h => hlz (hlc.2 h)
        have hcur := (hcur' hcn).1
        have hfp := (hcur' hcn).2
        repeat' (first | (refine And.intro ?_ ?_) | (intro h; (try first | replace h := of_decide_eq_true h | replace h := of_decide_eq_false h); (try simp only [sg, hx1] at h); (try simp only [sx, ↓reduceIte, Nat.reduceAdd, reduceCtorEq, Int.reduceLT, Int.reduceLE, Int.reduceSub, Nat.reduceEqDiff, Nat.reduceLT] at h); try exact nz h))
        all_goals (try exact cz)
        all_goals (try ((with_reducible show (_ : Nat) ≤ (_ : Nat)); (show _ * 16 ≤ _); omega))
        refine ⟨_, rfl, ?_⟩
        rw [show signI ((Utf8.decode ⟨⟨s⟩⟩ pos).1 : Nat) = false from hsg]
        repeat' (first | (refine And.intro ?_ ?_) | (intro h; (try first | replace h := of_decide_eq_true h | replace h := of_decide_eq_false h); (try simp only [sg, hx1] at h); (try simp only [sx, ↓reduceIte, Nat.reduceAdd, reduceCtorEq, Int.reduceLT, Int.reduceLE, Int.reduceSub, Nat.reduceEqDiff, Nat.reduceLT] at h); try exact nz h))
        all_goals (try exact cz)
        all_goals (try ((with_reducible show (_ : Nat) ≤ (_ : Nat)); (show _ * 16 ≤ _); omega))
        refine ⟨_, rfl, ?_⟩
        rw [show signI ((Utf8.decode ⟨⟨s⟩⟩ pos).1 : Nat) = false from hsg]
        repeat' (first | (refine And.intro ?_ ?_) | (intro h; (try first | replace h := of_decide_eq_true h | replace h := of_decide_eq_false h); (try simp only [sg, hx1] at h); (try simp only [sx, ↓reduceIte, Nat.reduceAdd, reduceCtorEq, Int.reduceLT, Int.reduceLE, Int.reduceSub, Nat.reduceEqDiff, Nat.reduceLT] at h); try exact nz h))
        all_goals (try exact cz)
        all_goals (try ((with_reducible show (_ : Nat) ≤ (_ : Nat)); (show _ * 16 ≤ _); omega))
        refine ⟨_, ⟨[(0, .str s), (2, .slice 1 0 (acc ++ [cur]).length 1 none), (4, .int .i64 (fr : Nat)), (5, .int .i32 0), (9, .obj 0)], [(0, some (.iter s (pos + 1))), (1, some (.cells ((acc ++ [cur]).map encS) false))], 2⟩, reb_num [0, 4] (by first | rfl | kernel_rfl) ⟨.refl _, wk_slc (by simp), .refl _, .refl _, .refl _, trivial⟩ ⟨⟨by decide, _, rfl, by rw [hx2]; exact .refl _⟩, ⟨by decide, _, rfl, wkB_eq ?_ (fS _)⟩, trivial⟩, ⟨pos + 1, fr, [], acc ++ [cur], _, ⟨by omega, rfl, ?_, ?_, ?_, ?_⟩, .inr ⟨by simp, rfl⟩⟩, by omega⟩
        · simp only [Int.toNat_natCast, hcur]
          exact app_one acc _
        · show (acc ++ [cur]).length ≤ 2 * (pos + 1)
          first | omega | (simp <;> omega)
        · rw [← hgo, hdrop, wgo]
          rw [if_neg (by rw [hsF]; decide)]
          rw [if_neg (by rw [hmF]; decide), if_pos hbF]
          rw [flushW, if_neg hcn]
        · exact ⟨fun _ => rfl, fun _ => rfl⟩
        · intro h; exact absurd rfl h
    · -- b10
      have hd := dec_low hin hlow
      have hx1 := congrArg Prod.fst hd
      have hx2 := congrArg Prod.snd hd
      simp only at hx1 hx2
      have hsg : signI ((Utf8.decode ⟨⟨s⟩⟩ pos).1 : Nat) = signF (s.getD pos 0) := by rw [hx1]; exact signI_eq _
      rw [hsF] at hsg
      have hx3 : (Utf8.decode ⟨⟨s⟩⟩ pos).1 = 10 := hx1.trans hv
      by_cases hlz : last = 0
      · have hcz : cur = [] := hlc.1 hlz
        subst hlz
        repeat' (first | (refine And.intro ?_ ?_) | (intro h; (try first | replace h := of_decide_eq_true h | replace h := of_decide_eq_false h); (try simp only [sg, hx1] at h); (try simp only [sx, ↓reduceIte, Nat.reduceAdd, reduceCtorEq, Int.reduceLT, Int.reduceLE, Int.reduceSub, Nat.reduceEqDiff, Nat.reduceLT] at h); try exact nz h))
        all_goals (try exact cz)
        all_goals (try ((with_reducible show (_ : Nat) ≤ (_ : Nat)); (show _ * 16 ≤ _); omega))
        refine ⟨_, rfl, ?_⟩
        rw [show signI ((Utf8.decode ⟨⟨s⟩⟩ pos).1 : Nat) = false from hsg]
        repeat' (first | (refine And.intro ?_ ?_) | (intro h; (try first | replace h := of_decide_eq_true h | replace h := of_decide_eq_false h); (try simp only [sg, hx1] at h); (try simp only [sx, ↓reduceIte, Nat.reduceAdd, reduceCtorEq, Int.reduceLT, Int.reduceLE, Int.reduceSub, Nat.reduceEqDiff, Nat.reduceLT] at h); try exact nz h))
        all_goals (try exact cz)
        all_goals (try ((with_reducible show (_ : Nat) ≤ (_ : Nat)); (show _ * 16 ≤ _); omega))
        refine ⟨_, ⟨[(0, .str s), (2, .slice 1 0 (acc).length 1 none), (4, .int .i64 (fr : Nat)), (5, .int .i32 0), (9, .obj 0)], [(0, some (.iter s (pos + 1))), (1, some (.cells ((acc).map encS) false))], 2⟩, reb_num [0, 1] (by first | rfl | kernel_rfl) ⟨.refl _, .refl _, .refl _, .refl _, .refl _, trivial⟩ ⟨⟨by decide, _, rfl, by rw [hx2]; exact .refl _⟩, ⟨by decide, _, rfl, wkB_same (fS _)⟩, trivial⟩, ⟨pos + 1, fr, [], acc, _, ⟨by omega, rfl, ?_, ?_, ?_, ?_⟩, .inr ⟨hne, rfl⟩⟩, by omega⟩
        · show (acc).length ≤ 2 * (pos + 1)
          first | omega | (simp <;> omega)
        · rw [← hgo, hdrop, wgo]
          rw [if_neg (by rw [hsF]; decide)]
          rw [if_neg (by rw [hmF]; decide), if_pos hbF]
          simp only [hcz, flushW, if_true]
        · exact ⟨fun _ => rfl, fun _ => rfl⟩
        · intro h; exact absurd rfl h
      · have hcn : cur ≠ [] := fun h => hlz (hlc.2 h)
        have hcur := (hcur' hcn).1
        have hfp := (hcur' hcn).2
        repeat' (first | (refine And.intro ?_ ?_) | (intro h; (try first | replace h := of_decide_eq_true h | replace h := of_decide_eq_false h); (try simp only [sg, hx1] at h); (try simp only [sx, ↓reduceIte, Nat.reduceAdd, reduceCtorEq, Int.reduceLT, Int.reduceLE, Int.reduceSub, Nat.reduceEqDiff, Nat.reduceLT] at h); try exact nz h))
        all_goals (try exact cz)
        all_goals (try ((with_reducible show (_ : Nat) ≤ (_ : Nat)); (show _ * 16 ≤ _); omega))
        refine ⟨_, rfl, ?_⟩
        rw [show signI ((Utf8.decode ⟨⟨s⟩⟩ pos).1 : Nat) = false from hsg]
        repeat' (first | (refine And.intro ?_ ?_) | (intro h; (try first | replace h := of_decide_eq_true h | replace h := of_decide_eq_false h); (try simp only [sg, hx1] at h); (try simp only [sx, ↓reduceIte, Nat.reduceAdd, reduceCtorEq, Int.reduceLT, Int.reduceLE, Int.reduceSub, Nat.reduceEqDiff, Nat.reduceLT] at h); try exact nz h))
        all_goals (try exact cz)
        all_goals (try ((with_reducible show (_ : Nat) ≤ (_ : Nat)); (show _ * 16 ≤ _); omega))
        refine ⟨_, rfl, ?_⟩
        rw [show signI ((Utf8.decode ⟨⟨s⟩⟩ pos).1 : Nat) = false from hsg]
        repeat' (first | (refine And.intro ?_ ?_) | (intro h; (try first | replace h := of_decide_eq_true h | replace h := of_decide_eq_false h); (try simp only [sg, hx1] at h); (try simp only [sx, ↓reduceIte, Nat.reduceAdd, reduceCtorEq, Int.reduceLT, Int.reduceLE, Int.reduceSub, Nat.reduceEqDiff, Nat.reduceLT] at h); try exact nz h))
        all_goals (try exact cz)
        all_goals (try ((with_reducible show (_ : Nat) ≤ (_ : Nat)); (show _ * 16 ≤ _); omega))
        refine ⟨_, ⟨[(0, .str s), (2, .slice 1 0 (acc ++ [cur]).length 1 none), (4, .int .i64 (fr : Nat)), (5, .int .i32 0), (9, .obj 0)], [(0, some (.iter s (pos + 1))), (1, some (.cells ((acc ++ [cur]).map encS) false))], 2⟩, reb_num [0, 4] (by first | rfl | kernel_rfl) ⟨.refl _, wk_slc (by simp), .refl _, .refl _, .refl _, trivial⟩ ⟨⟨by decide, _, rfl, by rw [hx2]; exact .refl _⟩, ⟨by decide, _, rfl, wkB_eq ?_ (fS _)⟩, trivial⟩, ⟨pos + 1, fr, [], acc ++ [cur], _, ⟨by omega, rfl, ?_, ?_, ?_, ?_⟩, .inr ⟨by simp, rfl⟩⟩, by omega⟩
        · simp only [Int.toNat_natCast, hcur]
          exact app_one acc _
        · show (acc ++ [cur]).length ≤ 2 * (pos + 1)
          first | omega | (simp <;> omega)
        · rw [← hgo, hdrop, wgo]
          rw [if_neg (by rw [hsF]; decide)]
          rw [if_neg (by rw [hmF]; decide), if_pos hbF]
          rw [flushW, if_neg hcn]
        · exact ⟨fun _ => rfl, fun _ => rfl⟩
        · intro h; exact absurd rfl h
    · -- bad
      have hd := dec_low hin hlow
      have hx1 := congrArg Prod.fst hd
      have hx2 := congrArg Prod.snd hd
      simp only at hx1 hx2
      have hsg : signI ((Utf8.decode ⟨⟨s⟩⟩ pos).1 : Nat) = signF (s.getD pos 0) := by rw [hx1]; exact signI_eq _
      rw [hsF] at hsg
      have hnone : wordsF s = none := by
        rw [← hgo, hdrop, wgo, if_neg (by rw [hsF]; decide), if_neg (by rw [hmF]; decide), if_neg (by rw [hbF]; decide)]
      by_cases hlz : last = 0
      · have hcz : cur = [] := hlc.1 hlz
        subst hlz
        repeat' (first | (refine And.intro ?_ ?_) | (intro h; (try first | replace h := of_decide_eq_true h | replace h := of_decide_eq_false h); (try simp only [sg, hx1] at h); (try simp only [sx, ↓reduceIte, Nat.reduceAdd, reduceCtorEq, Int.reduceLT, Int.reduceLE, Int.reduceSub, Nat.reduceEqDiff, Nat.reduceLT] at h); try exact nz h))
        all_goals (try exact cz)
        all_goals (try ((with_reducible show (_ : Nat) ≤ (_ : Nat)); (show _ * 16 ≤ _); omega))
        refine ⟨_, rfl, ?_⟩
        rw [show signI ((Utf8.decode ⟨⟨s⟩⟩ pos).1 : Nat) = false from hsg]
        repeat' (first | (refine And.intro ?_ ?_) | (intro h; (try first | replace h := of_decide_eq_true h | replace h := of_decide_eq_false h); (try simp only [sg, hx1] at h); (try simp only [sx, ↓reduceIte, Nat.reduceAdd, reduceCtorEq, Int.reduceLT, Int.reduceLE, Int.reduceSub, Nat.reduceEqDiff, Nat.reduceLT] at h); try exact nz h))
        all_goals (try exact cz)
        all_goals (try ((with_reducible show (_ : Nat) ≤ (_ : Nat)); (show _ * 16 ≤ _); omega))
        all_goals exact ⟨_, reb_flat [2, 3] rfl, _, rfl, hPn hnone, rfl⟩
      · have hcn : cur ≠ [] := fun h => hlz (hlc.2 h)
        have hcur := (hcur' hcn).1
        have hfp := (hcur' hcn).2
        repeat' (first | (refine And.intro ?_ ?_) | (intro h; (try first | replace h := of_decide_eq_true h | replace h := of_decide_eq_false h); (try simp only [sg, hx1] at h); (try simp only [sx, ↓reduceIte, Nat.reduceAdd, reduceCtorEq, Int.reduceLT, Int.reduceLE, Int.reduceSub, Nat.reduceEqDiff, Nat.reduceLT] at h); try exact nz h))
        all_goals (try exact cz)
        all_goals (try ((with_reducible show (_ : Nat) ≤ (_ : Nat)); (show _ * 16 ≤ _); omega))
        refine ⟨_, rfl, ?_⟩
        rw [show signI ((Utf8.decode ⟨⟨s⟩⟩ pos).1 : Nat) = false from hsg]
        repeat' (first | (refine And.intro ?_ ?_) | (intro h; (try first | replace h := of_decide_eq_true h | replace h := of_decide_eq_false h); (try simp only [sg, hx1] at h); (try simp only [sx, ↓reduceIte, Nat.reduceAdd, reduceCtorEq, Int.reduceLT, Int.reduceLE, Int.reduceSub, Nat.reduceEqDiff, Nat.reduceLT] at h); try exact nz h))
        all_goals (try exact cz)
        all_goals (try ((with_reducible show (_ : Nat) ≤ (_ : Nat)); (show _ * 16 ≤ _); omega))
        refine ⟨_, rfl, ?_⟩
        rw [show signI ((Utf8.decode ⟨⟨s⟩⟩ pos).1 : Nat) = false from hsg]
        repeat' (first | (refine And.intro ?_ ?_) | (intro h; (try first | replace h := of_decide_eq_true h | replace h := of_decide_eq_false h); (try simp only [sg, hx1] at h); (try simp only [sx, ↓reduceIte, Nat.reduceAdd, reduceCtorEq, Int.reduceLT, Int.reduceLE, Int.reduceSub, Nat.reduceEqDiff, Nat.reduceLT] at h); try exact nz h))
        all_goals (try exact cz)
        all_goals (try ((with_reducible show (_ : Nat) ≤ (_ : Nat)); (show _ * 16 ≤ _); omega))
        all_goals exact ⟨_, reb_flat [2, 3] rfl, _, rfl, hPn hnone, rfl⟩
    · -- high
      have hd := dec_high hin hhi
      have hx1 : True = True := rfl
      have hsg : signI ((Utf8.decode ⟨⟨s⟩⟩ pos).1 : Nat) = false := signI_high hd.1
      have hnone : wordsF s = none := by
        rw [← hgo, hdrop, wgo, if_neg (by rw [hsF]; decide), if_neg (by rw [hmF]; decide), if_neg (by rw [hbF]; decide)]
      by_cases hlz : last = 0
      · have hcz : cur = [] := hlc.1 hlz
        subst hlz
        repeat' (first | (refine And.intro ?_ ?_) | (intro h; (try first | replace h := of_decide_eq_true h | replace h := of_decide_eq_false h); (try simp only [sg, hx1] at h); (try simp only [sx, ↓reduceIte, Nat.reduceAdd, reduceCtorEq, Int.reduceLT, Int.reduceLE, Int.reduceSub, Nat.reduceEqDiff, Nat.reduceLT] at h); try exact nz h))
        all_goals (try exact cz)
        all_goals (try ((with_reducible show (_ : Nat) ≤ (_ : Nat)); (show _ * 16 ≤ _); omega))
        refine ⟨_, rfl, ?_⟩
        rw [show signI ((Utf8.decode ⟨⟨s⟩⟩ pos).1 : Nat) = false from hsg]
        repeat' (first | (refine And.intro ?_ ?_) | (intro h; (try first | replace h := of_decide_eq_true h | replace h := of_decide_eq_false h); (try simp only [sg, hx1] at h); (try simp only [sx, ↓reduceIte, Nat.reduceAdd, reduceCtorEq, Int.reduceLT, Int.reduceLE, Int.reduceSub, Nat.reduceEqDiff, Nat.reduceLT] at h); try exact nz h))
        all_goals (try exact cz)
        all_goals (try ((with_reducible show (_ : Nat) ≤ (_ : Nat)); (show _ * 16 ≤ _); omega))
        all_goals exact ⟨_, reb_flat [2, 3] rfl, _, rfl, hPn hnone, rfl⟩
      · have hcn : cur ≠ [] := fun h => hlz (hlc.2 h)
        have hcur := (hcur' hcn).1
        have hfp := (hcur' hcn).2
        repeat' (first | (refine And.intro ?_ ?_) | (intro h; (try first | replace h := of_decide_eq_true h | replace h := of_decide_eq_false h); (try simp only [sg, hx1] at h); (try simp only [sx, ↓reduceIte, Nat.reduceAdd, reduceCtorEq, Int.reduceLT, Int.reduceLE, Int.reduceSub, Nat.reduceEqDiff, Nat.reduceLT] at h); try exact nz h))
        all_goals (try exact cz)
        all_goals (try ((with_reducible show (_ : Nat) ≤ (_ : Nat)); (show _ * 16 ≤ _); omega))
        refine ⟨_, rfl, ?_⟩
        rw [show signI ((Utf8.decode ⟨⟨s⟩⟩ pos).1 : Nat) = false from hsg]
        repeat' (first | (refine And.intro ?_ ?_) | (intro h; (try first | replace h := of_decide_eq_true h | replace h := of_decide_eq_false h); (try simp only [sg, hx1] at h); (try simp only [sx, ↓reduceIte, Nat.reduceAdd, reduceCtorEq, Int.reduceLT, Int.reduceLE, Int.reduceSub, Nat.reduceEqDiff, Nat.reduceLT] at h); try exact nz h))
        all_goals (try exact cz)
        all_goals (try ((with_reducible show (_ : Nat) ≤ (_ : Nat)); (show _ * 16 ≤ _); omega))
        refine ⟨_, rfl, ?_⟩
        rw [show signI ((Utf8.decode ⟨⟨s⟩⟩ pos).1 : Nat) = false from hsg]
        repeat' (first | (refine And.intro ?_ ?_) | (intro h; (try first | replace h := of_decide_eq_true h | replace h := of_decide_eq_false h); (try simp only [sg, hx1] at h); (try simp only [sx, ↓reduceIte, Nat.reduceAdd, reduceCtorEq, Int.reduceLT, Int.reduceLE, Int.reduceSub, Nat.reduceEqDiff, Nat.reduceLT] at h); try exact nz h))
        all_goals (try exact cz)
        all_goals (try ((with_reducible show (_ : Nat) ≤ (_ : Nat)); (show _ * 16 ≤ _); omega))
        all_goals exact ⟨_, reb_flat [2, 3] rfl, _, rfl, hPn hnone, rfl⟩
end Go.Proofs.Ytjffmehcbaechaa
