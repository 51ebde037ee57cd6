/-
  'name': is a text a name? The program's; a field's check.
-/
import Derived.Test.YtjffmehcbaechaaSchCheckP
import Derived.Test.YtjffmehcbaechaaSchFacts
import Derived.Laws.RangeAny
set_option linter.unusedVariables false
set_option linter.unusedSimpArgs false
namespace Go.Proofs.Ytjffmehcbaechaa
open Go Go.Av
set_option maxRecDepth 100000
set_option maxHeartbeats 4000000
def nmS (s : List UInt8) (k : Nat) : St := ⟨[(0, .str s), (14, .obj 0)], [(0, some (.iter s k))], 1⟩
theorem eqb_nil {s : List UInt8} (h : s ≠ []) : eqb s [] = false := by
  cases s with
  | nil => exact absurd rfl h
  | cons a l => rfl
theorem dec_low {s : List UInt8} {k : Nat} (hk : k < s.length) (ha : (s.getD k 0).toNat < 128) : Utf8.decode ⟨⟨s⟩⟩ k = ((s.getD k 0).toNat, 1) := by
  have e : s.getD k 0 = s[k] := by simp [hk]
  have := decode_ascii ⟨⟨s⟩⟩ k hk (by rw [e] at ha; exact ha)
  rw [this, e]; rfl
theorem dec_high {s : List UInt8} {k : Nat} (hk : k < s.length) (ha : 128 ≤ (s.getD k 0).toNat) : 128 ≤ (Utf8.decode ⟨⟨s⟩⟩ k).1 ∧ 1 ≤ (Utf8.decode ⟨⟨s⟩⟩ k).2 := by
  have e : s.getD k 0 = s[k] := by simp [hk]
  exact decode_high ⟨⟨s⟩⟩ k hk (by rw [e] at ha; exact ha)
/-- A name's sign at a place. -/
def okAt (s : List UInt8) (k : Nat) : Bool := signF (s.getD k 0) && (decide (0 < k) || letterF (s.getD k 0))
theorem nameF_of {s : List UInt8} (h0 : s ≠ []) (hl : ¬ 12 < s.length) : nameF s = true ↔ ∀ k, k < s.length → okAt s k = true := by
  have hp : 0 < s.length := List.length_pos_iff.2 h0
  have e0 : s.headD 0 = s.getD 0 0 := by cases s with | nil => exact absurd rfl h0 | cons a l => rfl
  rw [nameF, decide_eq_true (show 1 ≤ s.length by omega), decide_eq_true (show s.length ≤ 12 by omega), Bool.true_and, Bool.true_and, Bool.and_eq_true, List.all_eq_true, e0]
  constructor
  · rintro ⟨h1, h2⟩ k hk
    have := h2 (s.getD k 0) (by rw [List.getD_eq_getElem?_getD, List.getElem?_eq_getElem hk]; exact List.getElem_mem hk)
    rw [okAt, this, Bool.true_and, Bool.or_eq_true]
    by_cases hk0 : 0 < k
    · exact .inl (decide_eq_true hk0)
    · obtain rfl : k = 0 := by omega
      exact .inr h1
  · intro h
    refine ⟨?_, fun c hc => ?_⟩
    · have := h 0 hp
      rw [okAt, Bool.and_eq_true, Bool.or_eq_true] at this
      rcases this.2 with h | h
      · exact absurd (of_decide_eq_true h) (by omega)
      · exact h
    · obtain ⟨k, hk, rfl⟩ := List.getElem_of_mem hc
      have := h k hk
      rw [okAt, Bool.and_eq_true] at this
      have e : s.getD k 0 = s[k] := by simp [hk]
      rw [e] at this
      exact this.1
theorem okAt_num (s : List UInt8) (k : Nat) : okAt s k = true ↔ (97 ≤ (s.getD k 0).toNat ∧ (s.getD k 0).toNat ≤ 122) ∨ (0 < k ∧ ((48 ≤ (s.getD k 0).toNat ∧ (s.getD k 0).toNat ≤ 57) ∨ (s.getD k 0).toNat = 95)) := by
  simp only [okAt, signF, letterF, Bool.and_eq_true, Bool.or_eq_true, decide_eq_true_eq]
  omega
theorem nameF_no {s : List UInt8} {k : Nat} (h0 : s ≠ []) (hl : ¬ 12 < s.length) (hk : k < s.length) (h : ¬ ((97 ≤ (s.getD k 0).toNat ∧ (s.getD k 0).toNat ≤ 122) ∨ (0 < k ∧ ((48 ≤ (s.getD k 0).toNat ∧ (s.getD k 0).toNat ≤ 57) ∨ (s.getD k 0).toNat = 95)))) : nameF s = false := by
  refine Bool.eq_false_iff.2 fun hn => h ?_
  exact (okAt_num s k).1 ((nameF_of h0 hl).1 hn k hk)
theorem name_t [Syms] (s : List UInt8) (hs : s.length ≤ 1000) :
    fnT noneT noneT (fnTab fns) (tyTab tys) (plTab plt) 100 59 [.str s] [] 0 (fun v H _ => v = .bool (nameF s) ∧ H = []) := by
  by_cases h0 : s = []
  · subst h0
    refine And.intro (fun _ => ?_) (fun h => absurd (show true = false from h) (by decide))
    refine And.intro (fun _ => ?_) (fun h => absurd (show true = false from h) (by decide))
    exact ⟨_, reb_flat [2] rfl, _, rfl, rfl, rfl⟩
  have hl0 : 0 < s.length := List.length_pos_iff.2 h0
  have hx1 := eqb_nil h0
  by_cases hl : 12 < s.length
  · have hn : nameF s = false := by rw [nameF, decide_eq_false (show ¬ s.length ≤ 12 by omega)]; simp
    rw [hn]
    repeat' (first | (refine And.intro ?_ ?_) | (intro h; (try first | replace h := of_decide_eq_true h | replace h := of_decide_eq_false h); (try simp only [sg, hx1] at h); (try simp only [sx, ↓reduceIte, Nat.reduceAdd, reduceCtorEq, Int.reduceLT, Int.reduceLE, Int.reduceSub, Nat.reduceEqDiff, Nat.reduceLT] at h); try exact nz h))
    all_goals (try exact cz)
    exact ⟨_, reb_flat [2] rfl, _, rfl, rfl, rfl⟩
  · repeat' (first | (refine And.intro ?_ ?_) | (intro h; (try first | replace h := of_decide_eq_true h | replace h := of_decide_eq_false h); (try simp only [sg, hx1] at h); (try simp only [sx, ↓reduceIte, Nat.reduceAdd, reduceCtorEq, Int.reduceLT, Int.reduceLE, Int.reduceSub, Nat.reduceEqDiff, Nat.reduceLT] at h); try exact nz h))
    all_goals (try exact cz)
    refine ⟨fun m st => ∃ k : Nat, (k ≤ s.length ∧ m = s.length - k ∧ ∀ j, j < k → okAt s j = true) ∧ st = nmS s k, ⟨_, nmS s 0, reb_num [0] rfl ⟨.refl _, .refl _, trivial⟩ ⟨⟨by decide, _, rfl, .refl _⟩, trivial⟩, 0, ⟨by omega, rfl, fun j h => by omega⟩, rfl⟩, ?_⟩
    rintro m st ⟨k, ⟨hk, rfl, hj⟩, rfl⟩
    by_cases hin : k < s.length
    · have hnext : okAt s k = true → ∀ j, j < k + 1 → okAt s j = true := fun h j hlt => by
        rcases Nat.lt_or_ge j k with h' | h'
        · exact hj j h'
        · obtain rfl : j = k := by omega
          exact h
      have hok := okAt_num s k
      have hno := nameF_no (k := k) h0 hl hin
      by_cases hb : (s.getD k 0).toNat < 128
      · have hd := dec_low hin hb
        generalize (s.getD k 0).toNat = c at *
        by_cases hc : (97 ≤ c ∧ c ≤ 122) ∨ (0 < k ∧ ((48 ≤ c ∧ c ≤ 57) ∨ c = 95))
        · have hnx := hnext (hok.2 hc)
          have hx1 := congrArg Prod.fst hd
          have hx2 := congrArg Prod.snd hd
          simp only at hx1 hx2
          rcases hc with hc | ⟨hc1, hc2 | hc2⟩
          all_goals
            repeat' (first | (refine And.intro ?_ ?_) | (intro h; (try first | replace h := of_decide_eq_true h | replace h := of_decide_eq_false h); (try simp only [sg] at h); (try simp only [sx, ↓reduceIte, Nat.reduceAdd, reduceCtorEq, Int.reduceLT, Int.reduceLE, Int.reduceSub, Nat.reduceEqDiff, Nat.reduceLT] at h); try exact nz h))
            all_goals (try exact cz)
            exact ⟨_, nmS s (k + 1), reb_num [0] rfl ⟨.refl _, .refl _, trivial⟩ ⟨⟨by decide, _, rfl, by rw [hx2]; exact .refl _⟩, trivial⟩, ⟨k + 1, ⟨by omega, rfl, hnx⟩, rfl⟩, by omega⟩
        · have hnn := hno hc
          have hx1 := congrArg Prod.fst hd
          have hx2 := congrArg Prod.snd hd
          simp only at hx1 hx2
          rw [hnn]
          repeat' (first | (refine And.intro ?_ ?_) | (intro h; (try first | replace h := of_decide_eq_true h | replace h := of_decide_eq_false h); (try simp only [sg] at h); (try simp only [sx, ↓reduceIte, Nat.reduceAdd, reduceCtorEq, Int.reduceLT, Int.reduceLE, Int.reduceSub, Nat.reduceEqDiff, Nat.reduceLT] at h); try exact nz h))
          all_goals (try exact cz)
          all_goals exact ⟨_, reb_flat [2] rfl, _, rfl, rfl, rfl⟩
      · have hd := dec_high hin (by omega)
        have hnn := hno (by omega)
        rw [hnn]
        repeat' (first | (refine And.intro ?_ ?_) | (intro h; (try first | replace h := of_decide_eq_true h | replace h := of_decide_eq_false h); (try simp only [sg] at h); (try simp only [sx, ↓reduceIte, Nat.reduceAdd, reduceCtorEq, Int.reduceLT, Int.reduceLE, Int.reduceSub, Nat.reduceEqDiff, Nat.reduceLT] at h); try exact nz h))
        all_goals (try exact cz)
        all_goals exact ⟨_, reb_flat [2] rfl, _, rfl, rfl, rfl⟩
    · have hn : nameF s = true := (nameF_of h0 hl).2 fun j hjl => hj j (by omega)
      rw [hn]
      repeat' (first | (refine And.intro ?_ ?_) | (intro h; (try first | replace h := of_decide_eq_true h | replace h := of_decide_eq_false h); (try simp only [sg, hx1] at h); (try simp only [sx, ↓reduceIte, Nat.reduceAdd, reduceCtorEq, Int.reduceLT, Int.reduceLE, Int.reduceSub, Nat.reduceEqDiff, Nat.reduceLT] at h); try exact nz h))
      all_goals (try exact cz)
      exact ⟨_, reb_flat [2] rfl, _, rfl, rfl, rfl⟩
end Go.Proofs.Ytjffmehcbaechaa
