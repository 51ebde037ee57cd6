/-
  The document's walk over a shape goes as the program's. Plain.
-/
import Derived.Test.YtjffmehcbaechaaSchLeavesP
set_option linter.unusedVariables false
set_option linter.unusedSimpArgs false
namespace Go.Proofs.Ytjffmehcbaechaa
open Go Go.Av
/-- The document's: it gives up a group where none is left, and opens none that is to have none. -/
def popR : Stk → Stk
  | [] => []
  | (a, k) :: t => if k = 0 then popR t else (a, k) :: t
def pushR (i : Nat) (f : Fd) (st : Stk) : Stk := if f.kind = 0 ∧ 0 < f.kids then ((i : Int), f.kids) :: st else st
def rrun : List Fd → Nat → Stk → List (Int × Int)
  | [], _, _ => []
  | f :: fs, i, st => (parOf (popR st), ((popR st).length : Int)) :: rrun fs (i + 1) (pushR i f (decS (popR st)))
def NonNeg (st : Stk) : Prop := ∀ p ∈ st, 0 ≤ p.2
theorem popR_popZ : ∀ {st : Stk}, NonNeg st → popR st = popZ st
  | [], _ => rfl
  | (a, k) :: t, h => by
    have hk : 0 ≤ k := h (a, k) (List.mem_cons_self ..)
    rw [popR, popZ]
    by_cases h0 : k = 0
    · rw [if_pos h0, if_pos (by omega)]; exact popR_popZ fun p hp => h p (List.mem_cons_of_mem _ hp)
    · rw [if_neg h0, if_neg (by omega)]
theorem popR_mem {st : Stk} {p : Int × Int} (h : p ∈ popR st) : p ∈ st := by
  induction st with
  | nil => simp [popR] at h
  | cons q t ih =>
    obtain ⟨a, k⟩ := q
    rw [popR] at h
    split at h
    · exact List.mem_cons_of_mem _ (ih h)
    · exact h
theorem popR_head {st : Stk} {a k : Int} {t : Stk} (hn : NonNeg st) (h : popR st = (a, k) :: t) : 0 < k := by
  induction st with
  | nil => simp [popR] at h
  | cons q s ih =>
    obtain ⟨b, l⟩ := q
    rw [popR] at h
    split at h
    · exact ih (fun p hp => hn p (List.mem_cons_of_mem _ hp)) h
    · cases h
      have := hn (a, k) (List.mem_cons_self ..)
      simp only at this; omega
theorem popZ_popZ : ∀ st : Stk, popZ (popZ st) = popZ st
  | [] => rfl
  | (a, k) :: t => by
    rw [popZ]
    split
    · exact popZ_popZ t
    · rename_i h; rw [popZ, if_neg h]
theorem pushR_ok {st : Stk} (h : NonNeg st) (i : Nat) (f : Fd) : NonNeg (pushR i f (decS (popR st))) := by
  have hd : NonNeg (decS (popR st)) := by
    intro p hp
    cases hq : popR st with
    | nil => rw [hq] at hp; simp [decS] at hp
    | cons q t =>
      obtain ⟨a, k⟩ := q
      rw [hq] at hp
      have hk := popR_head h hq
      simp only [decS, List.mem_cons] at hp
      rcases hp with rfl | hp
      · simp only; omega
      · exact h p (popR_mem (by rw [hq]; exact List.mem_cons_of_mem _ hp))
  unfold pushR
  split
  · rename_i hc
    intro p hp
    rcases List.mem_cons.1 hp with rfl | hp
    · simp only; omega
    · exact hd p hp
  · exact hd
theorem rrun_wrun : ∀ (fs : List Fd) (i : Nat) (st rt : Stk), NonNeg rt → popR rt = popZ st → rrun fs i rt = wrun fs i st
  | [], _, _, _, _, _ => rfl
  | f :: fs, i, st, rt, hn, he => by
    rw [rrun, wrun, he]
    congr 1
    refine rrun_wrun fs (i + 1) _ _ ?_ ?_
    · rw [← he]; exact pushR_ok hn i f
    · rw [popR_popZ (by rw [← he]; exact pushR_ok hn i f)]
      unfold pushR pushS
      by_cases h0 : f.kind = 0
      · by_cases h1 : 0 < f.kids
        · rw [if_pos ⟨h0, h1⟩, if_pos h0]
        · rw [if_neg (fun h => h1 h.2), if_pos h0]
          show _ = popZ (((i : Int), f.kids) :: decS (popZ st))
          rw [popZ, if_pos (by omega)]
      · rw [if_neg (fun h => h0 h.1), if_neg h0]
def depthsF (fs : List Fd) : List Int := (wrun fs 0 []).map (·.2)
theorem rrun_eq (fs : List Fd) : rrun fs 0 [] = wrun fs 0 [] := rrun_wrun fs 0 [] [] (fun p hp => by cases hp) rfl
theorem depths_length (fs : List Fd) : (depthsF fs).length = fs.length := by simp [depthsF, wrun_length]
end Go.Proofs.Ytjffmehcbaechaa
