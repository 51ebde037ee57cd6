/-
  Shapes as text: words, and what they say. Plain.
-/
import Derived.Test.YtjffmehcbaechaaSchCheckEq
set_option linter.unusedVariables false
set_option linter.unusedSimpArgs false
namespace Go.Proofs.Ytjffmehcbaechaa
open Go Go.Av
abbrev Wd := List UInt8
def markF (c : UInt8) : Bool := decide (c.toNat = 123) || decide (c.toNat = 125) || decide (c.toNat = 59)
def blankF (c : UInt8) : Bool := decide (c.toNat = 32) || decide (c.toNat = 9) || decide (c.toNat = 10)
def flushW (cur : Wd) (acc : List Wd) : List Wd := if cur = [] then acc else acc ++ [cur]
/-- A text's words; none: a sign that is none. -/
def wgo : List UInt8 → Wd → List Wd → Option (List Wd)
  | [], cur, acc => some (flushW cur acc)
  | c :: r, cur, acc => if signF c = true then wgo r (cur ++ [c]) acc else if markF c = true then wgo r [] (flushW cur acc ++ [[c]]) else if blankF c = true then wgo r [] (flushW cur acc) else none
def wordsF (s : List UInt8) : Option (List Wd) := wgo s [] []
/-- A word: signs of names alone, or a mark. -/
def wordOk (w : Wd) : Prop := w ≠ [] ∧ ((∀ c ∈ w, signF c = true) ∨ ∃ c, w = [c] ∧ markF c = true)
theorem flushW_ok {cur : Wd} {acc : List Wd} (hc : ∀ c ∈ cur, signF c = true) (ha : ∀ w ∈ acc, wordOk w) : ∀ w ∈ flushW cur acc, wordOk w := by
  unfold flushW
  split
  · exact ha
  · rename_i h
    intro w hw
    rcases List.mem_append.1 hw with hw | hw
    · exact ha w hw
    · simp at hw; subst hw; exact ⟨h, .inl hc⟩
theorem wgo_ok : ∀ (s : List UInt8) (cur : Wd) (acc l : List Wd), (∀ c ∈ cur, signF c = true) → (∀ w ∈ acc, wordOk w) → wgo s cur acc = some l → ∀ w ∈ l, wordOk w
  | [], cur, acc, l, hc, ha, h => by
    rw [wgo] at h
    cases h
    exact flushW_ok hc ha
  | c :: r, cur, acc, l, hc, ha, h => by
    rw [wgo] at h
    split at h
    · rename_i hs
      refine wgo_ok r _ acc l (fun x hx => ?_) ha h
      rcases List.mem_append.1 hx with hx | hx
      · exact hc x hx
      · simp at hx; subst hx; exact hs
    · split at h
      · rename_i hm
        refine wgo_ok r [] _ l (fun x hx => nomatch hx) (fun w hw => ?_) h
        rcases List.mem_append.1 hw with hw | hw
        · exact flushW_ok hc ha w hw
        · simp at hw; subst hw; exact ⟨by simp, .inr ⟨c, rfl, hm⟩⟩
      · split at h
        · exact wgo_ok r [] _ l (fun x hx => nomatch hx) (flushW_ok hc ha) h
        · cases h
theorem words_ok {s : List UInt8} {l : List Wd} (h : wordsF s = some l) : ∀ w ∈ l, wordOk w := wgo_ok s [] [] l (fun x hx => nomatch hx) (fun x hx => nomatch hx) h
/-- The words' lengths are the text's at most. -/
def sumL (l : List Wd) : Nat := (l.map List.length).sum
theorem sumL_app (a b : List Wd) : sumL (a ++ b) = sumL a + sumL b := by simp [sumL]
theorem flushW_len (cur : Wd) (acc : List Wd) : sumL (flushW cur acc) = sumL acc + cur.length := by
  unfold flushW
  split
  · rename_i h; rw [h]; rfl
  · rw [sumL_app]; simp [sumL]
theorem wgo_len : ∀ (s : List UInt8) (cur : Wd) (acc l : List Wd), wgo s cur acc = some l → sumL l ≤ sumL acc + cur.length + s.length
  | [], cur, acc, l, h => by
    rw [wgo] at h
    cases h
    rw [flushW_len]; simp
  | c :: r, cur, acc, l, h => by
    rw [wgo] at h
    split at h
    · have := wgo_len r _ acc l h
      simp at this ⊢; omega
    · split at h
      · have := wgo_len r [] _ l h
        rw [sumL_app, flushW_len] at this
        simp [sumL] at this ⊢; omega
      · split at h
        · have := wgo_len r [] _ l h
          rw [flushW_len] at this
          simp at this ⊢; omega
        · cases h
theorem words_len {s : List UInt8} {l : List Wd} (h : wordsF s = some l) : sumL l ≤ s.length := by
  have := wgo_len s [] [] l h
  simp [sumL] at this ⊢; exact this
theorem sumL_mem {l : List Wd} {w : Wd} (h : w ∈ l) : w.length ≤ sumL l := by
  induction l with
  | nil => cases h
  | cons a t ih =>
    have e : sumL (a :: t) = a.length + sumL t := by simp [sumL]
    rcases List.mem_cons.1 h with rfl | h
    · omega
    · have := ih h; omega
theorem sumL_count {l : List Wd} (h : ∀ w ∈ l, w ≠ []) : l.length ≤ sumL l := by
  induction l with
  | nil => exact Nat.zero_le _
  | cons a t ih =>
    have e : sumL (a :: t) = a.length + sumL t := by simp [sumL]
    have h1 := ih fun w hw => h w (List.mem_cons_of_mem _ hw)
    have h2 := List.length_pos_iff.2 (h a (List.mem_cons_self ..))
    simp; omega

/-! ### Reading -/
def str8 (s : String) : Wd := s.toUTF8.data.toList
def kwReps : List Wd := [[114, 101, 113, 117, 105, 114, 101, 100], [111, 112, 116, 105, 111, 110, 97, 108], [114, 101, 112, 101, 97, 116, 101, 100]]
def kwKinds : List Wd := [[103, 114, 111, 117, 112], [98, 111, 111, 108], [105, 110, 116, 51, 50], [105, 110, 116, 54, 52], [98, 121, 116, 101, 115]]
def kwMsg : Wd := [109, 101, 115, 115, 97, 103, 101]
def nameT (w : Wd) : Bool := match w with
  | [] => false
  | c :: _ => letterF c && decide (w.length ≤ 12)
theorem nameT_eq {w : Wd} (h : wordOk w) : nameT w = nameF w := by
  cases w with
  | nil => exact absurd rfl h.1
  | cons c t =>
    show (letterF c && decide ((c :: t).length ≤ 12)) = (decide (1 ≤ (c :: t).length) && decide ((c :: t).length ≤ 12) && letterF c && (c :: t).all signF)
    rw [decide_eq_true (show 1 ≤ (c :: t).length by simp)]
    rcases h.2 with h | ⟨d, hd, hm⟩
    · rw [List.all_eq_true.2 h]
      cases letterF c <;> cases decide ((c :: t).length ≤ 12) <;> rfl
    · cases hd
      have : letterF c = false := by
        cases hl : letterF c with
        | false => rfl
        | true =>
          simp only [letterF, markF, Bool.and_eq_true, Bool.or_eq_true, decide_eq_true_eq] at hl hm
          omega
      rw [this]; simp
structure PS where
  ws : List Wd
  fs : List Fd
  e : Int
  deriving Inhabited
def failP (σ : PS) (x : Int) : PS := if σ.e = 0 then { σ with e := x } else σ
def nextW (σ : PS) : Wd := if σ.e ≠ 0 then [] else σ.ws.headD []
def nextP (σ : PS) : PS := if σ.e ≠ 0 then σ else { σ with ws := σ.ws.tail }
def mustP (w : Wd) (σ : PS) : PS := if nextW σ = w then nextP σ else failP (nextP σ) 6
def idxW (l : List Wd) (w : Wd) : Int := match l.findIdx? (fun x => x == w) with | some i => i | none => -1
def pickV (l : List Wd) (σ : PS) : Int := if idxW l (nextW σ) < 0 then 0 else idxW l (nextW σ)
def pickP (l : List Wd) (σ : PS) : PS := if idxW l (nextW σ) < 0 then failP (nextP σ) 6 else nextP σ
def headP (depth : Int) (σ : PS) : PS :=
  let σ1 := if nameT (nextW σ) = true then nextP σ else failP (nextP σ) 6
  let σ2 := if 40 ≤ σ1.fs.length then failP σ1 4 else σ1
  if 8 < depth then failP σ2 11 else σ2
def moreP (g : Int → Int → PS → PS) (at' : Nat) : Nat → PS → PS
  | 0, σ => σ
  | m + 1, σ =>
    let σ1 := pickP kwReps σ
    let σ2 := pickP kwKinds σ1
    let σ3 := g (pickV kwReps σ) (pickV kwKinds σ1) σ2
    if σ3.e ≠ 0 then σ3
    else
      let σ4 : PS := { σ3 with fs := σ3.fs.set at' { σ3.fs.getD at' default with kids := (σ3.fs.getD at' default).kids + 1 } }
      if σ4.ws ≠ [] ∧ σ4.ws.headD [] ≠ [125] then moreP g at' m σ4 else mustP [125] σ4
def fieldP : Nat → Int → Int → Int → PS → PS
  | 0, _, _, _, σ => σ
  | n + 1, rep, kind, depth, σ =>
    let σ1 := headP depth σ
    if σ1.e ≠ 0 then σ1
    else
      let σ2 : PS := { σ1 with fs := σ1.fs ++ [⟨nextW σ, rep, kind, 0⟩] }
      if kind ≠ 0 then mustP [59] σ2
      else moreP (fun r k => fieldP n r k (depth + 1)) σ1.fs.length (σ2.ws.length + 1) (mustP [123] σ2)
/-- A text's shape, and what is wrong with it. -/
def parseF (s : List UInt8) : List Fd × Int :=
  if 4000 < s.length then ([], 5)
  else match wordsF s with
    | none => ([], 6)
    | some l =>
      let σ := fieldP 10 0 0 0 (mustP kwMsg ⟨l, [], 0⟩)
      let σ1 := if σ.ws ≠ [] then failP σ 6 else σ
      let e := if σ1.e = 0 then checkF σ1.fs else σ1.e
      if e ≠ 0 then ([], e) else (σ1.fs, 0)
end Go.Proofs.Ytjffmehcbaechaa
