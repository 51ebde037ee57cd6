/-
  'Path': a field's names, from the way's beginning; the parents' places lie ahead.
-/
import Derived.Test.YtjffmehcbaechaaSchParents
set_option linter.unusedVariables false
set_option linter.unusedSimpArgs false
namespace Go.Proofs.Ytjffmehcbaechaa
open Go Go.Av
set_option maxRecDepth 100000
set_option maxHeartbeats 4000000

/-! ### Plain -/
theorem popZ_mem {st : Stk} {p : Int × Int} (h : p ∈ popZ st) : p ∈ st := by
  induction st with
  | nil => simp [popZ] at h
  | cons q t ih =>
    obtain ⟨a, k⟩ := q
    rw [popZ] at h
    split at h
    · exact List.mem_cons_of_mem _ (ih h)
    · exact h
theorem wrun_lt : ∀ (fs : List Fd) (i : Nat) (st : Stk), (∀ p ∈ st, 0 ≤ p.1 ∧ p.1 < i) → ∀ j, j < fs.length → -1 ≤ ((wrun fs i st).map (·.1)).getD j 0 ∧ ((wrun fs i st).map (·.1)).getD j 0 < i + j
  | [], _, _, _, j, h => by simp at h
  | f :: fs, i, st, hst, j, h => by
    cases j with
    | zero =>
      show -1 ≤ parOf (popZ st) ∧ parOf (popZ st) < _
      cases hp : popZ st with
      | nil => simp only [parOf]; omega
      | cons q t =>
        have := hst q (popZ_mem (by rw [hp]; exact List.mem_cons_self ..))
        simp only [parOf]; omega
    | succ j =>
      have := wrun_lt fs (i + 1) (pushS i f (decS (popZ st))) (fun p hp => ?_) j (by simpa using h)
      · simp only [wrun, List.map_cons, List.getD_cons_succ]
        omega
      · have hd : p ∈ decS (popZ st) → 0 ≤ p.1 ∧ p.1 < ((i + 1 : Nat) : Int) := by
          intro hp
          cases hq : popZ st with
          | nil => rw [hq] at hp; simp [decS] at hp
          | cons q t =>
            rw [hq] at hp
            have hall : ∀ r ∈ q :: t, 0 ≤ r.1 ∧ r.1 < (i : Int) := fun r hr => hst r (popZ_mem (by rw [hq]; exact hr))
            simp only [decS, List.mem_cons] at hp
            rcases hp with rfl | hp
            · have := hall q (List.mem_cons_self ..); exact ⟨this.1, by have := this.2; show q.1 < _; omega⟩
            · have := hall p (List.mem_cons_of_mem _ hp); exact ⟨this.1, by omega⟩
        unfold pushS at hp
        split at hp
        · rcases List.mem_cons.1 hp with rfl | hp
          · exact ⟨by show (0 : Int) ≤ (i : Int); omega, by show (i : Int) < _; omega⟩
          · exact hd hp
        · exact hd hp
theorem parents_length (fs : List Fd) : (parentsF fs).length = fs.length := by simp [parentsF, wrun_length]
theorem parents_lt (fs : List Fd) (j : Nat) (h : j < fs.length) : -1 ≤ (parentsF fs).getD j 0 ∧ (parentsF fs).getD j 0 < j := by
  have := wrun_lt fs 0 [] (by simp) j h
  simp only [parentsF]
  omega
/-- Up, from a place on. -/
def upK (fs : List Fd) (ps : List Int) : Nat → Int → List UInt8 → List UInt8
  | 0, _, out => out
  | n + 1, k, out => if 0 < k then upK fs ps n (ps.getD k.toNat 0) ((fs.getD k.toNat default).name ++ [46] ++ out) else out
theorem upK_end {fs : List Fd} {ps : List Int} {m : Nat} {k : Int} {out : List UInt8} (h : k ≤ 0) : upK fs ps m k out = out := by
  cases m with
  | zero => rfl
  | succ m => rw [upK, if_neg (by omega)]
def pathF (fs : List Fd) (ps : List Int) (field : Int) : List UInt8 :=
  if field ≤ 0 ∨ fs.length ≤ field then [] else upK fs ps fs.length (ps.getD field.toNat 0) (fs.getD field.toNat default).name

/-! ### What is asked of a shape -/
structure FsOk (fs : List Fd) : Prop where
  len : fs.length < 1000
  kids : ∀ i, (fs.getD i default).kids ≤ 9223372036854775807
  name : ∀ i, (fs.getD i default).name.length ≤ 1000
def S_par : SpecI := fun args K => ∃ fs, args = [vF fs] ∧ FsOk fs ∧ K (vI (parentsF fs))
theorem par_ok [Syms] : ImmOk Try.prog 43 S_par := by
  rintro args K ⟨fs, rfl, h, hk⟩
  exact ⟨rfl, _, rfl, hk, fnI tys_ok fns_ok noneT_det (pickT_ok (bodyT_ok tys_ok fns_ok noneT_det (pickT_ok (bodyT_ok tys_ok fns_ok noneT_det noneT_ok mixed) noneT_ok) mixed) (pickT_ok (bodyT_ok tys_ok fns_ok noneT_det noneT_ok mixed) noneT_ok)) mixed (parents_t fs h.len h.kids)⟩
abbrev cPar : CallT := pickT 43 (immT S_par) noneT
theorem cPar_ok [Syms] : cPar.ok Try.prog := pickT_imm_ok par_ok noneT_ok
end Go.Proofs.Ytjffmehcbaechaa
