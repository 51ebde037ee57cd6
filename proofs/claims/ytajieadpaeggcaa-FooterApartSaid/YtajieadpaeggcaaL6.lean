/-
  A schema's bytes, read: the loop. The program's. Numbers behind bytes. The program's. What a file says of itself, as plain data; its bytes, and how they are read. Plain. The footer's reader: a number of so many bytes, a truth, a number, a value. The program's. The footer's reader: a page. The program's.
-/
import Derived.Test.YtajieadpaeggcaaL4
import Derived.Test.YtajieadpaeggcaaSxOne
import Derived.Test.YtajieadpaeggcaaL5
import Derived.Test.YtajieadpaeggcaaL3
set_option linter.unusedVariables false
set_option linter.unusedSimpArgs false
section
set_option linter.unusedVariables false
set_option linter.unusedSimpArgs false
namespace Go.Proofs.Ytajieadpaeggcaa
open Go Go.Av
set_option maxRecDepth 100000
set_option maxHeartbeats 4000000
abbrev cLp : CallT := pickT 81 (specT S_rfield) (pickT 80 (specT S_rnum) (pickT 82 (specT S_rfail) (pickT 83 (immT S_check) noneT)))
theorem cLp_ok [Syms] : cLp.ok Try.prog := pickT_spec rfield_ok (pickT_spec rnum_ok (pickT_spec rfail_ok (pickT_imm_ok schk_ok noneT_ok)))
noncomputable def plPs : Nat → Nat → Pl := plAdd [(56, 8)] (plTab plt)
theorem fin_ps [Syms] {N : Nat} {e : Env} {H : Heap} {nx : Nat} {x : Int} {p : List Fd × Int} {rs : List ResultVar} (h2 : (e.get 2).isZ 4 = true) (h3 : e.get 3 = .int .i64 x) (hp : p = ([], x))
 (hrs : resultsA (tyTab tys) ⟨[(2, vF []), (3, .int .i64 x)], [], 0⟩ rs = some (.tup [vF [], .int .i64 x])) :
 ∃ s3, Reb 0 N ⟨e, H, nx⟩ s3 ∧ ∃ v, resultsA (tyTab tys) s3 rs = some v ∧ v = .tup [vF p.1, .int .i64 p.2] ∧ s3.heap = [] := by
 subst hp
 refine ⟨⟨[(2, vF []), (3, .int .i64 x)], [], 0⟩, (reb_slot (k := 2) (y := vF []) fun ι v hv => .vt _ _ _ _ (RelV.isZ (sz := 4) h2 hv)).trans ?_, _, hrs, rfl, rfl⟩
 refine (reb_sub (e3 := [(2, vF []), (3, .int .i64 x)]) (H3 := []) (fun j => ?_) (fun n b h => by rw [Heap.get_nil] at h; cases h)).trans (reb_flat [2, 3] rfl)
 rw [Env.get_cons, Env.get_cons, Env.get_cons]
 by_cases h : j = 2
 ·subst h; exact .inr rfl
 ·rw [beq_ff h]
  by_cases h : j = 3
  ·subst h; exact .inr h3
  ·rw [beq_ff h]; exact .inl (Env.get_nil j)
theorem fin_pg [Syms] {N n : Nat} {e : Env} {H : Heap} {nx : Nat} {fs : List Fd} {rows : List (List AVal)} {len : Nat} {rs : List ResultVar} (h2 : e.get 2 = .slice n 0 len 4 none) (h3 : e.get 3 = .int .i64 0) (hb : H.get n = some (.cells rows false)) (hr : rows = fs.map encF) (hl : len = fs.length)
 (hrs : resultsA (tyTab tys) ⟨[(2, vF fs), (3, .int .i64 0)], [], 0⟩ rs = some (.tup [vF fs, .int .i64 0])) :
 ∃ s3, Reb 0 N ⟨e, H, nx⟩ s3 ∧ ∃ v, resultsA (tyTab tys) s3 rs = some v ∧ v = .tup [vF fs, .int .i64 0] ∧ s3.heap = [] := by
 subst hr hl
 refine ⟨⟨[(2, vF fs), (3, .int .i64 0)], [], 0⟩, (reb_own_keep (enc := encF) default (l := fs) [(3, .int .i64 0)] [] h2 hb (fF fs) (List.take_of_length_le (by simp)) (by simp) (by simpa using h3) (fun n b h => by rw [Heap.get_nil] at h; cases h)).trans (reb_flat [2, 3] rfl), _, hrs, rfl, rfl⟩
theorem prs_seal [Syms] {N : Nat} {e : Env} {H : Heap} {nx : Nat} {fs : List Fd} {r : BR} {b0 b : Bool} (h4 : e.get 4 = .ptr 0 0 0) (h6 : e.get 6 = .slice 1 0 fs.length 4 none) (h35 : e.get 35 = .bool b0) (hb0 : b0 = b) (H0 : H.get 0 = rdB r) (H1 : H.get 1 = some (.cells (fs.map encF) false)) (hn : NumsOk 0 nx [0] = true) :
 Reb 0 N ⟨e, H, nx⟩ ⟨[(4, .ptr 0 0 0), (6, vF fs), (35, .bool b)], [(0, rdB r)], 1⟩ := by
 subst hb0
 refine (reb_own_keep (enc := encF) default (l := fs) [(4, .ptr 0 0 0), (35, .bool b0)] [(0, rdB r)] h6 H1 (fF fs) (List.take_of_length_le (by simp)) (by simp) (by simp [h4, h35]) (fun n b h => ?_)).trans (reb_num [0] hn ⟨.refl _, .refl _, .refl _, trivial⟩ ⟨⟨by decide, _, rfl, .refl _⟩, trivial⟩)
 rw [Heap.get_cons] at h
 by_cases hz : n = 0
 ·subst hz; rw [Heap.get_set_ne _ _ (by decide)]; rw [H0]; exact h
 ·rw [beq_ff hz] at h; rw [show (bif false then rdB r else Heap.get [] n) = none from Heap.get_nil n] at h; cases h
theorem prs_seal0 [Syms] {N : Nat} {e : Env} {H : Heap} {nx : Nat} {r : BR} {b0 b : Bool} (h4 : e.get 4 = .ptr 0 0 0) (h6 : e.get 6 = .nils) (h35 : e.get 35 = .bool b0) (hb0 : b0 = b) (H0 : H.get 0 = rdB r) (hn : NumsOk 0 nx [0] = true) :
 Reb 0 N ⟨e, H, nx⟩ ⟨[(4, .ptr 0 0 0), (6, vF []), (35, .bool b)], [(0, rdB r)], 1⟩ := by
 subst hb0
 refine (reb_slot (k := 6) (y := vF []) fun ι v hv => .vt _ _ _ _ (RelV.isZ (sz := 4) (by rw [h6]; rfl) hv)).trans (reb_num [0] hn ⟨?_, .refl _, ?_, trivial⟩ ⟨⟨by decide, _, H0, .refl _⟩, trivial⟩)
 ·rw [Env.get_cons, beq_ff (by decide)]; show WkV (e.get 4) _; rw [h4]; exact .refl _
 ·rw [Env.get_cons, beq_ff (by decide)]; show WkV (e.get 35) _; rw [h35]; exact .refl _
/-- What is answered, of the fields read and the reader. -/
def finPr (fs : List Fd) (r : BR) : List Fd × Int :=
 let r' := if (endR (fs, r)).e = 0 then failR (endR (fs, r)) (checkF fs) else endR (fs, r)
 if r'.e ≠ 0 then ([], r'.e) else (fs, 0)
theorem finPr_bad {fs : List Fd} {r : BR} (h : r.e ≠ 0) : finPr fs r = ([], r.e) := by
 have hf : failR r 9 = r := if_neg h
 have he : endR (fs, r) = r := by
  unfold endR
  show (if r.b ≠ [] then failR r 9 else r) = r
  rw [hf]; split <;> rfl
 unfold finPr
 rw [he, if_neg h, if_pos h]
theorem finPr_more {fs : List Fd} {b : List UInt8} (h : b ≠ []) : finPr fs ⟨b, 0⟩ = ([], 9) := by
 unfold finPr endR
 simp only [if_pos h]
 rfl
theorem finPr_end {fs : List Fd} : finPr fs ⟨[], 0⟩ = if checkF fs ≠ 0 then ([], checkF fs) else (fs, 0) := rfl
def FdsOk (fs : List Fd) : Prop := ∀ f ∈ fs, (0 ≤ f.rep ∧ f.rep < 256) ∧ (0 ≤ f.kind ∧ f.kind < 256) ∧ (0 ≤ f.kids ∧ f.kids ≤ 40) ∧ f.name.length ≤ 12
theorem FdsOk.fs {fs : List Fd} (h : FdsOk fs) (hl : fs.length ≤ 40) : FsOk fs := by
 have key : ∀ i, fs.getD i default ∈ fs ∨ fs.getD i default = default := fun i => by
  rcases Nat.lt_or_ge i fs.length with h' | h'
  ·left; rw [List.getD_eq_getElem?_getD, List.getElem?_eq_getElem h']; exact List.getElem_mem h'
  ·right; rw [List.getD_eq_getElem?_getD, List.getElem?_eq_none h']; rfl
 refine ⟨by omega, fun i => ?_, fun i => ?_⟩
 ·rcases key i with k | k
  ·have := (h _ k).2.2.1; omega
  ·rw [k]; decide
 ·rcases key i with k | k
  ·have := (h _ k).2.2.2; omega
  ·rw [k]; decide
theorem fixR_lt (n : Nat) (r : BR) : (fixR n r).1 < 256 ^ n := by
 have h1 := leV_lt (takeR n r).1
 have h2 := takeR_le n r
 have h3 : 256 ^ (takeR n r).1.length ≤ 256 ^ n := Nat.pow_le_pow_right (by decide) h2
 show leV (takeR n r).1 < _
 omega
theorem fieldR_ok (r : BR) : ((0 ≤ (fieldR r).1.rep ∧ (fieldR r).1.rep < 256) ∧ (0 ≤ (fieldR r).1.kind ∧ (fieldR r).1.kind < 256) ∧ (0 ≤ (fieldR r).1.kids ∧ (fieldR r).1.kids ≤ 40) ∧ (fieldR r).1.name.length ≤ 12) := by
 have h1 := fixR_lt 1 r
 have h2 := fixR_lt 1 (fixR 1 r).2
 have h3 := numR_le (m := 40) (w := 14) (by decide) (fixR 1 (fixR 1 r).2).2
 have h4 := numR_le (m := 12) (w := 5) (by decide) (numR 40 14 (fixR 1 (fixR 1 r).2).2).2
 have h5 := takeR_le (numR 12 5 (numR 40 14 (fixR 1 (fixR 1 r).2).2).2).1 (numR 12 5 (numR 40 14 (fixR 1 (fixR 1 r).2).2).2).2
 refine ⟨⟨?_, ?_⟩, ⟨?_, ?_⟩, ⟨?_, ?_⟩, ?_⟩
 ·show (0 : Int) ≤ ((fixR 1 r).1 : Nat); omega
 ·show (((fixR 1 r).1 : Nat) : Int) < 256; omega
 ·show (0 : Int) ≤ ((fixR 1 (fixR 1 r).2).1 : Nat); omega
 ·show (((fixR 1 (fixR 1 r).2).1 : Nat) : Int) < 256; omega
 ·show (0 : Int) ≤ ((numR 40 14 (fixR 1 (fixR 1 r).2).2).1 : Nat); omega
 ·show (((numR 40 14 (fixR 1 (fixR 1 r).2).2).1 : Nat) : Int) ≤ 40; omega
 ·exact Nat.le_trans h5 h4
theorem FdsOk.snoc {fs : List Fd} (h : FdsOk fs) (r : BR) : FdsOk (fs ++ [(fieldR r).1]) := fun f hf => by
 rcases List.mem_append.1 hf with k | k
 ·exact h f k
 ·rw [List.mem_singleton.1 k]; exact fieldR_ok r
theorem prs_t [Syms] (b : List UInt8) (hl : b.length ≤ 1000000) (A : AVal) (hA : A = .tup [vF (parseSF b).1, .int .i64 (parseSF b).2]) :
 fnT noneT cLp (fnTab fns) (tyTab tys) plPs 100 56 [vB b] [] 0 (fun v H _ => v = A ∧ H = []) := by
 refine ⟨[0], [.ptr 0 0 0, .int .i64 ((40 : Nat) : Int), .int .i64 4], [(0, rdB ⟨b, 0⟩)], rfl, ⟨.refl _, .refl _, .refl _, trivial⟩, ⟨⟨by decide, _, rfl, .refl _⟩, trivial⟩, ⟨b, 0⟩, 40, 4, rfl, rfl, rfl, ⟨hl, by omega, by decide⟩, ?_⟩
 have l0 := numR_len 40 4 ⟨b, 0⟩
 have hn40 := numR_le (m := 40) (w := 4) (by decide) ⟨b, 0⟩
 replace hA : A = .tup [vF (finPr (fieldsR (numR 40 4 ⟨b, 0⟩).1 (numR 40 4 ⟨b, 0⟩).2 []).1 (fieldsR (numR 40 4 ⟨b, 0⟩).1 (numR 40 4 ⟨b, 0⟩).2 []).2).1, .int .i64 (finPr (fieldsR (numR 40 4 ⟨b, 0⟩).1 (numR 40 4 ⟨b, 0⟩).2 []).1 (fieldsR (numR 40 4 ⟨b, 0⟩).1 (numR 40 4 ⟨b, 0⟩).2 []).2).2] := hA
 generalize numR 40 4 ⟨b, 0⟩ = q at *
 obtain ⟨n, r0⟩ := q
 have l0 : r0.b.length ≤ b.length := l0
 have hn40 : n ≤ 40 := hn40
 repeat' (first | (refine And.intro ?_ ?_) | (intro h; try first | exact dz | replace h := cv))
 all_goals (try exact cz)
 refine ⟨fun m s => ∃ (i : Nat) (r : BR) (fs : List Fd), (i ≤ n ∧ m = n - i ∧ fs.length = i ∧ r.b.length ≤ b.length ∧ FdsOk fs ∧ fieldsR (n - i) r fs = fieldsR n r0 []) ∧ (s = prS r n i fs ∧ 0 < i ∨ s = prN r n ∧ i = 0), ⟨_, prN r0 n, reb_num [0] (by first | rfl | kernel_rfl) ⟨.refl _, .refl _, .refl _, .refl _, trivial⟩ ⟨⟨by decide, _, rfl, .refl _⟩, trivial⟩, 0, r0, [], ⟨by omega, rfl, rfl, l0, (fun f hf => nomatch hf), rfl⟩, .inr ⟨rfl, rfl⟩⟩, ?_⟩
 rintro m s ⟨i, r, fs, ⟨hi, rfl, hfl, hrl, hfo, hfr⟩, ⟨rfl, hi0⟩ | ⟨rfl, rfl⟩⟩
 ·by_cases h1 : i < n ∧ r.e = 0
  ·obtain ⟨h1, h2⟩ := h1
   repeat' (first | (refine And.intro ?_ ?_) | (intro h; try first | exact dz | replace h := cv))
   all_goals (try exact cz)
   refine ⟨[0], [.ptr 0 0 0], [(0, rdB r)], rfl, ⟨.refl _, trivial⟩, ⟨⟨by decide, _, rfl, .refl _⟩, trivial⟩, r, rfl, rfl, rfl, by omega, ?_⟩
   have hfs := fieldsR_step (n - (i + 1)) r fs h2
   have hfl2 := fieldR_len r
   have hfo2 := hfo.snoc r
   generalize fieldR r = q at *
   obtain ⟨f, r2⟩ := q
   have hlen : fs.length ≤ 1000000 := by omega
   have hst : n - i = n - (i + 1) + 1 := by omega
   have hfl2 : r2.b.length ≤ r.b.length := hfl2
   repeat' (first | (refine And.intro ?_ ?_) | (intro h; try first | exact dz | replace h := cv))
   all_goals (try exact cz)
   refine ⟨_, prS r2 n (i + 1) (fs ++ [f]), reb_num [0, 5] (by first | rfl | kernel_rfl) ⟨.refl _, .refl _, wk_slc (by simp), wk_int (by omega), trivial⟩ ⟨⟨by decide, _, rfl, .refl _⟩, ⟨by decide, _, rfl, wkB_eq ?_ (fF _)⟩, trivial⟩, ⟨i + 1, r2, fs ++ [f], ⟨by omega, rfl, by simp; omega, by omega, hfo2, ?_⟩, .inl ⟨rfl, by omega⟩⟩, by omega⟩
   ·show List.take fs.length (List.drop 0 (fs.map encF)) ++ [encF f] = _
    rw [List.drop_zero, List.take_of_length_le (by simp), List.map_append]; rfl
   ·rw [← hfr, hst, hfs]
  ·have hfe : fieldsR n r0 [] = (fs, r) := by
    rw [← hfr]
    by_cases h2 : r.e = 0
    ·have : n - i = 0 := by omega
     rw [this]; rfl
    ·exact fieldsR_stop _ _ _ h2
   rw [hfe] at hA
   replace hA : A = .tup [vF (finPr fs r).1, .int .i64 (finPr fs r).2] := hA
   have hfk := hfo.fs (by omega)
   clear hfr hfe
   by_cases hb : r.b = []
   ·repeat' (first | (refine And.intro ?_ ?_) | (intro h; try first | exact dz | replace h := cv))
    all_goals (try exact cz)
    all_goals (refine ⟨_, prs_seal (b := false) rfl rfl rfl (by rw [hb]; rfl) rfl rfl rfl, ?_⟩)
    all_goals (obtain ⟨b', e'⟩ := r; have hb : b' = [] := hb; subst hb)
    all_goals (
     by_cases he : e' = 0
     ·subst he

      rw [finPr_end] at hA
      repeat' (first | (refine And.intro ?_ ?_) | (intro h; try first | exact dz | replace h := cv))
      all_goals (try exact cz)
      refine ⟨_, rfl, hfk, ?_⟩
      repeat' (first | (refine And.intro ?_ ?_) | (intro h; try first | exact dz | replace h := cv))
      all_goals (try exact cz)
      refine ⟨[0], [.ptr 0 0 0, .int .i64 (checkF fs)], [(0, rdB ⟨[], 0⟩)], rfl, ⟨.refl _, .refl _, trivial⟩, ⟨⟨by decide, _, rfl, .refl _⟩, trivial⟩, ⟨[], 0⟩, checkF fs, rfl, rfl, rfl, ?_⟩
      rw [show failR ⟨[], 0⟩ (checkF fs) = ⟨[], checkF fs⟩ from rfl, show rdB ⟨[], checkF fs⟩ = some (.cells [[vB [], .int .i64 (checkF fs)]] false) from rfl]
      have hx1 := fun ρ => ren_e2 ρ [] (checkF fs)
      have hx2 := hx1
      have hx3 := hx1
      have hx4 := hx1
      by_cases hc : checkF fs = 0
      ·rw [if_neg (fun h => h hc)] at hA
       subst hA
       repeat' (first | (refine And.intro ?_ ?_) | (intro h; try first | exact dzi | replace h := cvi))
       all_goals (try exact cz)
       ·show allLen 4 (tabR fs.length fun i => encF (fs.getD i default)) = true
        rw [tabR_map encF default fs]; exact allLen_map (enc := encF) (z := 4) (fun _ => rfl) _
       ·have hz : fs = [] := List.eq_nil_of_length_eq_zero (by rw [tabR_length] at h; exact h)
        subst hz
        exact fin_ps (p := ([], 0)) rfl rfl rfl rfl
       ·show (tabR fs.length fun i => encF (fs.getD i default)).length * 40 ≤ _
        rw [tabR_length]; omega
       ·show (tabR fs.length fun i => encF (fs.getD i default)).length ≤ _
        rw [tabR_length]; omega
       ·exact fin_pg rfl rfl rfl (tabR_map encF default fs) (tabR_length _ _) rfl
      ·rw [if_pos hc] at hA
       subst hA
       repeat' (first | (refine And.intro ?_ ?_) | (intro h; try first | exact dzi | replace h := cvi))
       all_goals (try exact cz)
       exact fin_ps (p := ([], checkF fs)) rfl rfl rfl rfl
     ·rw [finPr_bad (show (BR.mk [] e').e ≠ 0 from he)] at hA
      subst hA
      repeat' (first | (refine And.intro ?_ ?_) | (intro h; try first | exact dz | replace h := cv))
      all_goals (try exact cz)
      exact fin_ps (p := ([], e')) rfl rfl rfl rfl)
   ·repeat' (first | (refine And.intro ?_ ?_) | (intro h; try first | exact dz | replace h := cv))
    all_goals (try exact cz)
    all_goals (refine ⟨_, prs_seal (b := true) rfl rfl rfl (decide_eq_true (by have := List.length_pos_iff.2 hb; omega)) rfl rfl rfl, ?_⟩)
    all_goals (obtain ⟨b', e'⟩ := r; have hb : b' ≠ [] := hb)
    all_goals (
     repeat' (first | (refine And.intro ?_ ?_) | (intro h; try first | exact dz | replace h := cv))
     all_goals (try exact cz)
     refine ⟨[0], [.ptr 0 0 0, .int .i64 9], [(0, rdB ⟨b', e'⟩)], rfl, ⟨.refl _, .refl _, trivial⟩, ⟨⟨by decide, _, rfl, .refl _⟩, trivial⟩, ⟨b', e'⟩, 9, rfl, rfl, rfl, ?_⟩
     by_cases he : e' = 0
     ·subst he
      rw [finPr_more hb] at hA
      subst hA
      rw [show failR ⟨b', 0⟩ 9 = ⟨b', 9⟩ from rfl, show rdB ⟨b', 9⟩ = some (.cells [[vB b', .int .i64 9]] false) from rfl]
      have hx1 := fun ρ => ren_e2 ρ b' 9
      have hx2 := hx1
      have hx3 := hx1
      have hx4 := hx1
      repeat' (first | (refine And.intro ?_ ?_) | (intro h; try first | exact dzi | replace h := cvi))
      all_goals (try exact cz)
      exact fin_ps (p := ([], 9)) rfl rfl rfl rfl
     ·rw [finPr_bad (show (BR.mk b' e').e ≠ 0 from he)] at hA
      subst hA
      rw [show failR ⟨b', e'⟩ 9 = ⟨b', e'⟩ from if_neg he, show rdB ⟨b', e'⟩ = some (.cells [[vB b', .int .i64 e']] false) from rfl]
      have hx1 := fun ρ => ren_e2 ρ b' e'
      have hx2 := hx1
      have hx3 := hx1
      have hx4 := hx1
      repeat' (first | (refine And.intro ?_ ?_) | (intro h; try first | exact dzi | replace h := cvi))
      all_goals (try exact cz)
      exact fin_ps (p := ([], e')) rfl rfl rfl rfl)
 ·have hfl0 : fs = [] := List.eq_nil_of_length_eq_zero hfl
  subst hfl0
  by_cases h1 : 0 < n ∧ r.e = 0
  ·obtain ⟨h1, h2⟩ := h1
   repeat' (first | (refine And.intro ?_ ?_) | (intro h; try first | exact dz | replace h := cv))
   all_goals (try exact cz)
   refine ⟨[0], [.ptr 0 0 0], [(0, rdB r)], rfl, ⟨.refl _, trivial⟩, ⟨⟨by decide, _, rfl, .refl _⟩, trivial⟩, r, rfl, rfl, rfl, by omega, ?_⟩
   have hfs := fieldsR_step (n - 1) r [] h2
   have hfl2 := fieldR_len r
   have hfo2 := hfo.snoc r
   generalize fieldR r = q at *
   obtain ⟨f, r2⟩ := q
   have hst : n - 0 = n - 1 + 1 := by omega
   have hfl2 : r2.b.length ≤ r.b.length := hfl2
   repeat' (first | (refine And.intro ?_ ?_) | (intro h; try first | exact dz | replace h := cv))
   all_goals (try exact cz)
   refine ⟨_, prS r2 n 1 [f], reb_num [0, 4] (by first | rfl | kernel_rfl) ⟨.refl _, .refl _, wk_slc rfl, wk_int (by rfl), trivial⟩ ⟨⟨by decide, _, rfl, .refl _⟩, ⟨by decide, _, rfl, wkB_eq ?_ (fF _)⟩, trivial⟩, ⟨1, r2, [f], ⟨by omega, rfl, rfl, by omega, hfo2, ?_⟩, .inl ⟨rfl, by omega⟩⟩, by omega⟩
   ·rfl
   ·rw [← hfr, hst, hfs]; rfl
  ·have hfe : fieldsR n r0 [] = ([], r) := by
    rw [← hfr]
    by_cases h2 : r.e = 0
    ·have : n - 0 = 0 := by omega
     rw [this]; rfl
    ·exact fieldsR_stop _ _ _ h2
   rw [hfe] at hA
   replace hA : A = .tup [vF (finPr [] r).1, .int .i64 (finPr [] r).2] := hA
   have hfk := hfo.fs (by omega)
   clear hfr hfe
   by_cases hb : r.b = []
   ·repeat' (first | (refine And.intro ?_ ?_) | (intro h; try first | exact dz | replace h := cv))
    all_goals (try exact cz)
    all_goals (refine ⟨_, prs_seal0 (b := false) rfl rfl rfl (by rw [hb]; rfl) rfl rfl, ?_⟩)
    all_goals (obtain ⟨b', e'⟩ := r; have hb : b' = [] := hb; subst hb)
    all_goals (
     by_cases he : e' = 0
     ·subst he

      rw [finPr_end] at hA
      repeat' (first | (refine And.intro ?_ ?_) | (intro h; try first | exact dz | replace h := cv))
      all_goals (try exact cz)
      refine ⟨_, rfl, hfk, ?_⟩
      repeat' (first | (refine And.intro ?_ ?_) | (intro h; try first | exact dz | replace h := cv))
      all_goals (try exact cz)
      refine ⟨[0], [.ptr 0 0 0, .int .i64 (checkF [])], [(0, rdB ⟨[], 0⟩)], rfl, ⟨.refl _, .refl _, trivial⟩, ⟨⟨by decide, _, rfl, .refl _⟩, trivial⟩, ⟨[], 0⟩, checkF [], rfl, rfl, rfl, ?_⟩
      rw [show failR ⟨[], 0⟩ (checkF []) = ⟨[], checkF []⟩ from rfl, show rdB ⟨[], checkF []⟩ = some (.cells [[vB [], .int .i64 (checkF [])]] false) from rfl]
      have hx1 := fun ρ => ren_e2 ρ [] (checkF [])
      have hx2 := hx1
      have hx3 := hx1
      have hx4 := hx1
      by_cases hc : checkF [] = 0
      ·exact absurd hc (by decide)
      ·rw [if_pos hc] at hA
       subst hA
       repeat' (first | (refine And.intro ?_ ?_) | (intro h; try first | exact dzi | replace h := cvi))
       all_goals (try exact cz)
       exact fin_ps (p := ([], checkF [])) rfl rfl rfl rfl
     ·rw [finPr_bad (show (BR.mk [] e').e ≠ 0 from he)] at hA
      subst hA
      repeat' (first | (refine And.intro ?_ ?_) | (intro h; try first | exact dz | replace h := cv))
      all_goals (try exact cz)
      exact fin_ps (p := ([], e')) rfl rfl rfl rfl)
   ·repeat' (first | (refine And.intro ?_ ?_) | (intro h; try first | exact dz | replace h := cv))
    all_goals (try exact cz)
    all_goals (refine ⟨_, prs_seal0 (b := true) rfl rfl rfl (decide_eq_true (by have := List.length_pos_iff.2 hb; omega)) rfl rfl, ?_⟩)
    all_goals (obtain ⟨b', e'⟩ := r; have hb : b' ≠ [] := hb)
    all_goals (
     repeat' (first | (refine And.intro ?_ ?_) | (intro h; try first | exact dz | replace h := cv))
     all_goals (try exact cz)
     refine ⟨[0], [.ptr 0 0 0, .int .i64 9], [(0, rdB ⟨b', e'⟩)], rfl, ⟨.refl _, .refl _, trivial⟩, ⟨⟨by decide, _, rfl, .refl _⟩, trivial⟩, ⟨b', e'⟩, 9, rfl, rfl, rfl, ?_⟩
     by_cases he : e' = 0
     ·subst he
      rw [finPr_more hb] at hA
      subst hA
      rw [show failR ⟨b', 0⟩ 9 = ⟨b', 9⟩ from rfl, show rdB ⟨b', 9⟩ = some (.cells [[vB b', .int .i64 9]] false) from rfl]
      have hx1 := fun ρ => ren_e2 ρ b' 9
      have hx2 := hx1
      have hx3 := hx1
      have hx4 := hx1
      repeat' (first | (refine And.intro ?_ ?_) | (intro h; try first | exact dzi | replace h := cvi))
      all_goals (try exact cz)
      exact fin_ps (p := ([], 9)) rfl rfl rfl rfl
     ·rw [finPr_bad (show (BR.mk b' e').e ≠ 0 from he)] at hA
      subst hA
      rw [show failR ⟨b', e'⟩ 9 = ⟨b', e'⟩ from if_neg he, show rdB ⟨b', e'⟩ = some (.cells [[vB b', .int .i64 e']] false) from rfl]
      have hx1 := fun ρ => ren_e2 ρ b' e'
      have hx2 := hx1
      have hx3 := hx1
      have hx4 := hx1
      repeat' (first | (refine And.intro ?_ ?_) | (intro h; try first | exact dzi | replace h := cvi))
      all_goals (try exact cz)
      exact fin_ps (p := ([], e')) rfl rfl rfl rfl)
def S_prs : SpecI := fun args K => ∃ b, args = [vB b] ∧ b.length ≤ 1000000 ∧ K (.tup [vF (parseSF b).1, .int .i64 (parseSF b).2])
theorem prs_ok [Syms] : ImmOk Try.prog 56 S_prs := by
 rintro args K ⟨b, rfl, h, hk⟩
 exact ⟨rfl, _, rfl, hk, fnI tys_ok fns_ok noneT_det cLp_ok mixed (prs_t b h _ rfl)⟩
end Go.Proofs.Ytajieadpaeggcaa

end
section
set_option linter.unusedVariables false
set_option linter.unusedSimpArgs false
namespace Go.Proofs.Ytajieadpaeggcaa
open Go Go.Av
set_option maxRecDepth 100000
set_option maxHeartbeats 4000000
def nuB : List Int → List UInt8
 | [] => []
 | x :: l => varB x.toNat ++ nuB l
theorem nuB_app : ∀ (l m : List Int), nuB (l ++ m) = nuB l ++ nuB m
 | [], m => rfl
 | x :: l, m => by rw [List.cons_append, nuB, nuB, nuB_app l m, List.append_assoc]
theorem nuB_take {xs : List Int} {i : Nat} (h : i < xs.length) : nuB (xs.take (i + 1)) = nuB (xs.take i) ++ varB (xs.getD i 0).toNat := by
 rw [List.take_add_one, nuB_app, List.getD_eq_getElem?_getD, List.getElem?_eq_getElem h]
 simp [nuB]
abbrev cNu : CallT := pickT 71 (ownT S_put) noneT
theorem cNu_ok [Syms] : cNu.ok Try.prog := pickT_own_ok put_ok noneT_ok
def fnmS (o : List UInt8) (xs : List Int) (i : Nat) : St := ⟨[(0, .slice 0 0 o.length 1 none), (7, vI xs), (8, .int .i64 xs.length), (9, .int .i64 i)], [(0, some (.cells (o.map encB) false))], 1⟩
def fnm0 (b : List UInt8) (xs : List Int) : St := ⟨[(0, vB b), (7, vI xs), (8, .int .i64 xs.length), (9, .int .i64 (0 : Nat))], [], 0⟩
theorem wrU {x : Int} (h : 0 ≤ x ∧ x < 128 ^ 9) : wr .u64 x = ((x.toNat : Nat) : Int) := by
 refine (if_pos ⟨by show (0 : Int) ≤ _; omega, by show _ ≤ (18446744073709551615 : Int); omega⟩).trans ?_
 omega
theorem nums_t [Syms] (b : List UInt8) (xs : List Int) (hl : b.length + (nuB xs).length ≤ 1000000) (hx : ∀ x ∈ xs, 0 ≤ x ∧ x < 128 ^ 9) (h0 : 0 < xs.length) (hn : xs.length ≤ 100000) :
 fnT noneT cNu (fnTab fns) (tyTab tys) (plTab plt) 100 43 [vB b, vI xs] [] 0 (ownP (b ++ nuB xs)) := by
 have hat : ∀ i, i < xs.length → 0 ≤ xs.getD i 0 ∧ xs.getD i 0 < 128 ^ 9 := fun i hi => by
  rw [List.getD_eq_getElem?_getD, List.getElem?_eq_getElem hi]; exact hx _ (List.getElem_mem hi)
 have hle : ∀ i, (nuB (xs.take i)).length ≤ (nuB xs).length := fun i => by
  have : nuB xs = nuB (xs.take i) ++ nuB (xs.drop i) := by rw [← nuB_app, List.take_append_drop]
  rw [this, List.length_append]; omega
 refine ⟨fun m s => ∃ i : Nat, (i ≤ xs.length ∧ m = xs.length - i) ∧ (s = fnmS (b ++ nuB (xs.take i)) xs i ∧ 0 < i ∨ s = fnm0 b xs ∧ i = 0), ⟨_, fnm0 b xs, reb_flat [0, 7, 8, 9] rfl, 0, ⟨by omega, rfl⟩, .inr ⟨rfl, rfl⟩⟩, ?_⟩
 rintro m s ⟨i, ⟨hi, rfl⟩, ⟨rfl, hi0⟩ | ⟨rfl, rfl⟩⟩
 ·by_cases h1 : i < xs.length
  ·have hw := wrU (hat i h1)
   have hli := hle i
   repeat' (first | (refine And.intro ?_ ?_) | (intro h; try first | exact dz | replace h := cv))
   all_goals (try exact cz)
   refine ⟨[vB (b ++ nuB (xs.take i)), .int .u64 (wr .u64 (xs.getD i 0))], ⟨.byt rfl rfl rfl, .imm _ rfl, trivial⟩, b ++ nuB (xs.take i), (xs.getD i 0).toNat, congrArg (fun z => [vB (b ++ nuB (xs.take i)), AVal.int .u64 z]) hw, by rw [List.length_append]; omega, by have := hat i h1; omega, ?_⟩
   repeat' (first | (refine And.intro ?_ ?_) | (intro h; try first | exact dz | replace h := cv))
   all_goals (try exact cz)
   refine ⟨_, fnmS (b ++ nuB (xs.take (i + 1))) xs (i + 1), reb_num [1] rfl ⟨wk_slc ?_, .refl _, .refl _, wk_int (by omega), trivial⟩ ⟨⟨by decide, _, rfl, wkB_eq ?_ (fB _)⟩, trivial⟩, ⟨i + 1, ⟨by omega, rfl⟩, .inl ⟨rfl, by omega⟩⟩, by omega⟩
   ·rw [nuB_take h1, ← List.append_assoc]
   ·rw [nuB_take h1, ← List.append_assoc]
  ·obtain rfl : i = xs.length := by omega
   repeat' (first | (refine And.intro ?_ ?_) | (intro h; try first | exact dz | replace h := cv))
   all_goals (try exact cz)
   refine ⟨_, reb_own1 (k := 4) (l := b ++ nuB (xs.take xs.length)) rfl rfl rfl rfl rfl, _, rfl, own_eq (by rw [List.take_length])⟩
 ·have hw := wrU (hat 0 h0)
  repeat' (first | (refine And.intro ?_ ?_) | (intro h; try first | exact dz | replace h := cv))
  all_goals (try exact cz)
  refine ⟨[vB b, .int .u64 (wr .u64 (xs.getD 0 0))], ⟨.imm _ rfl, .imm _ rfl, trivial⟩, b, (xs.getD 0 0).toNat, congrArg (fun z => [vB b, AVal.int .u64 z]) hw, by omega, by have := hat 0 h0; omega, ?_⟩
  repeat' (first | (refine And.intro ?_ ?_) | (intro h; try first | exact dz | replace h := cv))
  all_goals (try exact cz)
  refine ⟨_, fnmS (b ++ nuB (xs.take 1)) xs 1, reb_num [0] rfl ⟨wk_slc ?_, .refl _, .refl _, wk_int (by rfl), trivial⟩ ⟨⟨by decide, _, rfl, wkB_eq ?_ (fB _)⟩, trivial⟩, ⟨1, ⟨by omega, rfl⟩, .inl ⟨rfl, by omega⟩⟩, by omega⟩
  ·rw [nuB_take h0]; rfl
  ·rw [nuB_take h0]; rfl
def S_nums : SpecY := fun args K => ∃ b xs, args = [vB b, vI xs] ∧ b.length + (nuB xs).length ≤ 1000000 ∧ ((∀ x ∈ xs, 0 ≤ x ∧ x < 128 ^ 9) ∧ 0 < xs.length ∧ xs.length ≤ 100000) ∧ K (b ++ nuB xs)
theorem nums_ok [Syms] : BytOk Try.prog 43 S_nums := by
 rintro args K ⟨b, xs, rfl, h, ⟨h1, h2, h3⟩, hk⟩
 exact ⟨_, hk, fnT_sound tys_ok fns_ok noneT_det cNu_ok mixed (nums_t b xs h h1 h2 h3)⟩
end Go.Proofs.Ytajieadpaeggcaa

end
section
set_option linter.unusedVariables false
set_option linter.unusedSimpArgs false
namespace Go.Proofs.Ytajieadpaeggcaa
open Go Go.Av
structure Vl where
 n : Int
 s : List UInt8
 deriving Inhabited
structure Sta where
 nulls : Int
 has : Bool
 mn : Vl
 mx : Vl
 deriving Inhabited
structure Pg where
 rows : Int
 cells : Int
 enc : Int
 rlen : Int
 dlen : Int
 vlen : Int
 crc : Int
 deriving Inhabited
structure Ck where
 words : Int
 size : Int
 crc : Int
 pages : List Pg
 known : Bool
 st : Sta
 deriving Inhabited
structure Rw where
 n : Int
 chunks : List Ck
 deriving Inhabited
structure Mt where
 s : List Fd
 n : Int
 groups : List Rw
 deriving Inhabited
def encV (v : Vl) : List AVal := [.int .i64 v.n, .str v.s]
def encP (p : Pg) : List AVal := [.int .i64 p.rows, .int .i64 p.cells, .int .i64 p.enc, .int .i64 p.rlen, .int .i64 p.dlen, .int .i64 p.vlen, .int .u32 p.crc]
def encC (c : Ck) : List AVal := [.int .i64 c.words, .int .i64 c.size, .int .u32 c.crc, .vs 7 (c.pages.map encP), .bool c.known, .int .i64 c.st.nulls, .bool c.st.has, .int .i64 c.st.mn.n, .str c.st.mn.s, .int .i64 c.st.mx.n, .str c.st.mx.s]
def encR (r : Rw) : List AVal := [.int .i64 r.n, .vs 11 (r.chunks.map encC)]
def encM (m : Mt) : List AVal := [.vs 4 (m.s.map encF), .int .i64 m.n, .vs 2 (m.groups.map encR)]
abbrev vP (l : List Pg) : AVal := vT 7 encP default l
abbrev vC (l : List Ck) : AVal := vT 11 encC default l
abbrev vR (l : List Rw) : AVal := vT 2 encR default l
theorem fP (l : List Pg) : flatRows (l.map encP) := flat_map (fun a x hx => by simp [encP] at hx; rcases hx with rfl | rfl | rfl | rfl | rfl | rfl | rfl <;> rfl) l
theorem fC (l : List Ck) : flatRows (l.map encC) := flat_map (fun a x hx => by simp [encC] at hx; rcases hx with rfl | rfl | rfl | rfl | rfl | rfl | rfl | rfl | rfl | rfl | rfl <;> rfl) l
theorem fR (l : List Rw) : flatRows (l.map encR) := flat_map (fun a x hx => by simp [encR] at hx; rcases hx with rfl | rfl <;> rfl) l
/-- What is read of rows, at once. -/
theorem sq : (∀ p, (encP p).getD 0 .any = .int .i64 p.rows) ∧ (∀ p, (encP p).getD 1 .any = .int .i64 p.cells) ∧ (∀ p, (encP p).getD 2 .any = .int .i64 p.enc) ∧ (∀ p, (encP p).getD 3 .any = .int .i64 p.rlen) ∧ (∀ p, (encP p).getD 4 .any = .int .i64 p.dlen) ∧ (∀ p, (encP p).getD 5 .any = .int .i64 p.vlen) ∧ (∀ p, (encP p).getD 6 .any = .int .u32 p.crc) ∧ (∀ c, (encC c).getD 0 .any = .int .i64 c.words) ∧ (∀ c, (encC c).getD 1 .any = .int .i64 c.size) ∧ (∀ c, (encC c).getD 2 .any = .int .u32 c.crc) ∧ (∀ c, (encC c).getD 3 .any = .vs 7 (c.pages.map encP)) ∧ (∀ c, (encC c).getD 4 .any = .bool c.known) ∧ (∀ c, (encC c).getD 5 .any = .int .i64 c.st.nulls) ∧ (∀ c, (encC c).getD 6 .any = .bool c.st.has) ∧ (∀ c, (encC c).getD 7 .any = .int .i64 c.st.mn.n) ∧ (∀ c, (encC c).getD 8 .any = .str c.st.mn.s) ∧ (∀ c, (encC c).getD 9 .any = .int .i64 c.st.mx.n) ∧ (∀ c, (encC c).getD 10 .any = .str c.st.mx.s) ∧ (∀ r, (encR r).getD 0 .any = .int .i64 r.n) ∧ (∀ r, (encR r).getD 1 .any = .vs 11 (r.chunks.map encC)) ∧ (∀ v, (encV v).getD 0 .any = .int .i64 v.n) ∧ (∀ v, (encV v).getD 1 .any = .str v.s) ∧ (∀ p, (encP p).getD (0 + 0) .any = .int .i64 p.rows) ∧ (∀ p, (encP p).getD (0 + 1) .any = .int .i64 p.cells) ∧ (∀ p, (encP p).getD (0 + 2) .any = .int .i64 p.enc) ∧ (∀ p, (encP p).getD (0 + 3) .any = .int .i64 p.rlen) ∧ (∀ p, (encP p).getD (0 + 4) .any = .int .i64 p.dlen) ∧ (∀ p, (encP p).getD (0 + 5) .any = .int .i64 p.vlen) ∧ (∀ p, (encP p).getD (0 + 6) .any = .int .u32 p.crc) ∧ (∀ c, (encC c).getD (0 + 0) .any = .int .i64 c.words) ∧ (∀ c, (encC c).getD (0 + 1) .any = .int .i64 c.size) ∧ (∀ c, (encC c).getD (0 + 2) .any = .int .u32 c.crc) ∧ (∀ c, (encC c).getD (0 + 3) .any = .vs 7 (c.pages.map encP)) ∧ (∀ c, (encC c).getD (0 + 4) .any = .bool c.known) ∧ (∀ c, (encC c).getD (0 + 5) .any = .int .i64 c.st.nulls) ∧ (∀ c, (encC c).getD (0 + 6) .any = .bool c.st.has) ∧ (∀ c, (encC c).getD (0 + 7) .any = .int .i64 c.st.mn.n) ∧ (∀ c, (encC c).getD (0 + 8) .any = .str c.st.mn.s) ∧ (∀ c, (encC c).getD (0 + 9) .any = .int .i64 c.st.mx.n) ∧ (∀ c, (encC c).getD (0 + 10) .any = .str c.st.mx.s) ∧ (∀ r, (encR r).getD (0 + 0) .any = .int .i64 r.n) ∧ (∀ r, (encR r).getD (0 + 1) .any = .vs 11 (r.chunks.map encC)) ∧ (∀ v, (encV v).getD (0 + 0) .any = .int .i64 v.n) ∧ (∀ v, (encV v).getD (0 + 1) .any = .str v.s) ∧ (∀ z r, asR (.vs z r) = r) :=
 ⟨fun _ => rfl, fun _ => rfl, fun _ => rfl, fun _ => rfl, fun _ => rfl, fun _ => rfl, fun _ => rfl, fun _ => rfl, fun _ => rfl, fun _ => rfl, fun _ => rfl, fun _ => rfl, fun _ => rfl, fun _ => rfl, fun _ => rfl, fun _ => rfl, fun _ => rfl, fun _ => rfl, fun _ => rfl, fun _ => rfl, fun _ => rfl, fun _ => rfl, fun _ => rfl, fun _ => rfl, fun _ => rfl, fun _ => rfl, fun _ => rfl, fun _ => rfl, fun _ => rfl, fun _ => rfl, fun _ => rfl, fun _ => rfl, fun _ => rfl, fun _ => rfl, fun _ => rfl, fun _ => rfl, fun _ => rfl, fun _ => rfl, fun _ => rfl, fun _ => rfl, fun _ => rfl, fun _ => rfl, fun _ => rfl, fun _ => rfl, fun _ _ => rfl⟩
theorem dzq {q : Prop} (e : q := by (try first | replace h := of_decide_eq_true h | replace h := of_decide_eq_false h); (try simp only [sg, sq] at h); (try simp only [sx, ↓reduceIte, Nat.reduceAdd, reduceCtorEq, Int.reduceLT, Int.reduceLE, Int.reduceSub, Nat.reduceEqDiff, Nat.reduceLT] at h); first | done | exact nz h) : q := e
theorem cvq {q : Prop} (e : q := by (try first | replace h := of_decide_eq_true h | replace h := of_decide_eq_false h); (try simp only [sg, sq] at h); (try simp only [sx, ↓reduceIte, Nat.reduceAdd, reduceCtorEq, Int.reduceLT, Int.reduceLE, Int.reduceSub, Nat.reduceEqDiff, Nat.reduceLT] at h); exact h) : q := e
theorem dzqi {q : Prop} (e : q := by (try first | replace h := of_decide_eq_true h | replace h := of_decide_eq_false h); (try simp only [sg, sq, hx1, hx2, hx3, hx4] at h); (try simp only [sx, ↓reduceIte, Nat.reduceAdd, reduceCtorEq, Int.reduceLT, Int.reduceLE, Int.reduceSub, Nat.reduceEqDiff, Nat.reduceLT] at h); first | done | exact nz h) : q := e
theorem cvqi {q : Prop} (e : q := by (try first | replace h := of_decide_eq_true h | replace h := of_decide_eq_false h); (try simp only [sg, sq, hx1, hx2, hx3, hx4] at h); (try simp only [sx, ↓reduceIte, Nat.reduceAdd, reduceCtorEq, Int.reduceLT, Int.reduceLE, Int.reduceSub, Nat.reduceEqDiff, Nat.reduceLT] at h); exact h) : q := e
theorem czq {P : Prop} (h : P := by first | exact cz | ((with_reducible first | show (_ : Int) ≤ _ | show (_ : Int) < _); (try simp only [sg, sq]); omega)) : P := h
/-! Bytes -/
def pgB (p : Pg) : List UInt8 := nuB [p.rows, p.cells, p.enc, p.rlen, p.dlen, p.vlen] ++ leB 4 p.crc.toNat
def pgsB : List Pg → List UInt8
 | [] => []
 | p :: l => pgB p ++ pgsB l
def flB (b : Bool) : List UInt8 := [if b = true then 1 else 0]
def vlB (kind : Int) (v : Vl) : List UInt8 :=
 if kind = 1 then [UInt8.ofNat (wr .u8 v.n).toNat] else if kind = 2 then leB 4 (wr .u64 v.n).toNat else if kind = 3 then leB 8 (wr .u64 v.n).toNat else nuB [(v.s.length : Int)] ++ v.s
def stB (kind : Int) (s : Sta) : List UInt8 := nuB [s.nulls] ++ flB s.has ++ (if s.has = true then vlB kind s.mn ++ vlB kind s.mx else [])
def ckB (kind : Int) (c : Ck) : List UInt8 := nuB [c.words, c.size] ++ leB 4 c.crc.toNat ++ nuB [(c.pages.length : Int)] ++ pgsB c.pages ++ flB c.known ++ (if c.known = true then stB kind c.st else [])
def cksB : List Int → List Ck → List UInt8
 | k :: ks, c :: cs => ckB k c ++ cksB ks cs
 | _, _ => []
def rwB (ks : List Int) (r : Rw) : List UInt8 := nuB [r.n] ++ cksB ks r.chunks
def rwsB (ks : List Int) : List Rw → List UInt8
 | [] => []
 | r :: l => rwB ks r ++ rwsB ks l
def kindsF (s : List Fd) : List Int := (leavesF s).map (·.kind)
def mtB (m : Mt) : List UInt8 := nuB [((sbF m.s).length : Int)] ++ sbF m.s ++ nuB [m.n, (m.groups.length : Int)] ++ rwsB (kindsF m.s) m.groups
/-! Reading -/
def plainR (r : BR) : Nat × BR := numR 1048576 14 r
def truthR (r : BR) : Nat × BR := if 1 < (fixR 1 r).1 then (0, failR (fixR 1 r).2 10) else fixR 1 r
def valR (kind : Int) (r : BR) : Vl × BR :=
 if kind = 1 then (⟨((truthR r).1 : Nat), []⟩, (truthR r).2) else
 if kind = 2 then (⟨wr .i32 ((fixR 4 r).1 : Nat), []⟩, (fixR 4 r).2) else
 if kind = 3 then (⟨wr .i64 ((fixR 8 r).1 : Nat), []⟩, (fixR 8 r).2) else
 (⟨0, (takeR (numR 100 5 r).1 (numR 100 5 r).2).1⟩, (takeR (numR 100 5 r).1 (numR 100 5 r).2).2)
def pageR (r : BR) : Pg × BR :=
 let a := plainR r
 let b := plainR a.2
 let c := plainR b.2
 let d := plainR c.2
 let e := plainR d.2
 let f := plainR e.2
 let g := fixR 4 f.2
 (⟨a.1, b.1, c.1, d.1, e.1, f.1, g.1⟩, g.2)
def pagesR : Nat → BR → List Pg → List Pg × BR
 | 0, r, s => (s, r)
 | k + 1, r, s => if r.e ≠ 0 then (s, r) else pagesR k (pageR r).2 (s ++ [(pageR r).1])
def ckR0 (r : BR) : (Nat × Nat × Nat) × BR :=
 let a := plainR r
 let b := plainR a.2
 let c := fixR 4 b.2
 ((a.1, b.1, c.1), c.2)
/-- What is known of a chunk, from its numbers and its pages on. -/
def knowR (kind : Int) (r : BR) : (Bool × Sta) × BR :=
 let t := truthR r
 if t.1 ≠ 1 then ((false, default), t.2) else
 let n := plainR t.2
 let h := truthR n.2
 if h.1 ≠ 1 then ((true, ⟨n.1, false, default, default⟩), h.2) else
 let a := valR kind h.2
 let b := valR kind a.2
 ((true, ⟨n.1, true, a.1, b.1⟩), b.2)
def chunkR (kind : Int) (r : BR) : Ck × BR :=
 let a := ckR0 r
 let n := numR 200 4 a.2
 let p := pagesR n.1 n.2 []
 let k := knowR kind p.2
 (⟨a.1.1, a.1.2.1, a.1.2.2, p.1, k.1.1, k.1.2⟩, k.2)
def chunksR : List Int → BR → List Ck → List Ck × BR
 | [], r, s => (s, r)
 | k :: ks, r, s => if r.e ≠ 0 then (s, r) else chunksR ks (chunkR k r).2 (s ++ [(chunkR k r).1])
def groupR (ks : List Int) (r : BR) : Rw × BR :=
 let a := plainR r
 let c := chunksR ks a.2 []
 (⟨a.1, c.1⟩, c.2)
def groupsR (ks : List Int) : Nat → BR → List Rw → List Rw × BR
 | 0, r, s => (s, r)
 | k + 1, r, s => if r.e ≠ 0 then (s, r) else groupsR ks k (groupR ks r).2 (s ++ [(groupR ks r).1])
def mt0 : Mt := ⟨[], 0, []⟩
def metaR (r : BR) : Mt × BR :=
 let c := numR 2000 5 r
 let t := takeR c.1 c.2
 if t.2.e ≠ 0 then (mt0, t.2) else
 let p := parseSF t.1
 let r1 := failR t.2 p.2
 let n := plainR r1
 let k := numR 200 4 n.2
 let g := groupsR (kindsF p.1) k.1 k.2 []
 (⟨p.1, n.1, g.1⟩, g.2)
/-! What may be -/
def cmpB (a b : List UInt8) : Int := if Op.bytesLess a b = true then -1 else if (Op.bytesLess a b || eqb a b) = true then 0 else 1
def cmpI (a b : Int) : Int := if a < b then -1 else if b < a then 1 else 0
def cmpV (kind : Int) (a b : Vl) : Int := if kind = 4 then cmpB a.s b.s else cmpI a.n b.n
def sumP (f : Pg → Int) : List Pg → Int
 | [] => 0
 | p :: l => f p + sumP f l
def soundF (kind n : Int) (c : Ck) : Bool :=
 c.pages.all (fun p => decide (p.rows ≠ 0)) && decide (sumP (·.rows) c.pages = n) && decide (c.words ≤ 256) && (c.pages.all (fun p => decide (p.enc = 2)) || decide (c.words = 0 ∧ c.size = 0)) && (!c.known || decide (c.st.nulls ≤ sumP (·.cells) c.pages) && decide (0 ≤ cmpV kind c.st.mx c.st.mn))
def soundsF (n : Int) : List Int → List Ck → Bool
 | k :: ks, c :: cs => soundF k n c && soundsF n ks cs
 | _, _ => true
def sumR : List Rw → Int
 | [] => 0
 | r :: l => r.n + sumR l
def wholeF (m : Mt) : Bool := (m.groups.all fun g => decide (g.n ≠ 0) && soundsF g.n (kindsF m.s) g.chunks) && decide (sumR m.groups = m.n ∧ sumR m.groups ≤ 200)
def parseMF (b : List UInt8) : Mt × Int :=
 let q := metaR ⟨b, 0⟩
 let r1 := if q.2.b ≠ [] then failR q.2 9 else q.2
 let r2 := if r1.e = 0 ∧ wholeF q.1 = false then failR r1 10 else r1
 if r2.e ≠ 0 then (mt0, r2.e) else (q.1, 0)
end Go.Proofs.Ytajieadpaeggcaa

end
section
set_option linter.unusedVariables false
set_option linter.unusedSimpArgs false
namespace Go.Proofs.Ytajieadpaeggcaa
open Go Go.Av
set_option maxRecDepth 100000
set_option maxHeartbeats 4000000
/-- Blocks of the function's own, besides, may be forgotten. -/
def subP (Post : AVal → Heap → Nat → Prop) : AVal → Heap → Nat → Prop := fun v H nx => ∃ K : Heap, K.sub H ∧ Post v K nx
theorem FnSem.forget [Syms] {P : Program} {f : FuncId} {args : List AVal} {H : Heap} {nx : Nat} {Post : AVal → Heap → Nat → Prop} (h : FnSem P f args H nx (subP Post)) : FnSem P f args H nx Post := by
 refine ⟨h.1, fun ι w vs hv hH hb => (h.2 ι w vs hv hH hb).mono ?_⟩
 rintro e w' ⟨v, H', nx', r, κ, ⟨K, hs, hp⟩, h2, h3, h4, h5, h6, h7⟩
 exact ⟨v, K, nx', r, κ, hp, h2, h3, h4.sub hs, ⟨h5.keep, h5.fzle, h5.os, h5.tape, h5.output, h5.size, h5.same, fun g hg => h5.own g (hg.sub hs), h5.fzs, h5.fresh⟩, h6, h7⟩
theorem wkB_row {ρ : Nat → Nat} {row row' : List AVal} (h : WkVs row' row) (hf : ∀ x ∈ row, x.flat = true) : WkB (.cells [row'] false) ((Blk.cells [row] false).ren ρ) := by
 rw [blk_flat ρ (flat_cons hf flat_nil)]
 refine .each _ _ _ rfl fun k r r' h1 h2 => ?_
 cases k with
 | zero =>
   cases h1; cases h2
   exact ⟨h.at.1.symm, h.at.2⟩
 | succ k => simp at h1
theorem wkB_rw {ρ : Nat → Nat} {row row' : List AVal} (h : WkVs row' (AVal.renL ρ row)) : WkB (.cells [row'] false) ((Blk.cells [row] false).ren ρ) := by
 simp only [Blk.ren, List.map_cons, List.map_nil]
 refine .each _ _ _ rfl fun k r r' h1 h2 => ?_
 cases k with
 | zero =>
   cases h1; cases h2
   exact ⟨h.at.1.symm, h.at.2⟩
 | succ k => simp at h1
theorem sub_one {b : Option Blk} {l : Heap} : Heap.sub [(0, b)] ((0, b) :: l) := fun n c h => by
 rw [Heap.get_cons] at h ⊢
 by_cases hz : n = 0
 ·subst hz; exact h
 ·rw [beq_ff hz] at h; rw [show (bif false then b else Heap.get [] n) = none from Heap.get_nil n] at h; cases h
/-- The end of a function with one answer, that stands in a variable. -/
theorem fin_var [Syms] {N k n nx : Nat} {e : Env} {H : Heap} {row' row : List AVal} {r : BR} {rs : List ResultVar} {Post : AVal → Heap → Nat → Prop} (hk : e.get k = .ptr n 0 0) (H0 : H.get 0 = rdB r) (Hn : H.get n = some (.cells [row'] false)) (hrow : WkVs row' row) (hf : ∀ x ∈ row, x.flat = true)
 (hn : NumsOk 1 nx [0, n] = true) (hrs : resultsA (tyTab tys) ⟨[(k, .ptr 1 0 0)], [(0, rdB r), (1, some (.cells [row] false))], 2⟩ rs = some (.agg row)) (hP : Post (.agg row) [(0, rdB r)] 2) :
 ∃ s3, Reb 1 N ⟨e, H, nx⟩ s3 ∧ ∃ v, resultsA (tyTab tys) s3 rs = some v ∧ subP Post v s3.heap s3.nx :=
 ⟨⟨[(k, .ptr 1 0 0)], [(0, rdB r), (1, some (.cells [row] false))], 2⟩, reb_num [0, n] hn ⟨by rw [hk]; exact .refl _, trivial⟩ ⟨⟨Nat.succ_pos _, _, H0, .refl _⟩, ⟨Nat.lt_succ_self _, _, Hn, wkB_row hrow hf⟩, trivial⟩, _, hrs, _, sub_one, hP⟩
theorem wk_str {a b : List UInt8} (h : a = b) : WkV (.str a) (.str b) := h ▸ .refl _
theorem fV (v : Vl) : ∀ x ∈ encV v, x.flat = true := fun x hx => by simp [encV] at hx; rcases hx with rfl | rfl <;> rfl
abbrev cFx : CallT := pickT 54 (specT S_ftake) (pickT 111 (specT S_cnew) (pickT 112 (specT S_cget) noneT))
theorem cFx_ok [Syms] : cFx.ok Try.prog := pickT_spec ftake_ok (pickT_spec cnew_ok (pickT_spec cget_ok noneT_ok))
theorem takeR_two (n : Nat) (r : BR) : (takeR n r).1.length = n ∨ (takeR n r).1 = [] := by
 unfold takeR
 by_cases h : r.b.length < n
 ·simp only [if_pos h]
  have : (failR r 8).e ≠ 0 := by
   unfold failR
   by_cases h0 : r.e = 0
   ·rw [if_pos h0]; show (8 : Int) ≠ 0; decide
   ·rw [if_neg h0]; exact h0
  rw [if_pos this]; exact .inr rfl
 ·simp only [if_neg h]
  by_cases h0 : r.e ≠ 0
  ·rw [if_pos h0]; exact .inr rfl
  ·rw [if_neg h0]; left; simp; omega
theorem ffix_t [Syms] {Post : AVal → Heap → Nat → Prop} (r : BR) (n : Nat) (hn : 0 < n ∧ n ≤ 8) (hl : r.b.length ≤ 1000000) (hP : Post (.int .u64 ((fixR n r).1 : Nat)) [(0, rdB (fixR n r).2)] 1) :
 fnT noneT cFx (fnTab fns) (tyTab tys) (plTab plt) 100 102 [.ptr 0 0 0, .int .i64 n] [(0, rdB r)] 1 Post := by
 refine ⟨[0], [.ptr 0 0 0, .int .i64 n], [(0, rdB r)], rfl, ⟨.refl _, .refl _, trivial⟩, ⟨⟨by decide, _, rfl, .refl _⟩, trivial⟩, r, n, rfl, rfl, rfl, ⟨hl, by omega⟩, ?_⟩
 unfold fixR at hP
 have h2 := takeR_two n r
 generalize takeR n r = q at *
 obtain ⟨t, r2⟩ := q
 have hP : Post (.int .u64 (leV t : Nat)) [(0, rdB r2)] 1 := hP
 rcases h2 with h2 | h2
 ·have h2 : t.length = n := h2
  refine ⟨[], [vB t], [], rfl, ⟨.refl _, trivial⟩, trivial, t, rfl, rfl, rfl, by omega, ?_⟩
  have ht : t.take n = t := List.take_of_length_le (by omega)
  refine ⟨[2], [.ptr 0 0 0, .int .i64 (n : Nat)], [(0, rdB ⟨t, 0⟩)], rfl, ⟨.refl _, .refl _, trivial⟩, ⟨⟨by decide, _, rfl, .refl _⟩, trivial⟩, t, n, rfl, rfl, rfl, ⟨by omega, by omega⟩, .inl ⟨by omega, ?_⟩⟩
  rw [ht]
  repeat' (first | (refine And.intro ?_ ?_) | (intro h; try first | exact dz | replace h := cv))
  all_goals (try exact cz)
  exact ⟨⟨[(4, .int .u64 (leV t : Nat))], [(0, rdB r2)], 1⟩, reb_num [0] (by first | rfl | kernel_rfl) ⟨.refl _, trivial⟩ ⟨⟨by decide, _, rfl, .refl _⟩, trivial⟩, _, rfl, hP⟩
 ·have h2 : t = [] := h2
  subst h2
  refine ⟨[], [vB []], [], rfl, ⟨.refl _, trivial⟩, trivial, [], rfl, rfl, rfl, by simp, ?_⟩
  refine ⟨[2], [.ptr 0 0 0, .int .i64 (n : Nat)], [(0, rdB ⟨[], 0⟩)], rfl, ⟨.refl _, .refl _, trivial⟩, ⟨⟨by decide, _, rfl, .refl _⟩, trivial⟩, [], n, rfl, rfl, rfl, ⟨by simp, by omega⟩, .inr ⟨hn.1, ?_⟩⟩
  repeat' (first | (refine And.intro ?_ ?_) | (intro h; try first | exact dz | replace h := cv))
  all_goals (try exact cz)
  exact ⟨⟨[(4, .int .u64 (leV [] : Nat))], [(0, rdB r2)], 1⟩, reb_num [0] (by first | rfl | kernel_rfl) ⟨.refl _, trivial⟩ ⟨⟨by decide, _, rfl, .refl _⟩, trivial⟩, _, rfl, hP⟩
def S_ffix : SpecT := fun args H nx Post => ∃ (r : BR) (n : Nat), args = [.ptr 0 0 0, .int .i64 n] ∧ H = [(0, rdB r)] ∧ nx = 1 ∧ ((0 < n ∧ n ≤ 8) ∧ r.b.length ≤ 1000000) ∧ Post (.int .u64 ((fixR n r).1 : Nat)) [(0, rdB (fixR n r).2)] 1
theorem ffix_ok [Syms] : S_ffix.ok Try.prog 102 := by
 rintro args H nx Post ⟨r, n, rfl, rfl, rfl, ⟨h1, h2⟩, h⟩
 exact fnT_sound tys_ok fns_ok noneT_det cFx_ok mixed (ffix_t r n h1 h2 h)
/-! A truth -/
abbrev cFt : CallT := pickT 102 (specT S_ffix) (pickT 27 (specT S_ffail) noneT)
theorem cFt_ok [Syms] : cFt.ok Try.prog := pickT_spec ffix_ok (pickT_spec ffail_ok noneT_ok)
theorem ftruth_t [Syms] {Post : AVal → Heap → Nat → Prop} (r : BR) (hl : r.b.length ≤ 1000000) (hP : Post (.int .i64 ((truthR r).1 : Nat)) [(0, rdB (truthR r).2)] 1) :
 fnT noneT cFt (fnTab fns) (tyTab tys) (plTab plt) 100 105 [.ptr 0 0 0] [(0, rdB r)] 1 Post := by
 refine ⟨[0], [.ptr 0 0 0, .int .i64 ((1 : Nat) : Int)], [(0, rdB r)], rfl, ⟨.refl _, .refl _, trivial⟩, ⟨⟨by decide, _, rfl, .refl _⟩, trivial⟩, r, 1, rfl, rfl, rfl, ⟨⟨by omega, by omega⟩, hl⟩, ?_⟩
 unfold truthR at hP
 generalize fixR 1 r = q at *
 obtain ⟨v, r2⟩ := q
 have hP : Post (.int .i64 ((if 1 < v then (0, failR r2 10) else (v, r2)).1 : Nat)) [(0, rdB (if 1 < v then (0, failR r2 10) else (v, r2)).2)] 1 := hP
 by_cases h1 : 1 < v
 ·rw [if_pos h1] at hP
  repeat' (first | (refine And.intro ?_ ?_) | (intro h; try first | exact dz | replace h := cv))
  all_goals (try exact cz)
  refine ⟨[0], [.ptr 0 0 0, .int .i64 10], [(0, rdB r2)], rfl, ⟨.refl _, .refl _, trivial⟩, ⟨⟨by decide, _, rfl, .refl _⟩, trivial⟩, r2, 10, rfl, rfl, rfl, ?_⟩
  generalize failR r2 10 = r3 at *
  repeat' (first | (refine And.intro ?_ ?_) | (intro h; try first | exact dz | replace h := cv))
  all_goals (try exact cz)
  exact ⟨⟨[(2, .int .i64 (0 : Nat))], [(0, rdB r3)], 1⟩, reb_num [0] (by first | rfl | kernel_rfl) ⟨.refl _, trivial⟩ ⟨⟨by decide, _, rfl, .refl _⟩, trivial⟩, _, rfl, hP⟩
 ·rw [if_neg h1] at hP
  have hw := wrIN (n := v) (by omega)
  repeat' (first | (refine And.intro ?_ ?_) | (intro h; try first | exact dz | replace h := cv))
  all_goals (try exact cz)
  exact ⟨⟨[(2, .int .i64 (v : Nat))], [(0, rdB r2)], 1⟩, reb_num [0] (by first | rfl | kernel_rfl) ⟨wk_int hw, trivial⟩ ⟨⟨by decide, _, rfl, .refl _⟩, trivial⟩, _, rfl, hP⟩
def S_ftruth : SpecT := fun args H nx Post => ∃ (r : BR), args = [.ptr 0 0 0] ∧ H = [(0, rdB r)] ∧ nx = 1 ∧ r.b.length ≤ 1000000 ∧ Post (.int .i64 ((truthR r).1 : Nat)) [(0, rdB (truthR r).2)] 1
theorem ftruth_ok [Syms] : S_ftruth.ok Try.prog 105 := by
 rintro args H nx Post ⟨r, rfl, rfl, rfl, h1, h⟩
 exact fnT_sound tys_ok fns_ok noneT_det cFt_ok mixed (ftruth_t r h1 h)
/-! A number -/
abbrev cFpl : CallT := pickT 55 (specT S_fnum) noneT
theorem cFpl_ok [Syms] : cFpl.ok Try.prog := pickT_spec fnum_ok noneT_ok
theorem fplain_t [Syms] {Post : AVal → Heap → Nat → Prop} (r : BR) (hl : r.b.length ≤ 1000000) (hP : Post (.int .i64 ((plainR r).1 : Nat)) [(0, rdB (plainR r).2)] 1) :
 fnT noneT cFpl (fnTab fns) (tyTab tys) (plTab plt) 100 57 [.ptr 0 0 0] [(0, rdB r)] 1 Post := by
 refine ⟨[0], [.ptr 0 0 0, .int .i64 ((1048576 : Nat) : Int), .int .i64 14], [(0, rdB r)], rfl, ⟨.refl _, .refl _, .refl _, trivial⟩, ⟨⟨by decide, _, rfl, .refl _⟩, trivial⟩, r, 1048576, 14, rfl, rfl, rfl, ⟨hl, by omega, by decide⟩, ?_⟩
 replace hP : Post (.int .i64 ((numR 1048576 14 r).1 : Nat)) [(0, rdB (numR 1048576 14 r).2)] 1 := hP
 generalize numR 1048576 14 r = q at *
 obtain ⟨v, r2⟩ := q
 repeat' (first | (refine And.intro ?_ ?_) | (intro h; try first | exact dz | replace h := cv))
 all_goals (try exact cz)
 exact ⟨⟨[(2, .int .i64 (v : Nat))], [(0, rdB r2)], 1⟩, reb_num [0] (by first | rfl | kernel_rfl) ⟨.refl _, trivial⟩ ⟨⟨by decide, _, rfl, .refl _⟩, trivial⟩, _, rfl, hP⟩
def S_fplain : SpecT := fun args H nx Post => ∃ (r : BR), args = [.ptr 0 0 0] ∧ H = [(0, rdB r)] ∧ nx = 1 ∧ r.b.length ≤ 1000000 ∧ Post (.int .i64 ((plainR r).1 : Nat)) [(0, rdB (plainR r).2)] 1
theorem fplain_ok [Syms] : S_fplain.ok Try.prog 57 := by
 rintro args H nx Post ⟨r, rfl, rfl, rfl, h1, h⟩
 exact fnT_sound tys_ok fns_ok noneT_det cFpl_ok mixed (fplain_t r h1 h)
/-! A value -/
abbrev cFv [Syms] : CallT := pickT 97 (bodyT noneT noneT (fnTab fns) (tyTab tys) (plTab plt) 100) (pickT 105 (specT S_ftruth) (pickT 102 (specT S_ffix) (pickT 55 (specT S_fnum) (pickT 54 (specT S_ftake) noneT))))
theorem cFv_ok [Syms] : cFv.ok Try.prog := pickT_ok (bodyT_ok tys_ok fns_ok noneT_det noneT_ok mixed) (pickT_spec ftruth_ok (pickT_spec ffix_ok (pickT_spec fnum_ok (pickT_spec ftake_ok noneT_ok))))
theorem wr32 (x : Int) : wr .i64 (wr .i32 x) = wr .i32 x := by
 apply wrI
 unfold wr
 split
 ·rename_i h
  have h1 : (-2147483648 : Int) ≤ x := h.1
  have h2 : x ≤ (2147483647 : Int) := h.2
  omega
 ·show (-9223372036854775808 : Int) ≤ (if (true && decide (x % (2 ^ 32 : Int) ≥ (2 ^ 31 : Int))) = true then x % (2 ^ 32 : Int) - (2 ^ 32 : Int) else x % (2 ^ 32 : Int)) ∧ (if (true && decide (x % (2 ^ 32 : Int) ≥ (2 ^ 31 : Int))) = true then x % (2 ^ 32 : Int) - (2 ^ 32 : Int) else x % (2 ^ 32 : Int)) ≤ (9223372036854775807 : Int)
  split <;> omega
theorem valR_1 (r : BR) : valR 1 r = (⟨((truthR r).1 : Nat), []⟩, (truthR r).2) := rfl
theorem valR_2 (r : BR) : valR 2 r = (⟨wr .i32 ((fixR 4 r).1 : Nat), []⟩, (fixR 4 r).2) := rfl
theorem valR_3 (r : BR) : valR 3 r = (⟨wr .i64 ((fixR 8 r).1 : Nat), []⟩, (fixR 8 r).2) := rfl
theorem valR_4 {k : Int} (h : ¬ k = 1 ∧ ¬ k = 2 ∧ ¬ k = 3) (r : BR) : valR k r = (⟨0, (takeR (numR 100 5 r).1 (numR 100 5 r).2).1⟩, (takeR (numR 100 5 r).1 (numR 100 5 r).2).2) := by
 unfold valR
 rw [if_neg h.1, if_neg h.2.1, if_neg h.2.2]
theorem fval_t [Syms] {Post : AVal → Heap → Nat → Prop} (k : Int) (r : BR) (hl : r.b.length ≤ 1000000) (hP : Post (.agg (encV (valR k r).1)) [(0, rdB (valR k r).2)] 2) :
 fnT noneT cFv (fnTab fns) (tyTab tys) (plTab plt) 100 106 [.ptr 0 0 0, .int .i64 k] [(0, rdB r)] 1 (subP Post) := by
 by_cases h1 : k = 1
 ·subst h1
  rw [valR_1] at hP
  repeat' (first | (refine And.intro ?_ ?_) | (intro h; try first | exact dz | replace h := cv))
  all_goals (try exact cz)
  refine ⟨_, .refl _ _ _, _, rfl, ?_⟩
  repeat' (first | (refine And.intro ?_ ?_) | (intro h; try first | exact dz | replace h := cv))
  all_goals (try exact cz)
  refine ⟨[0], [.ptr 0 0 0], [(0, rdB r)], rfl, ⟨.refl _, trivial⟩, ⟨⟨by decide, _, rfl, .refl _⟩, trivial⟩, r, rfl, rfl, rfl, hl, ?_⟩
  generalize truthR r = q at *
  obtain ⟨v, r2⟩ := q
  repeat' (first | (refine And.intro ?_ ?_) | (intro h; try first | exact dz | replace h := cv))
  all_goals (try exact cz)
  exact fin_var (k := 4) (n := 1) (row := encV ⟨(v : Nat), []⟩) rfl rfl rfl ⟨.refl _, .refl _, trivial⟩ (fV _) (by first | rfl | kernel_rfl) rfl hP
 by_cases h2 : k = 2
 ·subst h2
  rw [valR_2] at hP
  repeat' (first | (refine And.intro ?_ ?_) | (intro h; try first | exact dz | replace h := cv))
  all_goals (try exact cz)
  refine ⟨_, .refl _ _ _, _, rfl, ?_⟩
  repeat' (first | (refine And.intro ?_ ?_) | (intro h; try first | exact dz | replace h := cv))
  all_goals (try exact cz)
  refine ⟨[0], [.ptr 0 0 0, .int .i64 ((4 : Nat) : Int)], [(0, rdB r)], rfl, ⟨.refl _, .refl _, trivial⟩, ⟨⟨by decide, _, rfl, .refl _⟩, trivial⟩, r, 4, rfl, rfl, rfl, ⟨by decide, hl⟩, ?_⟩
  generalize fixR 4 r = q at *
  obtain ⟨v, r2⟩ := q
  have hw := wr32 (v : Nat)
  repeat' (first | (refine And.intro ?_ ?_) | (intro h; try first | exact dz | replace h := cv))
  all_goals (try exact cz)
  exact fin_var (k := 4) (n := 1) (row := encV ⟨wr .i32 (v : Nat), []⟩) rfl rfl rfl ⟨wk_int hw, .refl _, trivial⟩ (fV _) (by first | rfl | kernel_rfl) rfl hP
 by_cases h3 : k = 3
 ·subst h3
  rw [valR_3] at hP
  repeat' (first | (refine And.intro ?_ ?_) | (intro h; try first | exact dz | replace h := cv))
  all_goals (try exact cz)
  refine ⟨_, .refl _ _ _, _, rfl, ?_⟩
  repeat' (first | (refine And.intro ?_ ?_) | (intro h; try first | exact dz | replace h := cv))
  all_goals (try exact cz)
  refine ⟨[0], [.ptr 0 0 0, .int .i64 ((8 : Nat) : Int)], [(0, rdB r)], rfl, ⟨.refl _, .refl _, trivial⟩, ⟨⟨by decide, _, rfl, .refl _⟩, trivial⟩, r, 8, rfl, rfl, rfl, ⟨by decide, hl⟩, ?_⟩
  generalize fixR 8 r = q at *
  obtain ⟨v, r2⟩ := q
  repeat' (first | (refine And.intro ?_ ?_) | (intro h; try first | exact dz | replace h := cv))
  all_goals (try exact cz)
  exact fin_var (k := 4) (n := 1) (row := encV ⟨wr .i64 (v : Nat), []⟩) rfl rfl rfl ⟨.refl _, .refl _, trivial⟩ (fV _) (by first | rfl | kernel_rfl) rfl hP
 rw [valR_4 ⟨h1, h2, h3⟩] at hP
 repeat' (first | (refine And.intro ?_ ?_) | (intro h; try first | exact dz | replace h := cv))
 all_goals (try exact cz)
 refine ⟨_, .refl _ _ _, _, rfl, ?_⟩
 repeat' (first | (refine And.intro ?_ ?_) | (intro h; try first | exact dz | replace h := cv))
 all_goals (try exact cz)
 refine ⟨[0], [.ptr 0 0 0, .int .i64 ((100 : Nat) : Int), .int .i64 5], [(0, rdB r)], rfl, ⟨.refl _, .refl _, .refl _, trivial⟩, ⟨⟨by decide, _, rfl, .refl _⟩, trivial⟩, r, 100, 5, rfl, rfl, rfl, ⟨hl, by omega, by decide⟩, ?_⟩
 have l0 := numR_len 100 5 r
 have n0 := numR_le (m := 100) (w := 5) (by decide) r
 generalize numR 100 5 r = q at *
 obtain ⟨v, r2⟩ := q
 have l0 : r2.b.length ≤ r.b.length := l0
 have n0 : v ≤ 100 := n0
 refine ⟨[0], [.ptr 0 0 0, .int .i64 (v : Nat)], [(0, rdB r2)], rfl, ⟨.refl _, .refl _, trivial⟩, ⟨⟨by decide, _, rfl, .refl _⟩, trivial⟩, r2, v, rfl, rfl, rfl, ⟨by omega, by omega⟩, ?_⟩
 replace hP : Post (.agg (encV ⟨0, (takeR v r2).1⟩)) [(0, rdB (takeR v r2).2)] 2 := hP
 generalize takeR v r2 = q at *
 obtain ⟨t, r3⟩ := q
 repeat' (first | (refine And.intro ?_ ?_) | (intro h; try first | exact dz | replace h := cv))
 all_goals (try exact cz)
 ·exact (bytesT t).1
 exact fin_var (k := 4) (n := 1) (row := encV ⟨0, t⟩) rfl rfl rfl ⟨.refl _, wk_str (bytesT t).2, trivial⟩ (fV _) (by first | rfl | kernel_rfl) rfl hP
def S_fval : SpecT := fun args H nx Post => ∃ (k : Int) (r : BR), args = [.ptr 0 0 0, .int .i64 k] ∧ H = [(0, rdB r)] ∧ nx = 1 ∧ r.b.length ≤ 1000000 ∧ Post (.agg (encV (valR k r).1)) [(0, rdB (valR k r).2)] 2
theorem fval_ok [Syms] : S_fval.ok Try.prog 106 := by
 rintro args H nx Post ⟨k, r, rfl, rfl, rfl, h1, h⟩
 exact FnSem.forget (fnT_sound tys_ok fns_ok noneT_det cFv_ok mixed (fval_t k r h1 h))
end Go.Proofs.Ytajieadpaeggcaa

end
section
set_option linter.unusedVariables false
set_option linter.unusedSimpArgs false
namespace Go.Proofs.Ytajieadpaeggcaa
open Go Go.Av
set_option maxRecDepth 100000
set_option maxHeartbeats 4000000
theorem truthR_len (r : BR) : (truthR r).2.b.length ≤ r.b.length := by
 have := fixR_len 1 r
 unfold truthR
 split
 ·show (failR _ _).b.length ≤ _; rw [failR_b]; exact this
 ·exact this
theorem truthR_le (r : BR) : (truthR r).1 ≤ 1 := by
 unfold truthR
 split
 ·exact Nat.zero_le _
 ·omega
theorem wr32u {v : Nat} (h : v < 256 ^ 4) : wr .u32 (v : Int) = (v : Nat) := if_pos ⟨show (0 : Int) ≤ _ by omega, show _ ≤ (4294967295 : Int) by omega⟩
theorem eP (p : Pg) : ∀ x ∈ encP p, x.flat = true := fP [p] _ (List.mem_singleton.2 rfl)
abbrev cFpg : CallT := pickT 57 (specT S_fplain) (pickT 102 (specT S_ffix) noneT)
theorem cFpg_ok [Syms] : cFpg.ok Try.prog := pickT_spec fplain_ok (pickT_spec ffix_ok noneT_ok)
theorem fpage_t [Syms] {Post : AVal → Heap → Nat → Prop} (r : BR) (hl : r.b.length ≤ 1000000) (hP : Post (.agg (encP (pageR r).1)) [(0, rdB (pageR r).2)] 2) :
 fnT noneT cFpg (fnTab fns) (tyTab tys) (plTab plt) 100 103 [.ptr 0 0 0] [(0, rdB r)] 1 (subP Post) := by
 unfold pageR at hP
 dsimp only at hP
 refine ⟨[0], [.ptr 0 0 0], [(0, rdB r)], rfl, ⟨.refl _, trivial⟩, ⟨⟨by decide, _, rfl, .refl _⟩, trivial⟩, r, rfl, rfl, rfl, by omega, ?_⟩
 have l_r1 : (plainR r).2.b.length ≤ r.b.length := numR_len _ _ _
 have n_v1 : (plainR r).1 ≤ 1048576 := numR_le (by decide) _
 generalize plainR r = q at *
 obtain ⟨v1, r1⟩ := q
 replace l_r1 : r1.b.length ≤ r.b.length := l_r1
 replace n_v1 : v1 ≤ 1048576 := n_v1
 dsimp only at hP
 refine ⟨[0], [.ptr 0 0 0], [(0, rdB r1)], rfl, ⟨.refl _, trivial⟩, ⟨⟨by decide, _, rfl, .refl _⟩, trivial⟩, r1, rfl, rfl, rfl, by omega, ?_⟩
 have l_r2 : (plainR r1).2.b.length ≤ r1.b.length := numR_len _ _ _
 have n_v2 : (plainR r1).1 ≤ 1048576 := numR_le (by decide) _
 generalize plainR r1 = q at *
 obtain ⟨v2, r2⟩ := q
 replace l_r2 : r2.b.length ≤ r1.b.length := l_r2
 replace n_v2 : v2 ≤ 1048576 := n_v2
 dsimp only at hP
 refine ⟨[0], [.ptr 0 0 0], [(0, rdB r2)], rfl, ⟨.refl _, trivial⟩, ⟨⟨by decide, _, rfl, .refl _⟩, trivial⟩, r2, rfl, rfl, rfl, by omega, ?_⟩
 have l_r3 : (plainR r2).2.b.length ≤ r2.b.length := numR_len _ _ _
 have n_v3 : (plainR r2).1 ≤ 1048576 := numR_le (by decide) _
 generalize plainR r2 = q at *
 obtain ⟨v3, r3⟩ := q
 replace l_r3 : r3.b.length ≤ r2.b.length := l_r3
 replace n_v3 : v3 ≤ 1048576 := n_v3
 dsimp only at hP
 refine ⟨[0], [.ptr 0 0 0], [(0, rdB r3)], rfl, ⟨.refl _, trivial⟩, ⟨⟨by decide, _, rfl, .refl _⟩, trivial⟩, r3, rfl, rfl, rfl, by omega, ?_⟩
 have l_r4 : (plainR r3).2.b.length ≤ r3.b.length := numR_len _ _ _
 have n_v4 : (plainR r3).1 ≤ 1048576 := numR_le (by decide) _
 generalize plainR r3 = q at *
 obtain ⟨v4, r4⟩ := q
 replace l_r4 : r4.b.length ≤ r3.b.length := l_r4
 replace n_v4 : v4 ≤ 1048576 := n_v4
 dsimp only at hP
 refine ⟨[0], [.ptr 0 0 0], [(0, rdB r4)], rfl, ⟨.refl _, trivial⟩, ⟨⟨by decide, _, rfl, .refl _⟩, trivial⟩, r4, rfl, rfl, rfl, by omega, ?_⟩
 have l_r5 : (plainR r4).2.b.length ≤ r4.b.length := numR_len _ _ _
 have n_v5 : (plainR r4).1 ≤ 1048576 := numR_le (by decide) _
 generalize plainR r4 = q at *
 obtain ⟨v5, r5⟩ := q
 replace l_r5 : r5.b.length ≤ r4.b.length := l_r5
 replace n_v5 : v5 ≤ 1048576 := n_v5
 dsimp only at hP
 refine ⟨[0], [.ptr 0 0 0], [(0, rdB r5)], rfl, ⟨.refl _, trivial⟩, ⟨⟨by decide, _, rfl, .refl _⟩, trivial⟩, r5, rfl, rfl, rfl, by omega, ?_⟩
 have l_r6 : (plainR r5).2.b.length ≤ r5.b.length := numR_len _ _ _
 have n_v6 : (plainR r5).1 ≤ 1048576 := numR_le (by decide) _
 generalize plainR r5 = q at *
 obtain ⟨v6, r6⟩ := q
 replace l_r6 : r6.b.length ≤ r5.b.length := l_r6
 replace n_v6 : v6 ≤ 1048576 := n_v6
 dsimp only at hP
 repeat' (first | (refine And.intro ?_ ?_) | (intro h; try first | exact dz | replace h := cv))
 all_goals (try exact cz)
 refine ⟨[0], [.ptr 0 0 0, .int .i64 ((4 : Nat) : Int)], [(0, rdB r6)], rfl, ⟨.refl _, .refl _, trivial⟩, ⟨⟨by decide, _, rfl, .refl _⟩, trivial⟩, r6, 4, rfl, rfl, rfl, ⟨by decide, by omega⟩, ?_⟩
 have l_r7 : (fixR 4 r6).2.b.length ≤ r6.b.length := fixR_len _ _
 have n_v7 : (fixR 4 r6).1 < 256 ^ 4 := fixR_lt _ _
 generalize fixR 4 r6 = q at *
 obtain ⟨v7, r7⟩ := q
 replace l_r7 : r7.b.length ≤ r6.b.length := l_r7
 replace n_v7 : v7 < 256 ^ 4 := n_v7
 dsimp only at hP
 repeat' (first | (refine And.intro ?_ ?_) | (intro h; try first | exact dz | replace h := cv))
 all_goals (try exact cz)
 exact fin_var (k := 2) (n := 1) (row := encP ⟨v1, v2, v3, v4, v5, v6, v7⟩) rfl rfl rfl ⟨.refl _, .refl _, .refl _, .refl _, .refl _, .refl _, wk_int (wr32u n_v7), trivial⟩ (eP _) (by first | rfl | kernel_rfl) rfl hP
def S_fpage : SpecT := fun args H nx Post => ∃ (r : BR), args = [.ptr 0 0 0] ∧ H = [(0, rdB r)] ∧ nx = 1 ∧ r.b.length ≤ 1000000 ∧ Post (.agg (encP (pageR r).1)) [(0, rdB (pageR r).2)] 2
theorem fpage_ok [Syms] : S_fpage.ok Try.prog 103 := by
 rintro args H nx Post ⟨r, rfl, rfl, rfl, h1, h⟩
 exact FnSem.forget (fnT_sound tys_ok fns_ok noneT_det cFpg_ok mixed (fpage_t r h1 h))
end Go.Proofs.Ytajieadpaeggcaa

end
