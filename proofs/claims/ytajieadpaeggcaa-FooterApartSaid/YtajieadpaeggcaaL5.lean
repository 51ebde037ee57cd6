/-
  'name': is a text a name? The program's; a field's check. 'check': what is wrong with one field. 'Check': what is wrong with a shape.
-/
import Derived.Test.YtajieadpaeggcaaL3
import Derived.Test.YtajieadpaeggcaaL2
import Derived.Laws.RangeAny
import Derived.Test.YtajieadpaeggcaaL1
import Derived.Test.YtajieadpaeggcaaSxOne
set_option linter.unusedVariables false
set_option linter.unusedSimpArgs false
section
set_option linter.unusedVariables false
set_option linter.unusedSimpArgs false
namespace Go.Proofs.Ytajieadpaeggcaa
open Go Go.Av
set_option maxRecDepth 100000
set_option maxHeartbeats 4000000
def nmS (s : List UInt8) (k : Nat) : St := ⟨[(0, .str s), (14, .obj 0)], [(0, some (.iter s k))], 1⟩
theorem eqb_nil {s : List UInt8} (h : s ≠ []) : eqb s [] = false := by
 cases s with
 | nil => exact absurd rfl h
 | cons a l => rfl
theorem dec_low {s : List UInt8} {k : Nat} (hk : k < s.length) (ha : (s.getD k 0).toNat < 128) : Utf8.decode ⟨⟨s⟩⟩ k = ((s.getD k 0).toNat, 1) := by
 have e : s.getD k 0 = s[k] := by simp [hk]
 have := decode_ascii ⟨⟨s⟩⟩ k hk (by rw [e] at ha; exact ha)
 rw [this, e]; rfl
theorem dec_high {s : List UInt8} {k : Nat} (hk : k < s.length) (ha : 128 ≤ (s.getD k 0).toNat) : 128 ≤ (Utf8.decode ⟨⟨s⟩⟩ k).1 ∧ 1 ≤ (Utf8.decode ⟨⟨s⟩⟩ k).2 := by
 have e : s.getD k 0 = s[k] := by simp [hk]
 exact decode_high ⟨⟨s⟩⟩ k hk (by rw [e] at ha; exact ha)
/-- A name's sign at a place. -/
def okAt (s : List UInt8) (k : Nat) : Bool := signF (s.getD k 0) && (decide (0 < k) || letterF (s.getD k 0))
theorem nameF_of {s : List UInt8} (h0 : s ≠ []) (hl : ¬ 12 < s.length) : nameF s = true ↔ ∀ k, k < s.length → okAt s k = true := by
 have hp : 0 < s.length := List.length_pos_iff.2 h0
 have e0 : s.headD 0 = s.getD 0 0 := by cases s with | nil => exact absurd rfl h0 | cons a l => rfl
 rw [nameF, decide_eq_true (show 1 ≤ s.length by omega), decide_eq_true (show s.length ≤ 12 by omega), Bool.true_and, Bool.true_and, Bool.and_eq_true, List.all_eq_true, e0]
 constructor
 ·rintro ⟨h1, h2⟩ k hk
  have := h2 (s.getD k 0) (by rw [List.getD_eq_getElem?_getD, List.getElem?_eq_getElem hk]; exact List.getElem_mem hk)
  rw [okAt, this, Bool.true_and, Bool.or_eq_true]
  by_cases hk0 : 0 < k
  ·exact .inl (decide_eq_true hk0)
  ·obtain rfl : k = 0 := by omega
   exact .inr h1
 ·intro h
  refine ⟨?_, fun c hc => ?_⟩
  ·have := h 0 hp
   rw [okAt, Bool.and_eq_true, Bool.or_eq_true] at this
   rcases this.2 with h | h
   ·exact absurd (of_decide_eq_true h) (by omega)
   ·exact h
  ·obtain ⟨k, hk, rfl⟩ := List.getElem_of_mem hc
   have := h k hk
   rw [okAt, Bool.and_eq_true] at this
   have e : s.getD k 0 = s[k] := by simp [hk]
   rw [e] at this
   exact this.1
theorem okAt_num (s : List UInt8) (k : Nat) : okAt s k = true ↔ (97 ≤ (s.getD k 0).toNat ∧ (s.getD k 0).toNat ≤ 122) ∨ (0 < k ∧ ((48 ≤ (s.getD k 0).toNat ∧ (s.getD k 0).toNat ≤ 57) ∨ (s.getD k 0).toNat = 95)) := by
 simp only [okAt, signF, letterF, Bool.and_eq_true, Bool.or_eq_true, decide_eq_true_eq]
 omega
theorem nameF_no {s : List UInt8} {k : Nat} (h0 : s ≠ []) (hl : ¬ 12 < s.length) (hk : k < s.length) (h : ¬ ((97 ≤ (s.getD k 0).toNat ∧ (s.getD k 0).toNat ≤ 122) ∨ (0 < k ∧ ((48 ≤ (s.getD k 0).toNat ∧ (s.getD k 0).toNat ≤ 57) ∨ (s.getD k 0).toNat = 95)))) : nameF s = false := by
 refine Bool.eq_false_iff.2 fun hn => h ?_
 exact (okAt_num s k).1 ((nameF_of h0 hl).1 hn k hk)
theorem name_t [Syms] (s : List UInt8) (hs : s.length ≤ 1000) :
 fnT noneT noneT (fnTab fns) (tyTab tys) (plTab plt) 100 113 [.str s] [] 0 (fun v H _ => v = .bool (nameF s) ∧ H = []) := by
 by_cases h0 : s = []
 ·subst h0
  refine And.intro (fun _ => ?_) (fun h => absurd (show true = false from h) (by decide))
  refine And.intro (fun _ => ?_) (fun h => absurd (show true = false from h) (by decide))
  exact ⟨_, reb_flat [2] rfl, _, rfl, rfl, rfl⟩
 have hl0 : 0 < s.length := List.length_pos_iff.2 h0
 have hx1 := eqb_nil h0
 by_cases hl : 12 < s.length
 ·have hn : nameF s = false := by rw [nameF, decide_eq_false (show ¬ s.length ≤ 12 by omega)]; simp
  rw [hn]
  repeat' (first | (refine And.intro ?_ ?_) | (intro h; try first | exact dzh | replace h := cvh))
  all_goals (try exact cz)
  exact ⟨_, reb_flat [2] rfl, _, rfl, rfl, rfl⟩
 ·repeat' (first | (refine And.intro ?_ ?_) | (intro h; try first | exact dzh | replace h := cvh))
  all_goals (try exact cz)
  refine ⟨fun m st => ∃ k : Nat, (k ≤ s.length ∧ m = s.length - k ∧ ∀ j, j < k → okAt s j = true) ∧ st = nmS s k, ⟨_, nmS s 0, reb_num [0] rfl ⟨.refl _, .refl _, trivial⟩ ⟨⟨by decide, _, rfl, .refl _⟩, trivial⟩, 0, ⟨by omega, rfl, fun j h => by omega⟩, rfl⟩, ?_⟩
  rintro m st ⟨k, ⟨hk, rfl, hj⟩, rfl⟩
  by_cases hin : k < s.length
  ·have hnext : okAt s k = true → ∀ j, j < k + 1 → okAt s j = true := fun h j hlt => by
    rcases Nat.lt_or_ge j k with h' | h'
    ·exact hj j h'
    ·obtain rfl : j = k := by omega
     exact h
   have hok := okAt_num s k
   have hno := nameF_no (k := k) h0 hl hin
   by_cases hb : (s.getD k 0).toNat < 128
   ·have hd := dec_low hin hb
    generalize (s.getD k 0).toNat = c at *
    by_cases hc : (97 ≤ c ∧ c ≤ 122) ∨ (0 < k ∧ ((48 ≤ c ∧ c ≤ 57) ∨ c = 95))
    ·have hnx := hnext (hok.2 hc)
     have hx1 := congrArg Prod.fst hd
     have hx2 := congrArg Prod.snd hd
     simp only at hx1 hx2
     rcases hc with hc | ⟨hc1, hc2 | hc2⟩
     all_goals
      repeat' (first | (refine And.intro ?_ ?_) | (intro h; try first | exact dz | replace h := cv))
      all_goals (try exact cz)
      exact ⟨_, nmS s (k + 1), reb_num [0] rfl ⟨.refl _, .refl _, trivial⟩ ⟨⟨by decide, _, rfl, by rw [hx2]; exact .refl _⟩, trivial⟩, ⟨k + 1, ⟨by omega, rfl, hnx⟩, rfl⟩, by omega⟩
    ·have hnn := hno hc
     have hx1 := congrArg Prod.fst hd
     have hx2 := congrArg Prod.snd hd
     simp only at hx1 hx2
     rw [hnn]
     repeat' (first | (refine And.intro ?_ ?_) | (intro h; try first | exact dz | replace h := cv))
     all_goals (try exact cz)
     all_goals exact ⟨_, reb_flat [2] rfl, _, rfl, rfl, rfl⟩
   ·have hd := dec_high hin (by omega)
    have hnn := hno (by omega)
    rw [hnn]
    repeat' (first | (refine And.intro ?_ ?_) | (intro h; try first | exact dz | replace h := cv))
    all_goals (try exact cz)
    all_goals exact ⟨_, reb_flat [2] rfl, _, rfl, rfl, rfl⟩
  ·have hn : nameF s = true := (nameF_of h0 hl).2 fun j hjl => hj j (by omega)
   rw [hn]
   repeat' (first | (refine And.intro ?_ ?_) | (intro h; try first | exact dzh | replace h := cvh))
   all_goals (try exact cz)
   exact ⟨_, reb_flat [2] rfl, _, rfl, rfl, rfl⟩
end Go.Proofs.Ytajieadpaeggcaa

end
section
set_option linter.unusedVariables false
set_option linter.unusedSimpArgs false
namespace Go.Proofs.Ytajieadpaeggcaa
open Go Go.Av
set_option maxRecDepth 100000
set_option maxHeartbeats 4000000
def S_name : SpecI := fun args K => ∃ s, args = [.str s] ∧ s.length ≤ 1000 ∧ K (.bool (nameF s))
theorem name_ok [Syms] : ImmOk Try.prog 113 S_name := by
 rintro args K ⟨s, rfl, h, hk⟩
 exact ⟨rfl, _, rfl, hk, fnI tys_ok fns_ok noneT_det noneT_ok mixed (name_t s h)⟩
def S_twin : SpecI := fun args K => ∃ (fs : List Fd) (ps : List Int) (i : Nat), args = [vF fs, vI ps, .int .i64 i] ∧ (i < fs.length ∧ ps.length = fs.length ∧ fs.length < 1000) ∧ K (.bool (twinF fs ps i))
theorem twin_ok [Syms] : ImmOk Try.prog 114 S_twin := by
 rintro args K ⟨fs, ps, i, rfl, ⟨h1, h2, h3⟩, hk⟩
 exact ⟨rfl, _, rfl, hk, fnI tys_ok fns_ok noneT_det noneT_ok mixed (twin_t fs ps i h1 h2 h3)⟩
abbrev cCk : CallT := pickT 113 (immT S_name) (pickT 114 (immT S_twin) noneT)
theorem cCk_ok [Syms] : cCk.ok Try.prog := pickT_imm_ok name_ok (pickT_imm_ok twin_ok noneT_ok)
theorem cCk_det [Syms] : cCk.det Try.prog := pickT_imm name_ok (pickT_imm twin_ok noneT_det)
theorem check_t [Syms] (fs : List Fd) (ps : List Int) (i : Nat) (dep : Int) (hi : i < fs.length) (hp : ps.length = fs.length) (hl : fs.length < 1000) (hnl : (fs.getD i default).name.length ≤ 1000) :
 fnT cCk cCk (fnTab fns) (tyTab tys) (plTab plt) 100 101 [vF fs, vI ps, .int .i64 i, .int .i64 dep] [] 0 (fun v H _ => v = .int .i64 (chkAt fs ps i dep) ∧ H = []) := by
 generalize he : chkAt fs ps i dep = e
 unfold chkAt chk1 at he
 cases hnm : nameF (fs.getD i default).name
 ·simp only [hnm, reduceCtorEq, or_true, or_false, true_or, false_or, if_true, if_false] at he
  refine .inl ?_
  repeat' (first | (refine And.intro ?_ ?_) | (intro h; try first | exact dz | replace h := cv))
  all_goals (try exact cz)
  all_goals (try (refine ⟨_, reb_flat [8] rfl, _, rfl, congrArg (AVal.int .i64) ?_, rfl⟩; (repeat' (split at he)) <;> omega))
  all_goals (refine ⟨(fs.getD i default).name, rfl, hnl, ?_⟩; rw [hnm])
  all_goals
   repeat' (first | (refine And.intro ?_ ?_) | (intro h; try first | exact dz | replace h := cv))
   all_goals (try exact cz)
  all_goals (try (refine ⟨_, reb_flat [8] rfl, _, rfl, congrArg (AVal.int .i64) ?_, rfl⟩; (repeat' (split at he)) <;> omega))
 cases htw : twinF fs ps i
 all_goals
  simp only [hnm, htw, reduceCtorEq, or_true, or_false, true_or, false_or, if_true, if_false] at he
  refine .inl ?_
  repeat' (first | (refine And.intro ?_ ?_) | (intro h; try first | exact dz | replace h := cv))
  all_goals (try exact cz)
 all_goals (try (refine ⟨_, reb_flat [8] rfl, _, rfl, congrArg (AVal.int .i64) ?_, rfl⟩; (repeat' (split at he)) <;> omega))
 all_goals (refine ⟨(fs.getD i default).name, rfl, hnl, ?_⟩; rw [hnm])
 all_goals
  repeat' (first | (refine And.intro ?_ ?_) | (intro h; try first | exact dz | replace h := cv))
  all_goals (try exact cz)
 all_goals (try (refine ⟨_, reb_flat [8] rfl, _, rfl, congrArg (AVal.int .i64) ?_, rfl⟩; (repeat' (split at he)) <;> omega))
 all_goals (refine ⟨fs, ps, i, rfl, ⟨hi, hp, hl⟩, ?_⟩; rw [htw])
 all_goals
  repeat' (first | (refine And.intro ?_ ?_) | (intro h; try first | exact dz | replace h := cv))
  all_goals (try exact cz)
 all_goals (try have q0 : (fs.getD i default).rep < 0 := by assumption)
 all_goals (try have q1 : 0 ≤ (fs.getD i default).rep := by assumption)
 all_goals (try have q2 : 2 < (fs.getD i default).rep := by assumption)
 all_goals (try have q3 : (fs.getD i default).rep ≤ 2 := by assumption)
 all_goals (try have q4 : (fs.getD i default).kind < 0 := by assumption)
 all_goals (try have q5 : 0 ≤ (fs.getD i default).kind := by assumption)
 all_goals (try have q6 : 4 < (fs.getD i default).kind := by assumption)
 all_goals (try have q7 : (fs.getD i default).kind ≤ 4 := by assumption)
 all_goals (try have q8 : (fs.getD i default).rep = 0 := by assumption)
 all_goals (try have q9 : ¬ (fs.getD i default).rep = 0 := by assumption)
 all_goals (try have q10 : (fs.getD i default).kind = 0 := by assumption)
 all_goals (try have q11 : ¬ (fs.getD i default).kind = 0 := by assumption)
 all_goals (try have q12 : (fs.getD i default).kids < 1 := by assumption)
 all_goals (try have q13 : 1 ≤ (fs.getD i default).kids := by assumption)
 all_goals (try have q14 : (fs.getD i default).kids = 0 := by assumption)
 all_goals (try have q15 : ¬ (fs.getD i default).kids = 0 := by assumption)
 all_goals (try (refine ⟨_, reb_flat [8] rfl, _, rfl, congrArg (AVal.int .i64) ?_, rfl⟩; (repeat' (split at he)) <;> omega))
def S_check1 : SpecI := fun args K => ∃ (fs : List Fd) (ps : List Int) (i : Nat) (dep : Int), args = [vF fs, vI ps, .int .i64 i, .int .i64 dep] ∧ (i < fs.length ∧ ps.length = fs.length ∧ fs.length < 1000 ∧ (fs.getD i default).name.length ≤ 1000) ∧ K (.int .i64 (chkAt fs ps i dep))
theorem check1_ok [Syms] : ImmOk Try.prog 101 S_check1 := by
 rintro args K ⟨fs, ps, i, dep, rfl, ⟨h1, h2, h3, h4⟩, hk⟩
 exact ⟨rfl, _, rfl, hk, fnI tys_ok fns_ok cCk_det cCk_ok mixed (check_t fs ps i dep h1 h2 h3 h4)⟩
end Go.Proofs.Ytajieadpaeggcaa

end
section
set_option linter.unusedVariables false
set_option linter.unusedSimpArgs false
namespace Go.Proofs.Ytajieadpaeggcaa
open Go Go.Av
set_option maxRecDepth 100000
set_option maxHeartbeats 4000000
abbrev c36 : CallT := pickT 101 (immT S_check1) noneT
theorem c36_ok [Syms] : c36.ok Try.prog := pickT_imm_ok check1_ok noneT_ok
abbrev cChk [Syms] : CallT := pickT 94 (tB noneT (pickT 100 (tB noneT c36) noneT)) (pickT 73 (immT S_par) noneT)
theorem cChk_ok [Syms] : cChk.ok Try.prog := pickT_ok (bodyT_ok tys_ok fns_ok noneT_det (pickT_ok (bodyT_ok tys_ok fns_ok noneT_det c36_ok mixed) noneT_ok) mixed) (pickT_imm_ok par_ok noneT_ok)
abbrev fnCk : AVal := .func 100 [.ptr 0 0 0, .ptr 2 0 0, .ptr 1 0 0]
def ckE (fs : List Fd) (i : Nat) (l : AVal) : Env := [(0, vF fs), (1, fnCk), (4, .bool false), (5, l), (12, vF fs), (13, .int .i64 fs.length), (14, .int .i64 i)]
def ckA (fs : List Fd) (i : Nat) : St := ⟨ckE fs i .nils, [(0, some (.cells [[vF fs]] false)), (1, some (.cells [[.int .i64 0]] false)), (2, some (.cells [[vI (parentsF fs)]] false))], 4⟩
def ckC (fs : List Fd) (i : Nat) (st : Stk) (junk : List (List AVal)) : St := ⟨ckE fs i (.slice 4 0 st.length 2 none), [(0, some (.cells [[vF fs]] false)), (1, some (.cells [[.int .i64 0]] false)), (2, some (.cells [[vI (parentsF fs)]] false)), (4, some (.cells (st.reverse.map encG ++ junk) false))], 5⟩
def ckI (fs : List Fd) (i m : Nat) (R : List (List AVal)) : St := ⟨[(0, vF fs), (1, fnCk), (4, .bool false), (5, .slice 4 0 m 2 none), (6, .int .i64 i), (7, .ptr 5 0 0), (12, vF fs), (13, .int .i64 fs.length), (14, .int .i64 i)], [(0, some (.cells [[vF fs]] false)), (1, some (.cells [[.int .i64 0]] false)), (2, some (.cells [[vI (parentsF fs)]] false)), (4, some (.cells R false)), (5, some (.cells [encF (fs.getD i default)] false))], 6⟩
def ckJ (fs : List Fd) (j : Nat) (st : Stk) (R : List (List AVal)) (b : Bool) : St := ⟨[(4, .bool b), (74, .slice 4 0 st.length 2 none), (75, .int .i64 st.length), (76, .int .i64 j)], [(0, some (.cells [[vF fs]] false)), (1, some (.cells [[.int .i64 0]] false)), (2, some (.cells [[vI (parentsF fs)]] false)), (4, some (.cells R false))], 5⟩
theorem fin_e [Syms] {N : Nat} {e : Env} {H : Heap} {nx : Nat} {x : Int} (h2 : e.get 2 = .ptr 1 0 0) (hb : H.get 1 = some (.cells [[.int .i64 x]] false)) : Reb 0 N ⟨e, H, nx⟩ ⟨[(2, .vp [.int .i64 x] 0)], [], nx⟩ :=
 reb_freezeG (n := 1) (rows := [[.int .i64 x]]) hb (fun q hq y hy => by simp at hq; subst hq; simp at hy; subst hy; rfl) ⟨by rw [h2]; exact .pt 0 0 _ [.int .i64 x] rfl ⟨.same _, trivial⟩, trivial⟩ trivial
theorem wk_bool {a b : Bool} (h : a = b) : WkV (.bool a) (.bool b) := h ▸ .refl _
/-- Behind 'do': what is wrong lies in its box. -/
def ckR (fs : List Fd) (i : Nat) (e : Int) : St := ⟨[(9, .bool (decide (e = 0)))], [(0, some (.cells [[vF fs]] false)), (1, some (.cells [[.int .i64 e]] false)), (2, some (.cells [[vI (parentsF fs)]] false)), (4, some (.cells [encF (fs.getD i default)] false))], 6⟩
def ckR2 (fs : List Fd) (i n : Nat) (e : Int) (R : List (List AVal)) : St := ⟨[(9, .bool (decide (e = 0)))], [(0, some (.cells [[vF fs]] false)), (1, some (.cells [[.int .i64 e]] false)), (2, some (.cells [[vI (parentsF fs)]] false)), (4, some (.cells R false)), (5, some (.cells [encF (fs.getD i default)] false))], n⟩
theorem openS_take {l : Stk} {j : Nat} (h : j < l.length) : openS (l.take (j + 1)) = (openS (l.take j) || decide (0 < (l.getD j default).2)) := by
 rw [List.take_succ_eq_append_getElem h, openS, openS, List.any_append]
 simp [List.getD_eq_getElem?_getD, h]
theorem depth_at {fs : List Fd} {i : Nat} {st : Stk} (h : i < fs.length) (hw : wrun (fs.drop i) i st = (wrun fs 0 []).drop i) : (depthsF fs).getD i 0 = ((popZ st).length : Int) ∧ wrun (fs.drop (i + 1)) (i + 1) (pushS i (fs.getD i default) (decS (popZ st))) = (wrun fs 0 []).drop (i + 1) := by
 have hl : i < (wrun fs 0 []).length := by rw [wrun_length]; exact h
 rw [wrun_at h, List.drop_eq_getElem_cons hl] at hw
 injection hw with h1 h2
 refine ⟨?_, h2⟩
 rw [depthsF, List.getD_eq_getElem?_getD, List.getElem?_map, List.getElem?_eq_getElem hl, ← h1]; rfl
theorem wfin_at {fs : List Fd} {i : Nat} {st : Stk} (h : i < fs.length) : wfin (fs.drop i) i st = wfin (fs.drop (i + 1)) (i + 1) (pushS i (fs.getD i default) (decS (popZ st))) := by
 rw [drop_at h]; rfl
theorem schk_t [Syms] (fs : List Fd) (hF : FsOk fs) :
 fnT noneT cChk (fnTab fns) (tyTab tys) (plTab plt) 100 83 [vF fs] [] 0 (fun v H _ => v = .int .i64 (checkF fs) ∧ H = []) := by
 have hl := hF.len
 by_cases hn : fs.length < 1 ∨ 40 < fs.length
 ·have he : checkF fs = 4 := by rw [checkF, if_pos hn]
  rw [he]
  repeat' (first | (refine And.intro ?_ ?_) | (intro h; try first | exact dz | replace h := cv))
  all_goals (try exact cz)
  all_goals exact ⟨_, fin_e rfl rfl, _, rfl, rfl, rfl⟩
 have hk := hF.kids
 have hpl := parents_length fs
 have hlast : checkF fs = if chkFrom fs 0 fs.length ≠ 0 then chkFrom fs 0 fs.length else if openS (wfin fs 0 []) = true then 1 else 0 := by rw [checkF, if_neg hn]
 repeat' (first | (refine And.intro ?_ ?_) | (intro h; try first | exact dz | replace h := cv))
 all_goals (try exact cz)
 refine ⟨fs, rfl, hF, ?_⟩
 repeat' (first | (refine And.intro ?_ ?_) | (intro h; try first | exact dz | replace h := cv))
 all_goals (try exact cz)
 refine ⟨fun n s => ∃ (i : Nat) (st : Stk), (i ≤ fs.length ∧ n = fs.length - i ∧ chkFrom fs i (fs.length - i) = chkFrom fs 0 fs.length ∧ wrun (fs.drop i) i st = (wrun fs 0 []).drop i ∧ wfin (fs.drop i) i st = wfin fs 0 [] ∧ (∀ p ∈ st, p.2 ≤ 9223372036854775807) ∧ st.length ≤ i) ∧ ((st = [] ∧ s = ckA fs i) ∨ (∃ junk, flatRows junk ∧ s = ckC fs i st junk)),
  ⟨_, ckA fs 0, reb_num [0, 1, 2, 3] rfl ?_ ?_, 0, [], ⟨by omega, rfl, rfl, rfl, rfl, by simp, by simp⟩, .inl ⟨rfl, rfl⟩⟩, ?_⟩
 ·exact ⟨.refl _, .refl _, .refl _, .refl _, .refl _, .refl _, .refl _, trivial⟩
 ·exact ⟨⟨by decide, _, rfl, .refl _⟩, ⟨by decide, _, rfl, .refl _⟩, ⟨by decide, _, rfl, .refl _⟩, trivial⟩
 rintro n s ⟨i, st, ⟨hi, rfl, hc, hw, hfin, hb, hsl⟩, (⟨rfl, rfl⟩ | ⟨junk, hj, rfl⟩)⟩
 ·by_cases hin : i < fs.length
  ·have hnm := hF.name i
   obtain ⟨hd, hw'⟩ := depth_at hin hw
   rw [wfin_at hin] at hfin
   rw [chkFrom_step hin] at hc
   have hdd : ((popZ []).length : Int) = 0 := rfl
   rw [hdd] at hd
   rw [hd] at hc
   have hps : popZ [] = ([] : Stk) := rfl
   rw [hps] at hw' hfin
   repeat' (first | (refine And.intro ?_ ?_) | (intro h; try first | exact dz | replace h := cv))
   all_goals (try exact cz)
   refine loop_once ?_
   repeat' (first | (refine And.intro ?_ ?_) | (intro h; try first | exact dz | replace h := cv))
   all_goals (try exact cz)
   refine ⟨fs, parentsF fs, i, 0, rfl, ⟨hin, hpl, hl, hnm⟩, ?_⟩
   generalize hz : chkAt fs (parentsF fs) i 0 = e at *
   by_cases he : e = 0
   ·rw [if_neg (fun h => h he)] at hc
    subst he
    repeat' (first | (refine And.intro ?_ ?_) | (intro h; try first | exact dz | replace h := cv))
    all_goals (try exact cz)
    all_goals refine ⟨ckR fs i 0, reb_num [0, 1, 2, 3, 4, 5] rfl ⟨.refl _, trivial⟩ ⟨⟨by decide, _, rfl, .refl _⟩, ⟨by decide, _, rfl, .refl _⟩, ⟨by decide, _, rfl, .refl _⟩, ⟨by decide, _, rfl, .refl _⟩, trivial⟩, _, rfl, ?_⟩
    by_cases hg : (fs.getD i default).kind = 0
    ·repeat' (first | (refine And.intro ?_ ?_) | (intro h; try first | exact dz | replace h := cv))
     all_goals (try exact cz)
     have hpu : pushS i (fs.getD i default) (decS []) = [((i : Int), (fs.getD i default).kids)] := by rw [pushS, if_pos hg]; rfl
     rw [hpu] at hw' hfin
     refine ⟨_, ckC fs (i + 1) [((i : Int), (fs.getD i default).kids)] [], reb_num [0, 1, 2, 3, 7] (by first | rfl | kernel_rfl) ⟨.refl _, .refl _, .refl _, .refl _, .refl _, .refl _, .refl _, trivial⟩ ⟨⟨by decide, _, rfl, .refl _⟩, ⟨by decide, _, rfl, .refl _⟩, ⟨by decide, _, rfl, .refl _⟩, ⟨by decide, _, rfl, wkB_eq rfl (flat_append (fG _) flat_nil)⟩, trivial⟩, ⟨i + 1, _, ⟨by omega, rfl, hc, hw', hfin, ?_, by simp⟩, .inr ⟨[], flat_nil, rfl⟩⟩, by omega⟩
     intro p hp; simp at hp; subst hp; exact hk i
    ·repeat' (first | (refine And.intro ?_ ?_) | (intro h; try first | exact dz | replace h := cv))
     all_goals (try exact cz)
     have hpu : pushS i (fs.getD i default) (decS []) = [] := by rw [pushS, if_neg hg]; rfl
     rw [hpu] at hw' hfin
     exact ⟨_, ckA fs (i + 1), reb_num [0, 1, 2, 3] (by first | rfl | kernel_rfl) ⟨.refl _, .refl _, .refl _, .refl _, .refl _, .refl _, .refl _, trivial⟩ ⟨⟨by decide, _, rfl, .refl _⟩, ⟨by decide, _, rfl, .refl _⟩, ⟨by decide, _, rfl, .refl _⟩, trivial⟩, ⟨i + 1, [], ⟨by omega, rfl, hc, hw', hfin, by simp, by simp⟩, .inl ⟨rfl, rfl⟩⟩, by omega⟩
   ·rw [if_pos he] at hc
    repeat' (first | (refine And.intro ?_ ?_) | (intro h; try first | exact dz | replace h := cv))
    all_goals (try exact cz)
    all_goals refine ⟨ckR fs i e, reb_num [0, 1, 2, 3, 4, 5] rfl ⟨.refl _, trivial⟩ ⟨⟨by decide, _, rfl, .refl _⟩, ⟨by decide, _, rfl, .refl _⟩, ⟨by decide, _, rfl, .refl _⟩, ⟨by decide, _, rfl, .refl _⟩, trivial⟩, _, rfl, ?_⟩
    repeat' (first | (refine And.intro ?_ ?_) | (intro h; try first | exact dz | replace h := cv))
    all_goals (try exact cz)
    refine ⟨_, .refl _ _ _, _, rfl, ?_⟩
    repeat' (first | (refine And.intro ?_ ?_) | (intro h; try first | exact dz | replace h := cv))
    all_goals (try exact cz)
    rw [if_pos (by rw [← hc]; exact he), ← hc] at hlast
    rw [hlast]
    exact ⟨_, fin_e rfl rfl, _, rfl, rfl, rfl⟩
  ·obtain rfl : i = fs.length := by omega
   rw [List.drop_of_length_le (Nat.le_refl _)] at hfin
   have hc0 : chkFrom fs 0 fs.length = 0 := by rw [← hc, Nat.sub_self]; rfl
   have hop : openS (wfin fs 0 []) = false := by rw [← hfin]; rfl
   rw [hc0, hop] at hlast
   rw [show checkF fs = 0 from hlast]
   repeat' (first | (refine And.intro ?_ ?_) | (intro h; try first | exact dz | replace h := cv))
   all_goals (try exact cz)
   refine loop_once ?_
   repeat' (first | (refine And.intro ?_ ?_) | (intro h; try first | exact dz | replace h := cv))
   all_goals (try exact cz)
   refine ⟨_, .refl _ _ _, _, rfl, ?_⟩
   repeat' (first | (refine And.intro ?_ ?_) | (intro h; try first | exact dz | replace h := cv))
   all_goals (try exact cz)
   exact ⟨_, fin_e rfl rfl, _, rfl, rfl, rfl⟩
 ·by_cases hin : i < fs.length
  ·have hnm := hF.name i
   obtain ⟨hd, hw'⟩ := depth_at hin hw
   rw [wfin_at hin] at hfin
   rw [chkFrom_step hin, hd] at hc
   repeat' (first | (refine And.intro ?_ ?_) | (intro h; try first | exact dz | replace h := cv))
   all_goals (try exact cz)
   refine ⟨fun n s => ∃ (st1 : Stk) (junk1 : List (List AVal)) (m : Nat), (n = m ∧ m = st1.length ∧ popZ st1 = popZ st ∧ st1.reverse.map encG ++ junk1 = st.reverse.map encG ++ junk ∧ flatRows junk1 ∧ (∀ p ∈ st1, p.2 ≤ 9223372036854775807) ∧ st1.length ≤ st.length) ∧ s = ckI fs i m (st.reverse.map encG ++ junk), ⟨_, ckI fs i st.length (st.reverse.map encG ++ junk), reb_num [0, 1, 2, 3, 4, 5] (by first | rfl | kernel_rfl) ⟨.refl _, .refl _, .refl _, .refl _, .refl _, .refl _, .refl _, .refl _, .refl _, trivial⟩ ⟨⟨by decide, _, rfl, .refl _⟩, ⟨by decide, _, rfl, .refl _⟩, ⟨by decide, _, rfl, .refl _⟩, ⟨by decide, _, rfl, wkB_same (flat_append (fG _) hj)⟩, ⟨by decide, _, rfl, .refl _⟩, trivial⟩, st, junk, st.length, ⟨rfl, rfl, rfl, rfl, hj, hb, Nat.le_refl _⟩, rfl⟩, ?_⟩
   rintro n s ⟨st1, junk1, m, ⟨rfl, hm, hp1, hR, hj1, hb1, hl1⟩, rfl⟩
   generalize st.reverse.map encG ++ junk = R at hR ⊢
   cases st1 with
   | nil =>
     obtain rfl : n = 0 := hm
     have hst : popZ st = [] := hp1.symm
     have hRf : flatRows R := hR ▸ flat_append (fG []) hj1
     have hdd : ((popZ st).length : Int) = 0 := by rw [hst]; rfl
     rw [hdd] at hc
     rw [hst] at hw' hfin
     repeat' (first | (refine And.intro ?_ ?_) | (intro h; try first | exact dz | replace h := cv))
     all_goals (try exact cz)
     refine ⟨fs, parentsF fs, i, 0, rfl, ⟨hin, hpl, hl, hnm⟩, ?_⟩
     generalize hz : chkAt fs (parentsF fs) i 0 = e at *
     by_cases he : e = 0
     ·rw [if_neg (fun h => h he)] at hc
      subst he
      repeat' (first | (refine And.intro ?_ ?_) | (intro h; try first | exact dz | replace h := cv))
      all_goals (try exact cz)
      refine ⟨ckR2 fs i 6 0 R, reb_num [0, 1, 2, 3, 4, 5] (by first | rfl | kernel_rfl) ⟨.refl _, trivial⟩ ⟨⟨by decide, _, rfl, .refl _⟩, ⟨by decide, _, rfl, .refl _⟩, ⟨by decide, _, rfl, .refl _⟩, ⟨by decide, _, rfl, wkB_same hRf⟩, ⟨by decide, _, rfl, .refl _⟩, trivial⟩, _, rfl, ?_⟩
      by_cases hg : (fs.getD i default).kind = 0
      ·repeat' (first | (refine And.intro ?_ ?_) | (intro h; try first | exact dz | replace h := cv))
       all_goals (try exact cz)
       have hpu : pushS i (fs.getD i default) (decS []) = [((i : Int), (fs.getD i default).kids)] := by rw [pushS, if_pos hg]; rfl
       rw [hpu] at hw' hfin
       refine ⟨_, ckC fs (i + 1) [((i : Int), (fs.getD i default).kids)] [], reb_num [0, 1, 2, 3, 7] (by first | rfl | kernel_rfl) ⟨.refl _, .refl _, .refl _, .refl _, .refl _, .refl _, .refl _, trivial⟩ ⟨⟨by decide, _, rfl, .refl _⟩, ⟨by decide, _, rfl, .refl _⟩, ⟨by decide, _, rfl, .refl _⟩, ⟨by decide, _, rfl, wkB_eq rfl (flat_append (fG _) flat_nil)⟩, trivial⟩, ⟨i + 1, _, ⟨by omega, rfl, hc, hw', hfin, ?_, by simp⟩, .inr ⟨[], flat_nil, rfl⟩⟩, by omega⟩
       intro p hp; simp at hp; subst hp; exact hk i
      ·repeat' (first | (refine And.intro ?_ ?_) | (intro h; try first | exact dz | replace h := cv))
       all_goals (try exact cz)
       have hpu : pushS i (fs.getD i default) (decS []) = [] := by rw [pushS, if_neg hg]; rfl
       rw [hpu] at hw' hfin
       exact ⟨_, ckC fs (i + 1) [] R, reb_num [0, 1, 2, 3, 4] (by first | rfl | kernel_rfl) ⟨.refl _, .refl _, .refl _, .refl _, .refl _, .refl _, .refl _, trivial⟩ ⟨⟨by decide, _, rfl, .refl _⟩, ⟨by decide, _, rfl, .refl _⟩, ⟨by decide, _, rfl, .refl _⟩, ⟨by decide, _, rfl, wkB_eq rfl (flat_append (fG []) hRf)⟩, trivial⟩, ⟨i + 1, [], ⟨by omega, rfl, hc, hw', hfin, by simp, by simp⟩, .inr ⟨R, hRf, rfl⟩⟩, by omega⟩
     ·rw [if_pos he] at hc
      repeat' (first | (refine And.intro ?_ ?_) | (intro h; try first | exact dz | replace h := cv))
      all_goals (try exact cz)
      refine ⟨ckR2 fs i 6 e R, reb_num [0, 1, 2, 3, 4, 5] (by first | rfl | kernel_rfl) ⟨.refl _, trivial⟩ ⟨⟨by decide, _, rfl, .refl _⟩, ⟨by decide, _, rfl, .refl _⟩, ⟨by decide, _, rfl, .refl _⟩, ⟨by decide, _, rfl, wkB_same hRf⟩, ⟨by decide, _, rfl, .refl _⟩, trivial⟩, _, rfl, ?_⟩
      repeat' (first | (refine And.intro ?_ ?_) | (intro h; try first | exact dz | replace h := cv))
      all_goals (try exact cz)
      refine ⟨_, .refl _ _ _, _, rfl, ?_⟩
      repeat' (first | (refine And.intro ?_ ?_) | (intro h; try first | exact dz | replace h := cv))
      all_goals (try exact cz)
      rw [if_pos (by rw [← hc]; exact he), ← hc] at hlast
      rw [hlast]
      exact ⟨_, fin_e rfl rfl, _, rfl, rfl, rfl⟩
   | cons q t =>
     obtain ⟨a, k⟩ := q
     obtain rfl : n = t.length + 1 := hm
     have hx0 : 0 + ((↑(t.length + 1) : Int) - 1).toNat = t.length := by omega
     have hx1 : ((↑(t.length + 1) : Int) - 1).toNat = t.length := by omega
     have hx2 : R.getD t.length [] = encG (a, k) := by rw [← hR]; simp [List.getElem?_append, List.getElem?_map]
     have hRl : t.length < R.length := by rw [← hR]; simp
     have hRf : flatRows R := hR ▸ flat_append (fG _) hj1
     have hkb : k ≤ 9223372036854775807 := hb1 (a, k) (List.mem_cons_self ..)
     have htl : t.length + 1 ≤ st.length := hl1
     have hset : ∀ x, R.set t.length (encG x) = (x :: t).reverse.map encG ++ junk1 := fun x => by rw [← hR]; simp [List.set_append]
     have hv1 : asI ((encG (a, k)).getD 1 AVal.any) = k := rfl
     have hspl : splice (encG (a, k)) (0 + 1) [.int .i64 (asI ((encG (a, k)).getD (0 + 1) .any) - 1)] = encG (a, k - 1) := rfl
     by_cases hk0 : k ≤ 0
     ·repeat' (first | (refine And.intro ?_ ?_) | (intro h; (try first | replace h := of_decide_eq_true h | replace h := of_decide_eq_false h); (try simp only [sg, hx1, hx2] at h); (try simp only [sx, ↓reduceIte, Nat.reduceAdd, reduceCtorEq, Int.reduceLT, Int.reduceLE, Int.reduceSub, Nat.reduceEqDiff, Nat.reduceLT] at h); try exact nz h))
      all_goals (try exact cz)
      all_goals (try (rw [hx0, hx2]; exact rfl))
      refine ⟨t.length, ckI fs i t.length R, reb_num [0, 1, 2, 3, 4, 5] (by first | rfl | kernel_rfl) ⟨.refl _, .refl _, .refl _, ?_, .refl _, .refl _, .refl _, .refl _, .refl _, trivial⟩ ⟨⟨by decide, _, rfl, .refl _⟩, ⟨by decide, _, rfl, .refl _⟩, ⟨by decide, _, rfl, .refl _⟩, ⟨by decide, _, rfl, wkB_same hRf⟩, ⟨by decide, _, rfl, .refl _⟩, trivial⟩, ⟨t, encG (a, k) :: junk1, t.length, ⟨rfl, rfl, ?_, ?_, ?_, fun p hp => hb1 p (List.mem_cons_of_mem _ hp), by omega⟩, rfl⟩, by omega⟩
      ·show WkV (.slice 4 (0 + 0) (((↑(t.length + 1) : Int) - 1).toNat - 0) 2 none) _
       rw [hx1]
       exact .refl _
      ·rw [← hp1, popZ, if_pos hk0]
      ·rw [← hR]; simp
      ·exact flat_cons (fun x hx => by simp [encG] at hx; rcases hx with rfl | rfl <;> rfl) hj1
     ·have hpz : popZ st = (a, k) :: t := by rw [← hp1, popZ, if_neg hk0]
      have hdd : ((popZ st).length : Int) = (t.length + 1 : Nat) := by rw [hpz]; rfl
      rw [hdd] at hc
      rw [hpz] at hw' hfin
      repeat' (first | (refine And.intro ?_ ?_) | (intro h; (try first | replace h := of_decide_eq_true h | replace h := of_decide_eq_false h); (try simp only [sg, hx1, hx2] at h); (try simp only [sx, ↓reduceIte, Nat.reduceAdd, reduceCtorEq, Int.reduceLT, Int.reduceLE, Int.reduceSub, Nat.reduceEqDiff, Nat.reduceLT] at h); try exact nz h))
      all_goals (try exact cz)
      all_goals (try (rw [hx0, hx2]; first | exact rfl | exact Nat.le_of_ble_eq_true rfl | (show (-9223372036854775808 : Int) ≤ k - 1; omega) | (show k - 1 ≤ (9223372036854775807 : Int); omega)))
      refine ⟨fs, parentsF fs, i, (t.length + 1 : Nat), rfl, ⟨hin, hpl, hl, hnm⟩, ?_⟩
      have hR2 : R.set (0 + ((↑(t.length + 1) : Int) - 1).toNat) (splice (R.getD (0 + ((↑(t.length + 1) : Int) - 1).toNat) []) (0 + 1) [.int .i64 (asI ((R.getD (0 + ((↑(t.length + 1) : Int) - 1).toNat) []).getD (0 + 1) .any) - 1)]) = ((a, k - 1) :: t).reverse.map encG ++ junk1 := by rw [hx0, hx2, hspl, hset]
      generalize hz : chkAt fs (parentsF fs) i (t.length + 1 : Nat) = e at *
      by_cases he : e = 0
      ·rw [if_neg (fun h => h he)] at hc
       subst he
       repeat' (first | (refine And.intro ?_ ?_) | (intro h; (try first | replace h := of_decide_eq_true h | replace h := of_decide_eq_false h); (try simp only [sg, hx1, hx2] at h); (try simp only [sx, ↓reduceIte, Nat.reduceAdd, reduceCtorEq, Int.reduceLT, Int.reduceLE, Int.reduceSub, Nat.reduceEqDiff, Nat.reduceLT] at h); try exact nz h))
       all_goals (try exact cz)
       refine ⟨ckR2 fs i 7 0 (((a, k - 1) :: t).reverse.map encG ++ junk1), reb_num [0, 1, 2, 3, 4, 5, 6] (by first | rfl | kernel_rfl) ⟨.refl _, trivial⟩ ⟨⟨by decide, _, rfl, .refl _⟩, ⟨by decide, _, rfl, .refl _⟩, ⟨by decide, _, rfl, .refl _⟩, ⟨by decide, _, rfl, wkB_eq hR2 (flat_append (fG _) hj1)⟩, ⟨by decide, _, rfl, .refl _⟩, trivial⟩, _, rfl, ?_⟩
       by_cases hg : (fs.getD i default).kind = 0
       ·repeat' (first | (refine And.intro ?_ ?_) | (intro h; (try first | replace h := of_decide_eq_true h | replace h := of_decide_eq_false h); (try simp only [sg, hx1, hx2] at h); (try simp only [sx, ↓reduceIte, Nat.reduceAdd, reduceCtorEq, Int.reduceLT, Int.reduceLE, Int.reduceSub, Nat.reduceEqDiff, Nat.reduceLT] at h); try exact nz h))
        all_goals (try exact cz)
        ·show 0 + (t.length + 1) ≤ _
         simp
        have hpu : pushS i (fs.getD i default) (decS ((a, k) :: t)) = ((i : Int), (fs.getD i default).kids) :: (a, k - 1) :: t := by rw [pushS, if_pos hg]; rfl
        rw [hpu] at hw' hfin
        refine ⟨_, ckC fs (i + 1) (((i : Int), (fs.getD i default).kids) :: (a, k - 1) :: t) [], reb_num [0, 1, 2, 3, 8] (by first | rfl | kernel_rfl) ⟨.refl _, .refl _, .refl _, .refl _, .refl _, .refl _, .refl _, trivial⟩ ⟨⟨by decide, _, rfl, .refl _⟩, ⟨by decide, _, rfl, .refl _⟩, ⟨by decide, _, rfl, .refl _⟩, ⟨by decide, _, rfl, wkB_eq ?_ (flat_append (fG _) flat_nil)⟩, trivial⟩, ⟨i + 1, _, ⟨by omega, rfl, hc, hw', hfin, ?_, by simp; omega⟩, .inr ⟨[], flat_nil, rfl⟩⟩, by omega⟩
        ·show List.take (t.length + 1) (List.drop 0 (((a, k - 1) :: t).reverse.map encG ++ junk1)) ++ [encG (i, (fs.getD i default).kids)] = _
         have htk : List.take (t.length + 1) (((a, k - 1) :: t).reverse.map encG ++ junk1) = ((a, k - 1) :: t).reverse.map encG := by
          rw [show t.length + 1 = (((a, k - 1) :: t).reverse.map encG).length by simp]; exact List.take_left
         rw [List.drop_zero, htk]
         simp
        ·intro p hp
         simp at hp
         rcases hp with rfl | rfl | hp
         ·exact hk i
         ·show k - 1 ≤ _; omega
         ·exact hb1 p (List.mem_cons_of_mem _ hp)
       ·repeat' (first | (refine And.intro ?_ ?_) | (intro h; (try first | replace h := of_decide_eq_true h | replace h := of_decide_eq_false h); (try simp only [sg, hx1, hx2] at h); (try simp only [sx, ↓reduceIte, Nat.reduceAdd, reduceCtorEq, Int.reduceLT, Int.reduceLE, Int.reduceSub, Nat.reduceEqDiff, Nat.reduceLT] at h); try exact nz h))
        all_goals (try exact cz)
        have hpu : pushS i (fs.getD i default) (decS ((a, k) :: t)) = (a, k - 1) :: t := by rw [pushS, if_neg hg]; rfl
        rw [hpu] at hw' hfin
        refine ⟨_, ckC fs (i + 1) ((a, k - 1) :: t) junk1, reb_num [0, 1, 2, 3, 4] (by first | rfl | kernel_rfl) ⟨.refl _, .refl _, .refl _, .refl _, .refl _, .refl _, .refl _, trivial⟩ ⟨⟨by decide, _, rfl, .refl _⟩, ⟨by decide, _, rfl, .refl _⟩, ⟨by decide, _, rfl, .refl _⟩, ⟨by decide, _, rfl, wkB_eq rfl (flat_append (fG _) hj1)⟩, trivial⟩, ⟨i + 1, _, ⟨by omega, rfl, hc, hw', hfin, ?_, by simp; omega⟩, .inr ⟨junk1, hj1, rfl⟩⟩, by omega⟩
        intro p hp
        simp at hp
        rcases hp with rfl | hp
        ·show k - 1 ≤ _; omega
        ·exact hb1 p (List.mem_cons_of_mem _ hp)
      ·rw [if_pos he] at hc
       repeat' (first | (refine And.intro ?_ ?_) | (intro h; (try first | replace h := of_decide_eq_true h | replace h := of_decide_eq_false h); (try simp only [sg, hx1, hx2] at h); (try simp only [sx, ↓reduceIte, Nat.reduceAdd, reduceCtorEq, Int.reduceLT, Int.reduceLE, Int.reduceSub, Nat.reduceEqDiff, Nat.reduceLT] at h); try exact nz h))
       all_goals (try exact cz)
       refine ⟨ckR2 fs i 7 e (((a, k - 1) :: t).reverse.map encG ++ junk1), reb_num [0, 1, 2, 3, 4, 5, 6] (by first | rfl | kernel_rfl) ⟨.refl _, trivial⟩ ⟨⟨by decide, _, rfl, .refl _⟩, ⟨by decide, _, rfl, .refl _⟩, ⟨by decide, _, rfl, .refl _⟩, ⟨by decide, _, rfl, wkB_eq hR2 (flat_append (fG _) hj1)⟩, ⟨by decide, _, rfl, .refl _⟩, trivial⟩, _, rfl, ?_⟩
       repeat' (first | (refine And.intro ?_ ?_) | (intro h; (try first | replace h := of_decide_eq_true h | replace h := of_decide_eq_false h); (try simp only [sg, hx1, hx2] at h); (try simp only [sx, ↓reduceIte, Nat.reduceAdd, reduceCtorEq, Int.reduceLT, Int.reduceLE, Int.reduceSub, Nat.reduceEqDiff, Nat.reduceLT] at h); try exact nz h))
       all_goals (try exact cz)
       refine ⟨_, .refl _ _ _, _, rfl, ?_⟩
       repeat' (first | (refine And.intro ?_ ?_) | (intro h; (try first | replace h := of_decide_eq_true h | replace h := of_decide_eq_false h); (try simp only [sg, hx1, hx2] at h); (try simp only [sx, ↓reduceIte, Nat.reduceAdd, reduceCtorEq, Int.reduceLT, Int.reduceLE, Int.reduceSub, Nat.reduceEqDiff, Nat.reduceLT] at h); try exact nz h))
       all_goals (try exact cz)
       rw [if_pos (by rw [← hc]; exact he), ← hc] at hlast
       rw [hlast]
       exact ⟨_, fin_e rfl rfl, _, rfl, rfl, rfl⟩
  ·obtain rfl : i = fs.length := by omega
   rw [List.drop_of_length_le (Nat.le_refl _)] at hfin
   have hc0 : chkFrom fs 0 fs.length = 0 := by rw [← hc, Nat.sub_self]; rfl
   have hop : openS (wfin fs 0 []) = openS st := by rw [← hfin]; rfl
   rw [hc0, hop] at hlast
   repeat' (first | (refine And.intro ?_ ?_) | (intro h; try first | exact dz | replace h := cv))
   all_goals (try exact cz)
   generalize hR : st.reverse.map encG ++ junk = R
   have hRl : st.length ≤ R.length := by rw [← hR]; simp
   have hRf : flatRows R := hR ▸ flat_append (fG _) hj
   have hx2 : ∀ j, j < st.length → R.getD j [] = encG (st.reverse.getD j default) := fun j h => by
    have h' : j < (st.reverse.map encG).length := by simp; omega
    rw [← hR, List.getD_eq_getElem?_getD, List.getElem?_append_left h', ← List.getD_eq_getElem?_getD]
    exact row_at encG default (by simp; omega)
   refine ⟨fun n s => ∃ (j : Nat) (b : Bool), (j ≤ st.length ∧ n = st.length - j ∧ b = openS (st.reverse.take j)) ∧ s = ckJ fs j st R b, ⟨_, ckJ fs 0 st R false, reb_num [0, 1, 2, 3, 4] (by first | rfl | kernel_rfl) ⟨.refl _, .refl _, .refl _, .refl _, trivial⟩ ⟨⟨by decide, _, rfl, .refl _⟩, ⟨by decide, _, rfl, .refl _⟩, ⟨by decide, _, rfl, .refl _⟩, ⟨by decide, _, rfl, wkB_same hRf⟩, trivial⟩, 0, false, ⟨by omega, rfl, rfl⟩, rfl⟩, ?_⟩
   rintro n s ⟨j, b, ⟨hj0, rfl, hb0⟩, rfl⟩
   by_cases hjn : j < st.length
   ·repeat' (first | (refine And.intro ?_ ?_) | (intro h; try first | exact dz | replace h := cv))
    all_goals (try exact cz)
    ·show isRow _ _ (R.getD (0 + ((j : Nat) : Int).toNat) []) 0 = true
     rw [Nat.zero_add, Int.toNat_natCast, hx2 j hjn]; rfl
    ·have hbn : true = openS (st.reverse.take (j + 1)) := by rw [openS_take (by simpa using hjn), ← hb0, show b = true from ‹_›]; rfl
     exact ⟨_, ckJ fs (j + 1) st R true, reb_num [0, 1, 2, 3, 4] (by first | rfl | kernel_rfl) ⟨.refl _, .refl _, .refl _, .refl _, trivial⟩ ⟨⟨by decide, _, rfl, .refl _⟩, ⟨by decide, _, rfl, .refl _⟩, ⟨by decide, _, rfl, .refl _⟩, ⟨by decide, _, rfl, wkB_same hRf⟩, trivial⟩, ⟨j + 1, true, ⟨by omega, rfl, hbn⟩, rfl⟩, by omega⟩
    ·have hbn : decide (0 < (st.reverse.getD j default).2) = openS (st.reverse.take (j + 1)) := by rw [openS_take (by simpa using hjn), ← hb0, show b = false from ‹_›]; rfl
     refine ⟨_, ckJ fs (j + 1) st R (decide (0 < (st.reverse.getD j default).2)), reb_num [0, 1, 2, 3, 4] (by first | rfl | kernel_rfl) ⟨wk_bool ?_, .refl _, .refl _, .refl _, trivial⟩ ⟨⟨by decide, _, rfl, .refl _⟩, ⟨by decide, _, rfl, .refl _⟩, ⟨by decide, _, rfl, .refl _⟩, ⟨by decide, _, rfl, wkB_same hRf⟩, trivial⟩, ⟨j + 1, _, ⟨by omega, rfl, hbn⟩, rfl⟩, by omega⟩
     show decide (0 < asI ((R.getD (0 + ((j : Nat) : Int).toNat) []).getD (0 + 1) AVal.any)) = _
     rw [Nat.zero_add, Int.toNat_natCast, hx2 j hjn]; rfl
   ·obtain rfl : j = st.length := by omega
    have hb1 : b = openS st := by rw [hb0, List.take_of_length_le (by simp), openS, openS, List.any_reverse]
    rw [← hb1] at hlast
    repeat' (first | (refine And.intro ?_ ?_) | (intro h; try first | exact dz | replace h := cv))
    all_goals (try exact cz)
    refine ⟨_, .refl _ _ _, _, rfl, ?_⟩
    cases b
    ·rw [show checkF fs = 0 from hlast]
     repeat' (first | (refine And.intro ?_ ?_) | (intro h; try first | exact dz | replace h := cv))
     all_goals (try exact cz)
     exact ⟨_, fin_e rfl rfl, _, rfl, rfl, rfl⟩
    ·rw [show checkF fs = 1 from hlast]
     repeat' (first | (refine And.intro ?_ ?_) | (intro h; try first | exact dz | replace h := cv))
     all_goals (try exact cz)
     exact ⟨_, fin_e rfl rfl, _, rfl, rfl, rfl⟩
def S_check : SpecI := fun args K => ∃ fs, args = [vF fs] ∧ FsOk fs ∧ K (.int .i64 (checkF fs))
theorem schk_ok [Syms] : ImmOk Try.prog 83 S_check := by
 rintro args K ⟨fs, rfl, h, hk⟩
 exact ⟨rfl, _, rfl, hk, fnI tys_ok fns_ok noneT_det cChk_ok mixed (schk_t fs h)⟩
end Go.Proofs.Ytajieadpaeggcaa

end
