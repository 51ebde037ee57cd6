/-
  The parser's small steps: 'fail', 'next', 'must', 'pick'; the words that it knows.
-/
import Derived.Test.YtjffmehcbaechaaTxtP
import Derived.Test.YtjffmehcbaechaaSchFacts
import Derived.Test.YtjffmehcbaechaaSchCheck
set_option linter.unusedVariables false
set_option linter.unusedSimpArgs false
namespace Go.Proofs.Ytjffmehcbaechaa
open Go Go.Av
set_option maxRecDepth 100000
set_option maxHeartbeats 4000000
def encS (w : Wd) : List AVal := [.str w]
abbrev vW (l : List Wd) : AVal := vT 1 encS [] l
theorem fS (l : List Wd) : flatRows (l.map encS) := flat_map (fun a x hx => by simp [encS] at hx; subst hx; rfl) l
theorem encS_0 (w : Wd) : (encS w).getD 0 .any = .str w := rfl
/-- What lies in the parser's second cell, unharmed by other numbers beyond two. -/
def SvOk (sv : AVal) : Prop := ∀ nx, sv.ren (rho [0, 1] nx) = sv
theorem svOk_nils : SvOk .nils := fun _ => rfl
theorem svOk_slice (off len sz : Nat) (cap : Option Nat) : SvOk (.slice 1 off len sz cap) := fun _ => rfl
def pB (ws : List Wd) (sv : AVal) (e : Int) : Option Blk := some (.cells [[vW ws, sv, .int .i64 e]] false)
theorem wkP {ρ : Nat → Nat} {ws : List Wd} {sv : AVal} {e : Int} {R : List (List AVal)} (h : R = [[vW ws, sv, .int .i64 e]]) (hsv : sv.ren ρ = sv) : WkB (.cells R false) ((Blk.cells [[vW ws, sv, .int .i64 e]] false).ren ρ) := by
  show WkB _ (.cells [[vW ws, sv.ren ρ, .int .i64 e]] false)
  rw [hsv, h]
  exact .refl _
theorem svRen {ws : List Wd} {sv : AVal} {e : Int} {nx : Nat} (h : SvOk sv) : List.map (AVal.renL (rho [0, 1] nx)) [[vW ws, sv, AVal.int .i64 e]] = [[vW ws, sv, .int .i64 e]] := by
  show [[vW ws, sv.ren (rho [0, 1] nx), AVal.int .i64 e]] = _
  rw [h nx]
theorem tfail_t [Syms] {Post : AVal → Heap → Nat → Prop} (σ : PS) (sv : AVal) (x : Int) (hsv : SvOk sv) (hP : Post (.tup []) [(0, pB (failP σ x).ws sv (failP σ x).e)] 2) :
    fnT noneT noneT (fnTab fns) (tyTab tys) (plTab plt) 100 25 [.ptr 0 0 0, .int .i64 x] [(0, pB σ.ws sv σ.e)] 2 Post := by
  obtain ⟨ws, fs, e⟩ := σ
  show fnT noneT noneT (fnTab fns) (tyTab tys) (plTab plt) 100 25 [.ptr 0 0 0, .int .i64 x] [(0, pB ws sv e)] 2 Post
  by_cases h0 : e = 0
  · subst h0
    rw [failP, if_pos rfl] at hP
    repeat' (first | (refine And.intro ?_ ?_) | (intro h; (try first | replace h := of_decide_eq_true h | replace h := of_decide_eq_false h); (try simp only [sg] at h); (try simp only [sx, ↓reduceIte, Nat.reduceAdd, reduceCtorEq, Int.reduceLT, Int.reduceLE, Int.reduceSub, Nat.reduceEqDiff, Nat.reduceLT] at h); try exact nz h))
    all_goals (try exact cz)
    exact ⟨⟨[], [(0, pB ws sv x)], 2⟩, reb_num [0, 1] (by first | rfl | kernel_rfl) trivial ⟨⟨by decide, _, rfl, wkP rfl (hsv _)⟩, trivial⟩, _, rfl, hP⟩
  · rw [failP, if_neg h0] at hP
    repeat' (first | (refine And.intro ?_ ?_) | (intro h; (try first | replace h := of_decide_eq_true h | replace h := of_decide_eq_false h); (try simp only [sg] at h); (try simp only [sx, ↓reduceIte, Nat.reduceAdd, reduceCtorEq, Int.reduceLT, Int.reduceLE, Int.reduceSub, Nat.reduceEqDiff, Nat.reduceLT] at h); try exact nz h))
    all_goals (try exact cz)
    exact ⟨⟨[], [(0, pB ws sv e)], 2⟩, reb_num [0, 1] (by first | rfl | kernel_rfl) trivial ⟨⟨by decide, _, rfl, wkP rfl (hsv _)⟩, trivial⟩, _, rfl, hP⟩
def S_fail : SpecT := fun args H nx Post => ∃ (σ : PS) (sv : AVal) (x : Int), args = [.ptr 0 0 0, .int .i64 x] ∧ H = [(0, pB σ.ws sv σ.e)] ∧ nx = 2 ∧ SvOk sv ∧ Post (.tup []) [(0, pB (failP σ x).ws sv (failP σ x).e)] 2
theorem tfail_ok [Syms] : S_fail.ok Try.prog 25 := by
  rintro args H nx Post ⟨σ, sv, x, rfl, rfl, rfl, h1, h2⟩
  exact fnT_sound tys_ok fns_ok noneT_det noneT_ok mixed (tfail_t σ sv x h1 h2)
theorem tnext_t [Syms] {Post : AVal → Heap → Nat → Prop} (σ : PS) (sv : AVal) (hsv : SvOk sv) (hl : σ.ws.length ≤ 5000) (hP : Post (.str (nextW σ)) [(0, pB (nextP σ).ws sv (nextP σ).e)] 2) :
    fnT noneT noneT (fnTab fns) (tyTab tys) (plTab plt) 100 38 [.ptr 0 0 0] [(0, pB σ.ws sv σ.e)] 2 Post := by
  obtain ⟨ws, fs, e⟩ := σ
  show fnT noneT noneT (fnTab fns) (tyTab tys) (plTab plt) 100 38 [.ptr 0 0 0] [(0, pB ws sv e)] 2 Post
  by_cases h0 : e = 0
  · subst h0
    cases ws with
    | nil =>
      repeat' (first | (refine And.intro ?_ ?_) | (intro h; (try first | replace h := of_decide_eq_true h | replace h := of_decide_eq_false h); (try simp only [sg] at h); (try simp only [sx, ↓reduceIte, Nat.reduceAdd, reduceCtorEq, Int.reduceLT, Int.reduceLE, Int.reduceSub, Nat.reduceEqDiff, Nat.reduceLT] at h); try exact nz h))
      all_goals (try exact cz)
      all_goals exact ⟨⟨[(2, .str [])], [(0, pB [] sv 0)], 2⟩, reb_num [0, 1] (by first | rfl | kernel_rfl) ⟨.refl _, trivial⟩ ⟨⟨by decide, _, rfl, wkP rfl (hsv _)⟩, trivial⟩, _, rfl, hP⟩
    | cons w t =>
      have hl' : t.length + 1 ≤ 5000 := hl
      have hlc : (w :: t).length = t.length + 1 := rfl
      repeat' (first | (refine And.intro ?_ ?_) | (intro h; (try first | replace h := of_decide_eq_true h | replace h := of_decide_eq_false h); (try simp only [sg] at h); (try simp only [sx, ↓reduceIte, Nat.reduceAdd, reduceCtorEq, Int.reduceLT, Int.reduceLE, Int.reduceSub, Nat.reduceEqDiff, Nat.reduceLT] at h); try exact nz h))
      all_goals (try exact cz)
      all_goals exact ⟨⟨[(2, .str w)], [(0, pB t sv 0)], 2⟩, reb_num [0, 1] (by first | rfl | kernel_rfl) ⟨.refl _, trivial⟩ ⟨⟨by decide, _, rfl, wkP (by
        have : (fun i => encS ((w :: t).getD (1 + i) [])) = fun i => encS (t.getD i []) := by funext i; rw [Nat.add_comm]; rfl
        exact congrArg (fun f => [[AVal.vt 1 t.length f, sv, AVal.int .i64 0]]) this) (hsv _)⟩, trivial⟩, _, rfl, hP⟩
  · have h1 : nextW ⟨ws, fs, e⟩ = [] := if_pos h0
    have h2 : nextP ⟨ws, fs, e⟩ = ⟨ws, fs, e⟩ := if_pos h0
    rw [h1, h2] at hP
    repeat' (first | (refine And.intro ?_ ?_) | (intro h; (try first | replace h := of_decide_eq_true h | replace h := of_decide_eq_false h); (try simp only [sg] at h); (try simp only [sx, ↓reduceIte, Nat.reduceAdd, reduceCtorEq, Int.reduceLT, Int.reduceLE, Int.reduceSub, Nat.reduceEqDiff, Nat.reduceLT] at h); try exact nz h))
    all_goals (try exact cz)
    all_goals exact ⟨⟨[(2, .str [])], [(0, pB ws sv e)], 2⟩, reb_num [0, 1] (by first | rfl | kernel_rfl) ⟨.refl _, trivial⟩ ⟨⟨by decide, _, rfl, wkP rfl (hsv _)⟩, trivial⟩, _, rfl, hP⟩
def S_next : SpecT := fun args H nx Post => ∃ (σ : PS) (sv : AVal), args = [.ptr 0 0 0] ∧ H = [(0, pB σ.ws sv σ.e)] ∧ nx = 2 ∧ (SvOk sv ∧ σ.ws.length ≤ 5000) ∧ Post (.str (nextW σ)) [(0, pB (nextP σ).ws sv (nextP σ).e)] 2
theorem tnext_ok [Syms] : S_next.ok Try.prog 38 := by
  rintro args H nx Post ⟨σ, sv, rfl, rfl, rfl, ⟨h1, h2⟩, h3⟩
  exact fnT_sound tys_ok fns_ok noneT_det noneT_ok mixed (tnext_t σ sv h1 h2 h3)
abbrev cMu : CallT := pickT 38 (specT S_next) (pickT 25 (specT S_fail) noneT)
theorem cMu_ok [Syms] : cMu.ok Try.prog := pickT_spec tnext_ok (pickT_spec tfail_ok noneT_ok)
theorem must_t [Syms] {Post : AVal → Heap → Nat → Prop} (σ : PS) (sv : AVal) (w : Wd) (hsv : SvOk sv) (hl : σ.ws.length ≤ 5000) (hP : Post (.tup []) [(0, pB (mustP w σ).ws sv (mustP w σ).e)] 2) :
    fnT noneT cMu (fnTab fns) (tyTab tys) (plTab plt) 100 23 [.ptr 0 0 0, .str w] [(0, pB σ.ws sv σ.e)] 2 Post := by
  have hx1 := eqb_eq (nextW σ) w
  refine ⟨[0, 1], [.ptr 0 0 0], [(0, pB σ.ws sv σ.e)], rfl, ⟨.refl _, trivial⟩, ⟨⟨by decide, _, rfl, wkP rfl (hsv _)⟩, trivial⟩, σ, sv, rfl, rfl, rfl, ⟨hsv, hl⟩, ?_⟩
  by_cases hw : nextW σ = w
  · rw [mustP, if_pos hw] at hP
    rw [decide_eq_true hw] at hx1
    repeat' (first | (refine And.intro ?_ ?_) | (intro h; (try first | replace h := of_decide_eq_true h | replace h := of_decide_eq_false h); (try simp only [sg, hx1] at h); (try simp only [sx, ↓reduceIte, Nat.reduceAdd, reduceCtorEq, Int.reduceLT, Int.reduceLE, Int.reduceSub, Nat.reduceEqDiff, Nat.reduceLT] at h); try exact nz h))
    all_goals (try exact cz)
    exact ⟨⟨[], [(0, pB (nextP σ).ws sv (nextP σ).e)], 2⟩, reb_num [0, 1] (by first | rfl | kernel_rfl) trivial ⟨⟨by decide, _, rfl, wkP (svRen hsv) (hsv _)⟩, trivial⟩, _, rfl, hP⟩
  · rw [mustP, if_neg hw] at hP
    rw [decide_eq_false hw] at hx1
    repeat' (first | (refine And.intro ?_ ?_) | (intro h; (try first | replace h := of_decide_eq_true h | replace h := of_decide_eq_false h); (try simp only [sg, hx1] at h); (try simp only [sx, ↓reduceIte, Nat.reduceAdd, reduceCtorEq, Int.reduceLT, Int.reduceLE, Int.reduceSub, Nat.reduceEqDiff, Nat.reduceLT] at h); try exact nz h))
    all_goals (try exact cz)
    refine ⟨[0, 1], [.ptr 0 0 0, .int .i64 6], [(0, pB (nextP σ).ws sv (nextP σ).e)], rfl, ⟨.refl _, .refl _, trivial⟩, ⟨⟨by decide, _, rfl, wkP (svRen hsv) (hsv _)⟩, trivial⟩, nextP σ, sv, 6, rfl, rfl, rfl, hsv, ?_⟩
    repeat' (first | (refine And.intro ?_ ?_) | (intro h; (try first | replace h := of_decide_eq_true h | replace h := of_decide_eq_false h); (try simp only [sg, hx1] at h); (try simp only [sx, ↓reduceIte, Nat.reduceAdd, reduceCtorEq, Int.reduceLT, Int.reduceLE, Int.reduceSub, Nat.reduceEqDiff, Nat.reduceLT] at h); try exact nz h))
    all_goals (try exact cz)
    exact ⟨⟨[], [(0, pB (failP (nextP σ) 6).ws sv (failP (nextP σ) 6).e)], 2⟩, reb_num [0, 1] (by first | rfl | kernel_rfl) trivial ⟨⟨by decide, _, rfl, wkP (svRen hsv) (hsv _)⟩, trivial⟩, _, rfl, hP⟩
def S_must : SpecT := fun args H nx Post => ∃ (σ : PS) (sv : AVal) (w : Wd), args = [.ptr 0 0 0, .str w] ∧ H = [(0, pB σ.ws sv σ.e)] ∧ nx = 2 ∧ (SvOk sv ∧ σ.ws.length ≤ 5000) ∧ Post (.tup []) [(0, pB (mustP w σ).ws sv (mustP w σ).e)] 2
theorem tmust_ok [Syms] : S_must.ok Try.prog 23 := by
  rintro args H nx Post ⟨σ, sv, w, rfl, rfl, rfl, ⟨h1, h2⟩, h3⟩
  exact fnT_sound tys_ok fns_ok noneT_det cMu_ok mixed (must_t σ sv w h1 h2 h3)
/-! ### Words among some -/
theorem idxW_at {l : List Wd} {w : Wd} {k : Nat} (hk : k < l.length) (h1 : l.getD k [] = w) (h2 : ∀ j, j < k → l.getD j [] ≠ w) : idxW l w = k := by
  have : l.findIdx? (fun x => x == w) = some k := by
    rw [List.findIdx?_eq_some_iff_getElem]
    refine ⟨hk, ?_, fun j hj => ?_⟩
    · rw [beq_iff_eq, ← h1]; simp [hk]
    · have := h2 j hj
      have hjl : j < l.length := by omega
      simp only [beq_iff_eq, Bool.not_eq_true, beq_eq_false_iff_ne, ne_eq]
      intro e
      exact this (by rw [← e]; simp [hjl])
  rw [idxW, this]
theorem idxW_none {l : List Wd} {w : Wd} (h : ∀ j, j < l.length → l.getD j [] ≠ w) : idxW l w = -1 := by
  have : l.findIdx? (fun x => x == w) = none := by
    rw [List.findIdx?_eq_none_iff]
    intro x hx
    obtain ⟨j, hj, rfl⟩ := List.getElem_of_mem hx
    have := h j hj
    simp only [beq_eq_false_iff_ne, ne_eq]
    intro e
    exact this (by rw [← e]; simp [hj])
  rw [idxW, this]
theorem idxW_range (l : List Wd) (w : Wd) : -1 ≤ idxW l w ∧ idxW l w < l.length := by
  unfold idxW
  split
  · rename_i i h
    have := (List.findIdx?_eq_some_iff_getElem.1 h).1
    omega
  · omega
theorem tindex_t [Syms] (l : List Wd) (w : Wd) (hl : l.length < 1000) :
    fnT noneT noneT (fnTab fns) (tyTab tys) (plTab plt) 100 56 [vW l, .str w] [] 0 (fun v H _ => v = .int .i64 (idxW l w) ∧ H = []) := by
  repeat' (first | (refine And.intro ?_ ?_) | (intro h; (try first | replace h := of_decide_eq_true h | replace h := of_decide_eq_false h); (try simp only [sg] at h); (try simp only [sx, ↓reduceIte, Nat.reduceAdd, reduceCtorEq, Int.reduceLT, Int.reduceLE, Int.reduceSub, Nat.reduceEqDiff, Nat.reduceLT] at h); try exact nz h))
  all_goals (try exact cz)
  refine ⟨fun m s => ∃ k : Nat, (k ≤ l.length ∧ m = l.length - k ∧ ∀ j, j < k → l.getD j [] ≠ w) ∧ s = ⟨[(0, vW l), (1, .str w), (7, .int .i64 l.length), (8, .int .i64 k)], [], 0⟩, ⟨_, ⟨[(0, vW l), (1, .str w), (7, .int .i64 l.length), (8, .int .i64 (0 : Nat))], [], 0⟩, reb_flat [0, 1, 7, 8] rfl, 0, ⟨by omega, rfl, fun j h => by omega⟩, rfl⟩, ?_⟩
  rintro m s ⟨k, ⟨hk, rfl, hj⟩, rfl⟩
  by_cases hin : k < l.length
  · have hx1 := eqb_eq w (l.getD k [])
    by_cases hw : l.getD k [] = w
    · rw [decide_eq_true hw.symm] at hx1
      repeat' (first | (refine And.intro ?_ ?_) | (intro h; (try first | replace h := of_decide_eq_true h | replace h := of_decide_eq_false h); (try simp only [sg, hx1] at h); (try simp only [sx, ↓reduceIte, Nat.reduceAdd, reduceCtorEq, Int.reduceLT, Int.reduceLE, Int.reduceSub, Nat.reduceEqDiff, Nat.reduceLT] at h); try exact nz h))
      all_goals (try exact cz)
      all_goals (try exact absurd (show eqb w (l.getD k []) = false from ‹_›) (by rw [hx1]; decide))
      exact ⟨_, reb_flat [4] rfl, _, rfl, congrArg (AVal.int .i64) (idxW_at hin hw hj).symm, rfl⟩
    · rw [decide_eq_false (fun e => hw e.symm)] at hx1
      repeat' (first | (refine And.intro ?_ ?_) | (intro h; (try first | replace h := of_decide_eq_true h | replace h := of_decide_eq_false h); (try simp only [sg, hx1] at h); (try simp only [sx, ↓reduceIte, Nat.reduceAdd, reduceCtorEq, Int.reduceLT, Int.reduceLE, Int.reduceSub, Nat.reduceEqDiff, Nat.reduceLT] at h); try exact nz h))
      all_goals (try exact cz)
      all_goals (try exact absurd (show eqb w (l.getD k []) = true from ‹_›) (by rw [hx1]; decide))
      refine ⟨_, ⟨[(0, vW l), (1, .str w), (7, .int .i64 l.length), (8, .int .i64 (k + 1 : Nat))], [], 0⟩, reb_flat [0, 1, 7, 8] rfl, ⟨k + 1, ⟨by omega, rfl, fun j hlt => ?_⟩, rfl⟩, by omega⟩
      rcases Nat.lt_or_ge j k with h' | h'
      · exact hj j h'
      · obtain rfl : j = k := by omega
        exact hw
  · repeat' (first | (refine And.intro ?_ ?_) | (intro h; (try first | replace h := of_decide_eq_true h | replace h := of_decide_eq_false h); (try simp only [sg] at h); (try simp only [sx, ↓reduceIte, Nat.reduceAdd, reduceCtorEq, Int.reduceLT, Int.reduceLE, Int.reduceSub, Nat.reduceEqDiff, Nat.reduceLT] at h); try exact nz h))
    all_goals (try exact cz)
    exact ⟨_, reb_flat [4] rfl, _, rfl, congrArg (AVal.int .i64) (idxW_none fun j hjl => hj j (by omega)).symm, rfl⟩
def S_tindex : SpecI := fun args K => ∃ (l : List Wd) (w : Wd), args = [vW l, .str w] ∧ l.length < 1000 ∧ K (.int .i64 (idxW l w))
theorem tindex_ok [Syms] : ImmOk Try.prog 56 S_tindex := by
  rintro args K ⟨l, w, rfl, h, hk⟩
  exact ⟨rfl, _, rfl, hk, fnI tys_ok fns_ok noneT_det noneT_ok mixed (tindex_t l w h)⟩
theorem reps_t [Syms] : fnT noneT noneT (fnTab fns) (tyTab tys) (plTab plt) 100 41 [] [] 0 (fun v H _ => v = vW kwReps ∧ H = []) := by
  repeat' (first | (refine And.intro ?_ ?_) | (intro h; (try first | replace h := of_decide_eq_true h | replace h := of_decide_eq_false h); (try simp only [sg] at h); (try simp only [sx, ↓reduceIte, Nat.reduceAdd, reduceCtorEq, Int.reduceLT, Int.reduceLE, Int.reduceSub, Nat.reduceEqDiff, Nat.reduceLT] at h); try exact nz h))
  all_goals (try exact cz)
  exact ⟨_, reb_own (enc := encS) (k := 0) [] (l := kwReps) rfl rfl (fS kwReps) rfl (by decide), _, rfl, rfl, rfl⟩
theorem kinds_t [Syms] : fnT noneT noneT (fnTab fns) (tyTab tys) (plTab plt) 100 42 [] [] 0 (fun v H _ => v = vW kwKinds ∧ H = []) := by
  repeat' (first | (refine And.intro ?_ ?_) | (intro h; (try first | replace h := of_decide_eq_true h | replace h := of_decide_eq_false h); (try simp only [sg] at h); (try simp only [sx, ↓reduceIte, Nat.reduceAdd, reduceCtorEq, Int.reduceLT, Int.reduceLE, Int.reduceSub, Nat.reduceEqDiff, Nat.reduceLT] at h); try exact nz h))
  all_goals (try exact cz)
  exact ⟨_, reb_own (enc := encS) (k := 0) [] (l := kwKinds) rfl rfl (fS kwKinds) rfl (by decide), _, rfl, rfl, rfl⟩
def S_reps : SpecI := fun args K => args = [] ∧ K (vW kwReps)
def S_kinds : SpecI := fun args K => args = [] ∧ K (vW kwKinds)
theorem reps_ok [Syms] : ImmOk Try.prog 41 S_reps := by
  rintro args K ⟨rfl, hk⟩
  exact ⟨rfl, _, rfl, hk, fnI tys_ok fns_ok noneT_det noneT_ok mixed reps_t⟩
theorem kinds_ok [Syms] : ImmOk Try.prog 42 S_kinds := by
  rintro args K ⟨rfl, hk⟩
  exact ⟨rfl, _, rfl, hk, fnI tys_ok fns_ok noneT_det noneT_ok mixed kinds_t⟩
abbrev cPk : CallT := pickT 56 (immT S_tindex) cMu
theorem cPk_ok [Syms] : cPk.ok Try.prog := pickT_imm_ok tindex_ok cMu_ok
theorem pick_t [Syms] {Post : AVal → Heap → Nat → Prop} (σ : PS) (sv : AVal) (l : List Wd) (hsv : SvOk sv) (hl : σ.ws.length ≤ 5000) (hll : l.length < 1000) (hP : Post (.int .i64 (pickV l σ)) [(0, pB (pickP l σ).ws sv (pickP l σ).e)] 2) :
    fnT noneT cPk (fnTab fns) (tyTab tys) (plTab plt) 100 40 [.ptr 0 0 0, vW l] [(0, pB σ.ws sv σ.e)] 2 Post := by
  refine ⟨[0, 1], [.ptr 0 0 0], [(0, pB σ.ws sv σ.e)], rfl, ⟨.refl _, trivial⟩, ⟨⟨by decide, _, rfl, wkP rfl (hsv _)⟩, trivial⟩, σ, sv, rfl, rfl, rfl, ⟨hsv, hl⟩, ?_⟩
  refine ⟨l, nextW σ, rfl, hll, ?_⟩
  have hr := idxW_range l (nextW σ)
  rw [pickV, pickP] at hP
  generalize idxW l (nextW σ) = k at *
  by_cases hk : k < 0
  · rw [if_pos hk, if_pos hk] at hP
    repeat' (first | (refine And.intro ?_ ?_) | (intro h; (try first | replace h := of_decide_eq_true h | replace h := of_decide_eq_false h); (try simp only [sg] at h); (try simp only [sx, ↓reduceIte, Nat.reduceAdd, reduceCtorEq, Int.reduceLT, Int.reduceLE, Int.reduceSub, Nat.reduceEqDiff, Nat.reduceLT] at h); try exact nz h))
    all_goals (try exact cz)
    refine ⟨[0, 1], [.ptr 0 0 0, .int .i64 6], [(0, pB (nextP σ).ws sv (nextP σ).e)], rfl, ⟨.refl _, .refl _, trivial⟩, ⟨⟨by decide, _, rfl, wkP (svRen hsv) (hsv _)⟩, trivial⟩, nextP σ, sv, 6, rfl, rfl, rfl, hsv, ?_⟩
    repeat' (first | (refine And.intro ?_ ?_) | (intro h; (try first | replace h := of_decide_eq_true h | replace h := of_decide_eq_false h); (try simp only [sg] at h); (try simp only [sx, ↓reduceIte, Nat.reduceAdd, reduceCtorEq, Int.reduceLT, Int.reduceLE, Int.reduceSub, Nat.reduceEqDiff, Nat.reduceLT] at h); try exact nz h))
    all_goals (try exact cz)
    exact ⟨⟨[(4, .int .i64 0)], [(0, pB (failP (nextP σ) 6).ws sv (failP (nextP σ) 6).e)], 2⟩, reb_num [0, 1] (by first | rfl | kernel_rfl) ⟨wk_int (if_pos hk), trivial⟩ ⟨⟨by decide, _, rfl, wkP (svRen hsv) (hsv _)⟩, trivial⟩, _, rfl, hP⟩
  · rw [if_neg hk, if_neg hk] at hP
    repeat' (first | (refine And.intro ?_ ?_) | (intro h; (try first | replace h := of_decide_eq_true h | replace h := of_decide_eq_false h); (try simp only [sg] at h); (try simp only [sx, ↓reduceIte, Nat.reduceAdd, reduceCtorEq, Int.reduceLT, Int.reduceLE, Int.reduceSub, Nat.reduceEqDiff, Nat.reduceLT] at h); try exact nz h))
    all_goals (try exact cz)
    exact ⟨⟨[(4, .int .i64 k)], [(0, pB (nextP σ).ws sv (nextP σ).e)], 2⟩, reb_num [0, 1] (by first | rfl | kernel_rfl) ⟨wk_int (if_neg hk), trivial⟩ ⟨⟨by decide, _, rfl, wkP (svRen hsv) (hsv _)⟩, trivial⟩, _, rfl, hP⟩
def S_pick : SpecT := fun args H nx Post => ∃ (σ : PS) (sv : AVal) (l : List Wd), args = [.ptr 0 0 0, vW l] ∧ H = [(0, pB σ.ws sv σ.e)] ∧ nx = 2 ∧ (SvOk sv ∧ σ.ws.length ≤ 5000 ∧ l.length < 1000) ∧ Post (.int .i64 (pickV l σ)) [(0, pB (pickP l σ).ws sv (pickP l σ).e)] 2
theorem tpick_ok [Syms] : S_pick.ok Try.prog 40 := by
  rintro args H nx Post ⟨σ, sv, l, rfl, rfl, rfl, ⟨h1, h2, h3⟩, h4⟩
  exact fnT_sound tys_ok fns_ok noneT_det cPk_ok mixed (pick_t σ sv l h1 h2 h3 h4)
theorem tname_t [Syms] (w : Wd) (hw : w.length ≤ 5000) :
    fnT noneT noneT (fnTab fns) (tyTab tys) (plTab plt) 100 39 [.str w] [] 0 (fun v H _ => v = .bool (nameT w) ∧ H = []) := by
  cases w with
  | nil =>
    have hx1 : eqb ([] : Wd) [] = true := rfl
    repeat' (first | (refine And.intro ?_ ?_) | (intro h; (try first | replace h := of_decide_eq_true h | replace h := of_decide_eq_false h); (try simp only [sg, hx1] at h); (try simp only [sx, ↓reduceIte, Nat.reduceAdd, reduceCtorEq, Int.reduceLT, Int.reduceLE, Int.reduceSub, Nat.reduceEqDiff, Nat.reduceLT] at h); try exact nz h))
    all_goals (try exact cz)
    all_goals exact ⟨_, reb_flat [2] rfl, _, rfl, rfl, rfl⟩
  | cons c t =>
    have hx1 : eqb (c :: t) [] = false := rfl
    have hc : ((c :: t).getD 0 0).toNat = c.toNat := rfl
    have hl : (c :: t).length = t.length + 1 := rfl
    generalize hb : nameT (c :: t) = b
    have hb2 : b = (letterF c && decide ((c :: t).length ≤ 12)) := hb.symm
    rw [hl] at hb2 hw
    unfold letterF at hb2
    repeat' (first | (refine And.intro ?_ ?_) | (intro h; (try first | replace h := of_decide_eq_true h | replace h := of_decide_eq_false h); (try simp only [sg, hx1] at h); (try simp only [sx, ↓reduceIte, Nat.reduceAdd, reduceCtorEq, Int.reduceLT, Int.reduceLE, Int.reduceSub, Nat.reduceEqDiff, Nat.reduceLT] at h); try exact nz h))
    all_goals (try exact cz)
    all_goals
      refine ⟨_, reb_flat [2] rfl, _, rfl, congrArg AVal.bool ?_, rfl⟩
      rw [hb2, Bool.eq_iff_iff]
      simp only [↓reduceIte, decide_eq_true_eq, Bool.false_eq_true, Bool.and_eq_true]
    all_goals first
      | (rw [hl]; omega)
      | (simp only [false_iff]; omega)
def S_tname : SpecI := fun args K => ∃ w, args = [.str w] ∧ w.length ≤ 5000 ∧ K (.bool (nameT w))
theorem tname_ok [Syms] : ImmOk Try.prog 39 S_tname := by
  rintro args K ⟨w, rfl, h, hk⟩
  exact ⟨rfl, _, rfl, hk, fnI tys_ok fns_ok noneT_det noneT_ok mixed (tname_t w h)⟩
end Go.Proofs.Ytjffmehcbaechaa
