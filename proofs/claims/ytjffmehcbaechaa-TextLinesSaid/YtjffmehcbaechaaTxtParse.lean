/-
  'Parse': a text's shape, and what is wrong with it. The program's.
-/
import Derived.Test.YtjffmehcbaechaaTxtField
import Derived.Test.YtjffmehcbaechaaTxtWords
import Derived.Test.YtjffmehcbaechaaSchCheck
import Derived.Test.YtjffmehcbaechaaSxOne
set_option linter.unusedVariables false
set_option linter.unusedSimpArgs false
namespace Go.Proofs.Ytjffmehcbaechaa
open Go Go.Av
set_option maxRecDepth 100000
set_option maxHeartbeats 4000000
def S_words : SpecI := fun args K => ∃ s, args = [.str s] ∧ s.length ≤ 4000 ∧ (wordsF s = none → K (.tup [.nils, .bool false])) ∧ (∀ l, wordsF s = some l → K (.tup [vW l, .bool true]))
theorem twords_ok [Syms] : ImmOk Try.prog 22 S_words := by
  rintro args K ⟨s, rfl, h, hn, hs⟩
  cases hw : wordsF s with
  | none => exact ⟨rfl, _, rfl, hn hw, fnI tys_ok fns_ok noneT_det cWd_ok mixed (by have := words_t s h; rw [hw] at this; exact this)⟩
  | some l => exact ⟨rfl, _, rfl, hs l hw, fnI tys_ok fns_ok noneT_det cWd_ok mixed (by have := words_t s h; rw [hw] at this; exact this)⟩
abbrev parV (p : List Fd × Int) : AVal := .tup [vF p.1, .int .i64 p.2]
/-- A contract serves where fewer numbers are in use. -/
theorem fewer [Syms] {P : Program} {f : FuncId} {args : List AVal} {H : Heap} {nx nx0 : Nat} {Post : AVal → Heap → Nat → Prop} (h : FnSem P f args H nx Post) (hle : nx0 ≤ nx) : FnSem P f args H nx0 Post := by
  refine ⟨h.1, fun ι w vs hv hH hb => (h.2 ι w vs hv hH fun n L hn => ⟨Nat.lt_of_lt_of_le (hb n L hn).1 hle, (hb n L hn).2⟩).mono ?_⟩
  rintro e w' ⟨v, H', nx', r, κ, h1, h2, h3, h4, h5, h6, h7⟩
  exact ⟨v, H', nx', r, κ, h1, h2, h3, h4, ⟨fun n L hn => h5.keep n L (Nat.lt_of_lt_of_le hn hle), h5.fzle, h5.os, h5.tape, h5.output, h5.size, h5.same, h5.own, h5.fzs, fun n L hn => h5.fresh n L (Nat.lt_of_lt_of_le hn hle)⟩, h6, Nat.le_trans hle h7⟩
def lessS (a b : Nat) (S : SpecT) : SpecT := fun args H nx Post => nx = a ∧ S args H b Post
theorem lessS_ok [Syms] {P : Program} {f : FuncId} {S : SpecT} {a b : Nat} (h : S.ok P f) (hab : a ≤ b) : (lessS a b S).ok P f := by
  rintro args H nx Post ⟨rfl, hs⟩
  exact fewer (h _ _ _ _ hs) hab
theorem allLen_map {α : Type} {enc : α → List AVal} {z : Nat} (h : ∀ a, (enc a).length = z) (l : List α) : allLen z (l.map enc) = true := by
  have := allLen_cut h l 0 l.length
  rwa [List.drop_zero, List.take_of_length_le (by rw [List.length_map]; exact Nat.le_refl _)] at this
theorem cloneF_pos [Syms] (l : List Fd) (hl : l.length < 1000) (h0 : 0 < l.length):
    fnT noneT noneT (fnTab fns) (tyTab tys) (plTab plt) 100 27 [vF l] [] 0 (fun v H _ => v = vF l ∧ H = []) := by


    intro b hb
    have e := tabR_map encF default l
    have el : (tabR l.length fun i => encF (l.getD i default)).length = l.length := tabR_length _ _
    have hb2 : b = false := hb (fun h => by rw [h] at el; simp at el; omega)
    subst hb2
    refine And.intro (fun h => by cases h) (fun h => ?_)
    refine And.intro (by rw [e]; exact allLen_map (enc := encF) (z := 4) (fun _ => rfl) l) ?_
    refine And.intro ⟨show (0 + (tabR l.length fun i => encF (l.getD i default)).length) * 40 ≤ _ by omega, by omega⟩ ?_
    refine And.intro (fun h => absurd h (by omega)) (fun h => ?_)
    refine And.intro (Nat.zero_le _) ?_
    refine And.intro (fun h => ?_) (fun h => absurd (show 0 < 0 + _ by omega) h)
    refine ⟨_, reb_own (enc := encF) (k := 2) default (l := l) rfl rfl ?_ ?_ ?_, _, rfl, rfl, rfl⟩
    · show flatRows (tabR l.length fun i => encF (l.getD i default))
      rw [e]; exact fF l
    · show List.take (0 + (tabR l.length fun i => encF (l.getD i default)).length) (tabR l.length fun i => encF (l.getD i default)) = _
      rw [e]; exact List.take_of_length_le (by omega)
    · show 0 + (tabR l.length fun i => encF (l.getD i default)).length ≤ (tabR l.length fun i => encF (l.getD i default)).length
      omega
theorem cloneF_t [Syms] (l : List Fd) (hl : l.length < 1000) :
    fnT noneT noneT (fnTab fns) (tyTab tys) (plTab plt) 100 27 [vF l] [] 0 (fun v H _ => v = vF l ∧ H = []) := by
  cases l with
  | nil =>
    repeat' (first | (refine And.intro ?_ ?_) | (intro h; (try first | replace h := of_decide_eq_true h | replace h := of_decide_eq_false h); (try simp only [sg] at h); (try simp only [sx, ↓reduceIte, Nat.reduceAdd, reduceCtorEq, Int.reduceLT, Int.reduceLE, Int.reduceSub, Nat.reduceEqDiff, Nat.reduceLT] at h); try exact nz h))
    all_goals (try exact cz)
    all_goals exact ⟨_, reb_nil (k := 2) 4 encF default rfl, _, rfl, rfl, rfl⟩
  | cons a t => exact cloneF_pos (a :: t) hl (by simp)
def S_cloneF : SpecI := fun args K => ∃ l, args = [vF l] ∧ l.length < 1000 ∧ K (vF l)
theorem cloneF_ok [Syms] : ImmOk Try.prog 27 S_cloneF := by
  rintro args K ⟨l, rfl, h, hk⟩
  exact ⟨rfl, _, rfl, hk, fnI tys_ok fns_ok noneT_det noneT_ok mixed (cloneF_t l h)⟩
abbrev cPa [Syms] : CallT := pickT 22 (immT S_words) (pickT 23 (specT (lessS 1 2 S_must)) (pickT 24 (specT (lessS 1 2 (S_field 10))) (pickT 25 (specT (lessS 1 2 S_fail)) (pickT 26 (immT (seeI S_check)) (pickT 27 (immT (seeI S_cloneF)) noneT)))))
theorem cPa_ok [Syms] : cPa.ok Try.prog := pickT_imm_ok twords_ok (pickT_spec (lessS_ok tmust_ok (by decide)) (pickT_spec (lessS_ok (field_ok 10) (by decide)) (pickT_spec (lessS_ok tfail_ok (by decide)) (pickT_imm_ok schk_ok.see (pickT_imm_ok cloneF_ok.see noneT_ok)))))
theorem fin_pa [Syms] {N : Nat} {e : Env} {H : Heap} {nx : Nat} {x : Int} {p : List Fd × Int} {rs : List ResultVar} (h2 : (e.get 2).isZ 4 = true) (h3 : e.get 3 = .int .i64 x) (hp : p = ([], x))
    (hrs : resultsA (tyTab tys) ⟨[(2, vF []), (3, .int .i64 x)], [], 0⟩ rs = some (.tup [vF [], .int .i64 x])) :
    ∃ s3, Reb 0 N ⟨e, H, nx⟩ s3 ∧ ∃ v, resultsA (tyTab tys) s3 rs = some v ∧ v = parV p ∧ s3.heap = [] := by
  subst hp
  refine ⟨⟨[(2, vF []), (3, .int .i64 x)], [], 0⟩, (reb_slot (k := 2) (y := vF []) fun ι v hv => .vt _ _ _ _ (RelV.isZ (sz := 4) h2 hv)).trans ?_, _, hrs, rfl, rfl⟩
  refine (reb_sub (e3 := [(2, vF []), (3, .int .i64 x)]) (H3 := []) (fun j => ?_) (fun n b h => by rw [Heap.get_nil] at h; cases h)).trans (reb_flat [2, 3] rfl)
  rw [Env.get_cons, Env.get_cons, Env.get_cons]
  by_cases h : j = 2
  · subst h; exact .inr rfl
  · rw [beq_ff h]
    by_cases h : j = 3
    · subst h; exact .inr h3
    · rw [beq_ff h]; exact .inl (Env.get_nil j)
noncomputable abbrev plP : Nat → Nat → Pl := plAdd [(16, 8)] (plTab plt)
theorem field_pos {n : Nat} {r k d : Int} {σ : PS} (h : (fieldP (n + 1) r k d σ).e = 0) : 0 < (fieldP (n + 1) r k d σ).fs.length := by
  have hd : fieldP (n + 1) r k d σ = if (headP d σ).e ≠ 0 then headP d σ else if k ≠ 0 then mustP [59] (addP (headP d σ) ⟨nextW σ, r, k, 0⟩) else moreP (fun r k => fieldP n r k (d + 1)) (headP d σ).fs.length ((headP d σ).ws.length + 1) (mustP [123] (addP (headP d σ) ⟨nextW σ, r, k, 0⟩)) := rfl
  rw [hd] at h ⊢
  have hal : (addP (headP d σ) ⟨nextW σ, r, k, 0⟩).fs.length = (headP d σ).fs.length + 1 := by simp [addP]
  by_cases he : (headP d σ).e = 0
  · rw [if_neg (show ¬ (headP d σ).e ≠ 0 from fun x => x he)]
    by_cases hk : k = 0
    · rw [if_neg (show ¬ k ≠ 0 from fun x => x hk)]
      have h1 := (mustP_le [123] (addP (headP d σ) ⟨nextW σ, r, k, 0⟩)).fl
      have h2 := (moreP_le (a := (headP d σ).fs.length) (g := fun r k => fieldP n r k (d + 1)) (fun r k σ => fieldP_le n r k (d + 1) σ) ((headP d σ).ws.length + 1) (mustP [123] (addP (headP d σ) ⟨nextW σ, r, k, 0⟩)) (by omega)).fl
      omega
    · rw [if_pos hk]
      have h1 := (mustP_le [59] (addP (headP d σ) ⟨nextW σ, r, k, 0⟩)).fl
      omega
  · rw [if_pos he] at h
    exact absurd h he
theorem parseF_bad {s : List UInt8} {l : List Wd} (h4 : ¬ 4000 < s.length) (hl : wordsF s = some l) {σ τ : PS} (hσ : mustP kwMsg ⟨l, [], 0⟩ = σ) (hτ : fieldP 10 0 0 0 σ = τ) (he : τ.e ≠ 0) : parseF s = ([], τ.e) := by
  rw [parseF, if_neg h4, hl]
  simp only
  rw [hσ, hτ]
  have e2 : (if τ.ws ≠ [] then failP τ 6 else τ) = τ := by rw [failP, if_neg he]; split <;> rfl
  rw [e2, if_neg he, if_pos he]
theorem parseF_more {s : List UInt8} {l : List Wd} (h4 : ¬ 4000 < s.length) (hl : wordsF s = some l) {σ : PS} {ws : List Wd} {fs : List Fd} (hσ : mustP kwMsg ⟨l, [], 0⟩ = σ) (hτ : fieldP 10 0 0 0 σ = ⟨ws, fs, 0⟩) (hw : ws ≠ []) : parseF s = ([], 6) := by
  rw [parseF, if_neg h4, hl]
  simp only
  rw [hσ, hτ]
  rw [if_pos (show (⟨ws, fs, 0⟩ : PS).ws ≠ [] from hw)]
  rfl
theorem parseF_end {s : List UInt8} {l : List Wd} (h4 : ¬ 4000 < s.length) (hl : wordsF s = some l) {σ : PS} {ws : List Wd} {fs : List Fd} (hσ : mustP kwMsg ⟨l, [], 0⟩ = σ) (hτ : fieldP 10 0 0 0 σ = ⟨ws, fs, 0⟩) (hw : ws = []) : parseF s = if checkF fs ≠ 0 then ([], checkF fs) else (fs, 0) := by
  subst hw
  rw [parseF, if_neg h4, hl]
  simp only
  rw [hσ, hτ]
  rw [if_neg (show ¬ (⟨[], fs, 0⟩ : PS).ws ≠ [] from fun h => h rfl)]
  rfl
theorem parse_t [Syms] (s : List UInt8) (hs : s.length ≤ 9223372036854775807) :
    fnT noneT cPa (fnTab fns) (tyTab tys) plP 100 16 [.str s] [] 0 (fun v H _ => v = parV (parseF s) ∧ H = []) := by
  by_cases h4 : 4000 < s.length
  · have hp : parseF s = ([], 5) := if_pos h4
    repeat' (first | (refine And.intro ?_ ?_) | (intro h; (try first | replace h := of_decide_eq_true h | replace h := of_decide_eq_false h); (try simp only [sg] at h); (try simp only [sx, ↓reduceIte, Nat.reduceAdd, reduceCtorEq, Int.reduceLT, Int.reduceLE, Int.reduceSub, Nat.reduceEqDiff, Nat.reduceLT] at h); try exact nz h))
    all_goals (try exact cz)
    exact fin_pa rfl rfl hp rfl
  · have hp := parseF.eq_1 s
    rw [if_neg h4] at hp
    repeat' (first | (refine And.intro ?_ ?_) | (intro h; (try first | replace h := of_decide_eq_true h | replace h := of_decide_eq_false h); (try simp only [sg] at h); (try simp only [sx, ↓reduceIte, Nat.reduceAdd, reduceCtorEq, Int.reduceLT, Int.reduceLE, Int.reduceSub, Nat.reduceEqDiff, Nat.reduceLT] at h); try exact nz h))
    all_goals (try exact cz)
    refine ⟨s, rfl, by omega, ?_, ?_⟩
    · intro hn
      rw [hn] at hp
      repeat' (first | (refine And.intro ?_ ?_) | (intro h; (try first | replace h := of_decide_eq_true h | replace h := of_decide_eq_false h); (try simp only [sg] at h); (try simp only [sx, ↓reduceIte, Nat.reduceAdd, reduceCtorEq, Int.reduceLT, Int.reduceLE, Int.reduceSub, Nat.reduceEqDiff, Nat.reduceLT] at h); try exact nz h))
      all_goals (try exact cz)
      exact fin_pa rfl rfl hp rfl
    · intro l hl
      rw [hl] at hp
      repeat' (first | (refine And.intro ?_ ?_) | (intro h; (try first | replace h := of_decide_eq_true h | replace h := of_decide_eq_false h); (try simp only [sg] at h); (try simp only [sx, ↓reduceIte, Nat.reduceAdd, reduceCtorEq, Int.reduceLT, Int.reduceLE, Int.reduceSub, Nat.reduceEqDiff, Nat.reduceLT] at h); try exact nz h))
      all_goals (try exact cz)
      have hl5 : l.length ≤ 5000 := by
        have h1 := words_len hl
        have h2 := sumL_count fun w hw => (words_ok hl w hw).1
        omega
      have hI : PInv (mustP kwMsg ⟨l, [], 0⟩) := (mustP_le kwMsg ⟨l, [], 0⟩).inv ⟨hl5, fun w hw => by have h1 := words_len hl; have h2 := sumL_mem (show w ∈ l from hw); omega, by simp, by simp, by simp⟩
      refine ⟨[0], [.ptr 0 0 0, .str kwMsg], [(0, pB l .nils 0)], rfl, ⟨.refl _, .refl _, trivial⟩, ⟨⟨by decide, _, rfl, .refl _⟩, trivial⟩, rfl, ⟨l, [], 0⟩, .nils, kwMsg, rfl, rfl, rfl, ⟨svOk_nils, hl5⟩, ?_⟩
      generalize hσ : mustP kwMsg ⟨l, [], 0⟩ = σ at *
      have hσf : σ.fs = [] := by rw [← hσ, mustP_fs]
      repeat' (first | (refine And.intro ?_ ?_) | (intro h; (try first | replace h := of_decide_eq_true h | replace h := of_decide_eq_false h); (try simp only [sg] at h); (try simp only [sx, ↓reduceIte, Nat.reduceAdd, reduceCtorEq, Int.reduceLT, Int.reduceLE, Int.reduceSub, Nat.reduceEqDiff, Nat.reduceLT] at h); try exact nz h))
      all_goals (try exact cz)
      refine ⟨[0], [.ptr 0 0 0, .int .i64 0, .int .i64 0, .int .i64 0], [(0, pB σ.ws .nils σ.e)], rfl, ⟨.refl _, .refl _, .refl _, .refl _, trivial⟩, ⟨⟨by decide, _, rfl, .refl _⟩, trivial⟩, rfl, σ, 0, 0, 0, rfl, .inl ⟨hσf, rfl⟩, rfl, ⟨hI, by decide, by decide, by decide⟩, ?_, ?_⟩
      · intro he
        have hx1 : True = True := rfl
        have hI2 : PInv (fieldP 10 0 0 0 σ) := (fieldP_le 10 0 0 0 σ).inv hI
        generalize hτ : fieldP 10 0 0 0 σ = τ at *
        have hp := parseF_bad h4 hl hσ hτ he
        obtain ⟨ws, fs, e⟩ := τ
        have hp : parseF s = ([], e) := hp
        have he : e ≠ 0 := he
        have hlw : ws.length ≤ 5000 := hI2.len
        repeat' (first | (refine And.intro ?_ ?_) | (intro h; (try first | replace h := of_decide_eq_true h | replace h := of_decide_eq_false h); (try simp only [p_e, sg, hx1] at h); (try simp only [sx, ↓reduceIte, Nat.reduceAdd, reduceCtorEq, Int.reduceLT, Int.reduceLE, Int.reduceSub, Nat.reduceEqDiff, Nat.reduceLT] at h); try exact nz h))
        all_goals (try exact cz)
        refine ⟨⟨[(6, .ptr 0 0 0)], [(0, pB ws .any e)], 1⟩, reb_num [0] (by first | rfl | kernel_rfl) ⟨.refl _, trivial⟩ ⟨⟨by decide, _, rfl, .refl _⟩, trivial⟩, ?_⟩
        have hfa : failP (⟨ws, fs, e⟩ : PS) 6 = ⟨ws, fs, e⟩ := if_neg he
        by_cases hw : ws.length = 0
        · repeat' (first | (refine And.intro ?_ ?_) | (intro h; (try first | replace h := of_decide_eq_true h | replace h := of_decide_eq_false h); (try simp only [p_e, sg, hx1] at h); (try simp only [sx, ↓reduceIte, Nat.reduceAdd, reduceCtorEq, Int.reduceLT, Int.reduceLE, Int.reduceSub, Nat.reduceEqDiff, Nat.reduceLT] at h); try exact nz h))
          all_goals (try exact cz)
          all_goals (refine fin_pa ?_ ?_ hp ?_ <;> rfl)
        · repeat' (first | (refine And.intro ?_ ?_) | (intro h; (try first | replace h := of_decide_eq_true h | replace h := of_decide_eq_false h); (try simp only [p_e, sg, hx1] at h); (try simp only [sx, ↓reduceIte, Nat.reduceAdd, reduceCtorEq, Int.reduceLT, Int.reduceLE, Int.reduceSub, Nat.reduceEqDiff, Nat.reduceLT] at h); try exact nz h))
          all_goals (try exact cz)
          refine ⟨[0], [.ptr 0 0 0, .int .i64 6], [(0, pB ws .any e)], rfl, ⟨.refl _, .refl _, trivial⟩, ⟨⟨by decide, _, rfl, .refl _⟩, trivial⟩, rfl, ⟨ws, fs, e⟩, .any, 6, rfl, rfl, rfl, fun _ => rfl, ?_⟩
          rw [hfa]
          repeat' (first | (refine And.intro ?_ ?_) | (intro h; (try first | replace h := of_decide_eq_true h | replace h := of_decide_eq_false h); (try simp only [p_e, sg, hx1] at h); (try simp only [sx, ↓reduceIte, Nat.reduceAdd, reduceCtorEq, Int.reduceLT, Int.reduceLE, Int.reduceSub, Nat.reduceEqDiff, Nat.reduceLT] at h); try exact nz h))
          all_goals (try exact cz)
          all_goals (refine fin_pa ?_ ?_ hp ?_ <;> rfl)
      · intro he
        have hx1 : True = True := rfl
        have hpos := field_pos he
        have hI2 : PInv (fieldP 10 0 0 0 σ) := (fieldP_le 10 0 0 0 σ).inv hI
        generalize hτ : fieldP 10 0 0 0 σ = τ at *
        obtain ⟨ws, fs, e⟩ := τ
        have he : e = 0 := he
        subst he
        have hpos : 0 < fs.length := hpos
        have hlw : ws.length ≤ 5000 := hI2.len
        have hfl : fs.length ≤ 40 := hI2.fl
        have hF : FsOk fs := ⟨by omega, fun i => ?_, fun i => ?_⟩
        rotate_left
        · rcases Nat.lt_or_ge i fs.length with h | h
          · have := (hI2.kids (fs.getD i default) (by rw [List.getD_eq_getElem?_getD, List.getElem?_eq_getElem h]; exact List.getElem_mem _)).2
            simp only at this; omega
          · rw [List.getD_eq_getElem?_getD, List.getElem?_eq_none h]; decide
        · rcases Nat.lt_or_ge i fs.length with h | h
          · have := hI2.names (fs.getD i default) (by rw [List.getD_eq_getElem?_getD, List.getElem?_eq_getElem h]; exact List.getElem_mem _)
            omega
          · rw [List.getD_eq_getElem?_getD, List.getElem?_eq_none h]; decide
        repeat' (first | (refine And.intro ?_ ?_) | (intro h; (try first | replace h := of_decide_eq_true h | replace h := of_decide_eq_false h); (try simp only [p_e, sg, hx1] at h); (try simp only [sx, ↓reduceIte, Nat.reduceAdd, reduceCtorEq, Int.reduceLT, Int.reduceLE, Int.reduceSub, Nat.reduceEqDiff, Nat.reduceLT] at h); try exact nz h))
        all_goals (try exact cz)
        refine ⟨⟨[(6, .ptr 0 0 0)], [(0, pB ws (.vs 4 (fs.map encF)) 0)], 1⟩, Reb.trans (s' := ⟨[(6, .ptr 0 0 0)], [(0, pB ws (.slice 1 0 fs.length 4 none) 0), (1, sB fs)], 2⟩) (reb_num [0, 5] (by first | rfl | kernel_rfl) ⟨.refl _, trivial⟩ ⟨⟨by decide, _, rfl, .refl _⟩, ⟨by decide, _, rfl, wkB_eq (ren_mapF _ _) (fF _)⟩, trivial⟩) (Reb.trans (s' := ⟨[(6, .ptr 0 0 0)], [(0, pB ws (.vs 4 (fs.map encF)) 0)], 2⟩) (reb_freezeG (n := 1) (rows := fs.map encF) rfl (fF _) ⟨.same _, trivial⟩ ⟨⟨by decide, .cells [[vW ws, .slice 1 0 fs.length 4 none, .int .i64 0]] false, rfl, .cells _ _ _ rfl ?_⟩, trivial⟩) (reb_num [0] (by first | rfl | kernel_rfl) ⟨.refl _, trivial⟩ ⟨⟨by decide, _, rfl, .refl _⟩, trivial⟩)), ?_⟩
        · intro k r r' h1 h2
          cases k with
          | zero =>
            cases h1; cases h2
            refine ⟨.same _, ?_, .same _, trivial⟩
            have := FzV.sl (n := 1) (rows := fs.map encF) 0 fs.length 4 none hpos (by simp)
            rw [List.drop_zero, List.take_of_length_le (by simp)] at this
            exact this
          | succ k => cases h2
        by_cases hw : ws.length = 0
        · have hp := parseF_end h4 hl hσ hτ (List.eq_nil_of_length_eq_zero hw)
          repeat' (first | (refine And.intro ?_ ?_) | (intro h; (try first | replace h := of_decide_eq_true h | replace h := of_decide_eq_false h); (try simp only [p_e, sg, hx1] at h); (try simp only [sx, ↓reduceIte, Nat.reduceAdd, reduceCtorEq, Int.reduceLT, Int.reduceLE, Int.reduceSub, Nat.reduceEqDiff, Nat.reduceLT] at h); try exact nz h))
          all_goals (try exact cz)
          refine ⟨[vF fs], ⟨.tab _ _ _ _ (tabR_map encF default fs).symm, trivial⟩, fs, rfl, hF, ?_⟩
          refine ⟨[0], [.ptr 0 0 0, .int .i64 (checkF fs)], [(0, pB ws (.vs 4 (fs.map encF)) 0)], rfl, ⟨.refl _, .refl _, trivial⟩, ⟨⟨by decide, _, rfl, .refl _⟩, trivial⟩, rfl, ⟨ws, fs, 0⟩, .vs 4 (fs.map encF), checkF fs, rfl, rfl, rfl, fun _ => rfl, ?_⟩
          rw [show failP (⟨ws, fs, 0⟩ : PS) (checkF fs) = ⟨ws, fs, checkF fs⟩ from rfl]
          generalize checkF fs = x at *
          by_cases hx : x = 0
          · subst hx
            rw [if_neg (fun h => h rfl)] at hp
            repeat' (first | (refine And.intro ?_ ?_) | (intro h; (try first | replace h := of_decide_eq_true h | replace h := of_decide_eq_false h); (try simp only [p_e, sg, hx1] at h); (try simp only [sx, ↓reduceIte, Nat.reduceAdd, reduceCtorEq, Int.reduceLT, Int.reduceLE, Int.reduceSub, Nat.reduceEqDiff, Nat.reduceLT] at h); try exact nz h))
            all_goals (try exact cz)
            refine ⟨[vF fs], ⟨.tab _ _ _ _ (tabR_map encF default fs).symm, trivial⟩, fs, rfl, by omega, ?_⟩
            repeat' (first | (refine And.intro ?_ ?_) | (intro h; (try first | replace h := of_decide_eq_true h | replace h := of_decide_eq_false h); (try simp only [p_e, sg, hx1] at h); (try simp only [sx, ↓reduceIte, Nat.reduceAdd, reduceCtorEq, Int.reduceLT, Int.reduceLE, Int.reduceSub, Nat.reduceEqDiff, Nat.reduceLT] at h); try exact nz h))
            all_goals (try exact cz)
            rw [hp]
            exact ⟨_, reb_flat [2, 3] rfl, _, rfl, rfl, rfl⟩
          · rw [if_pos hx] at hp
            repeat' (first | (refine And.intro ?_ ?_) | (intro h; (try first | replace h := of_decide_eq_true h | replace h := of_decide_eq_false h); (try simp only [p_e, sg, hx1] at h); (try simp only [sx, ↓reduceIte, Nat.reduceAdd, reduceCtorEq, Int.reduceLT, Int.reduceLE, Int.reduceSub, Nat.reduceEqDiff, Nat.reduceLT] at h); try exact nz h))
            all_goals (try exact cz)
            all_goals (refine fin_pa ?_ ?_ hp ?_ <;> rfl)
        · have hp := parseF_more h4 hl hσ hτ (fun h => hw (by rw [h]; rfl))
          repeat' (first | (refine And.intro ?_ ?_) | (intro h; (try first | replace h := of_decide_eq_true h | replace h := of_decide_eq_false h); (try simp only [p_e, sg, hx1] at h); (try simp only [sx, ↓reduceIte, Nat.reduceAdd, reduceCtorEq, Int.reduceLT, Int.reduceLE, Int.reduceSub, Nat.reduceEqDiff, Nat.reduceLT] at h); try exact nz h))
          all_goals (try exact cz)
          refine ⟨[0], [.ptr 0 0 0, .int .i64 6], [(0, pB ws .any 0)], rfl, ⟨.refl _, .refl _, trivial⟩, ⟨⟨by decide, _, rfl, wkE rfl⟩, trivial⟩, rfl, ⟨ws, fs, 0⟩, .any, 6, rfl, rfl, rfl, fun _ => rfl, ?_⟩
          rw [show failP (⟨ws, fs, 0⟩ : PS) 6 = ⟨ws, fs, 6⟩ from rfl]
          repeat' (first | (refine And.intro ?_ ?_) | (intro h; (try first | replace h := of_decide_eq_true h | replace h := of_decide_eq_false h); (try simp only [p_e, sg, hx1] at h); (try simp only [sx, ↓reduceIte, Nat.reduceAdd, reduceCtorEq, Int.reduceLT, Int.reduceLE, Int.reduceSub, Nat.reduceEqDiff, Nat.reduceLT] at h); try exact nz h))
          all_goals (try exact cz)
          all_goals (refine fin_pa ?_ ?_ hp ?_ <;> rfl)
def S_parse : SpecI := fun args K => ∃ s, args = [.str s] ∧ s.length ≤ 9223372036854775807 ∧ K (parV (parseF s))
theorem parse_ok [Syms] : ImmOk Try.prog 16 S_parse := by
  rintro args K ⟨s, rfl, h, hk⟩
  exact ⟨rfl, _, rfl, hk, fnI tys_ok fns_ok noneT_det cPa_ok mixed (parse_t s h)⟩
end Go.Proofs.Ytjffmehcbaechaa
