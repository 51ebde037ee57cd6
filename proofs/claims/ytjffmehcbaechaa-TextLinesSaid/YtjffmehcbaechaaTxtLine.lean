/-
  The printer's small steps: 'word', 'WriteString', 'line'. The program's.
-/
import Derived.Test.YtjffmehcbaechaaTxtStr
set_option linter.unusedVariables false
set_option linter.unusedSimpArgs false
namespace Go.Proofs.Ytjffmehcbaechaa
open Go Go.Av
set_option maxRecDepth 100000
set_option maxHeartbeats 4000000
theorem word_t [Syms] (l : List Wd) (k : Int) (h0 : 0 ≤ k) (h1 : k < l.length) (hl : l.length < 1000) :
    fnT noneT noneT (fnTab fns) (tyTab tys) (plTab plt) 100 54 [vW l, .int .i64 k] [] 0 (fun v H _ => v = .str (l.getD k.toNat []) ∧ H = []) := by
  repeat' (first | (refine And.intro ?_ ?_) | (intro h; (try first | replace h := of_decide_eq_true h | replace h := of_decide_eq_false h); (try simp only [sg] at h); (try simp only [sx, ↓reduceIte, Nat.reduceAdd, reduceCtorEq, Int.reduceLT, Int.reduceLE, Int.reduceSub, Nat.reduceEqDiff, Nat.reduceLT] at h); try exact nz h))
  all_goals (try exact cz)
  refine ⟨_, reb_flat [4] rfl, _, rfl, congrArg (fun n => AVal.str (l.getD n [])) ?_, rfl⟩
  first | rfl | omega
def S_word : SpecI := fun args K => ∃ (l : List Wd) (k : Int), args = [vW l, .int .i64 k] ∧ (0 ≤ k ∧ k < l.length ∧ l.length < 1000) ∧ K (.str (l.getD k.toNat []))
theorem word_ok [Syms] : ImmOk Try.prog 54 S_word := by
  rintro args K ⟨l, k, rfl, ⟨h0, h1, h2⟩, hk⟩
  exact ⟨rfl, _, rfl, hk, fnI tys_ok fns_ok noneT_det noneT_ok mixed (word_t l k h0 h1 h2)⟩
def oB (s : List Fd) (x u : AVal) : Option Blk := some (.cells [[vF s, x, u]] false)
/-- A printer: what is left, and the text so far; none: nothing is written. -/
def hPr (m : Nat) (s : List Fd) : Option (List UInt8) → Heap
  | none => [(0, oB s (.tagp 0 70) .tnils)]
  | some out => [(0, oB s (.ptr 0 0 1) (.tslice m out.length 1 5)), (m, some (.cells (bR out) false))]
abbrev outO (o : Option (List UInt8)) : List UInt8 := o.getD []
theorem all1 (t : List UInt8) : allLen 1 (t.map fun b => [AVal.int .u8 b.toNat]) = true := by
  have := allLen_cut (enc := fun b : UInt8 => [AVal.int .u8 b.toNat]) (z := 1) (fun _ => rfl) t 0 t.length
  rwa [List.drop_zero, List.take_of_length_le (by rw [List.length_map]; exact Nat.le_refl _)] at this
theorem wkO {ρ : Nat → Nat} {s : List Fd} {n m k b : Nat} {R : List (List AVal)} (h : R = [[vF s, .ptr 0 0 1, .tslice k n 1 5]]) (hn : n = m) (h0 : ρ 0 = 0) (h1 : ρ b = k) : WkB (.cells R false) ((Blk.cells [[vF s, .ptr 0 0 1, .tslice b m 1 5]] false).ren ρ) := by
  show WkB _ (.cells [[vF s, .ptr (ρ 0) 0 1, .tslice (ρ b) m 1 5]] false)
  rw [h0, h1, h, hn]
  exact .refl _
abbrev cCp : CallT := pickT 65 copyT noneT
theorem cCp_ok [Syms] : cCp.ok Try.prog := (pickT_one copy_one noneT_det).ok
theorem ws_t [Syms] {Post : AVal → Heap → Nat → Prop} (o : Option (List UInt8)) (s : List Fd) (t : List UInt8) (ht : t.length ≠ 0) (hl : (outO o).length + t.length ≤ 1000000)
    (hP : Post (.tup [.int .i64 t.length, .nili]) (hPr 2 s (some (outO o ++ t))) 3) :
    fnT noneT cCp (fnTab fns) (tyTab tys) (plTab plt) 100 62 [.ptr 0 0 1, .str t] (hPr 1 s o) 2 Post := by
  cases o with
  | none =>
    have hl : 0 + t.length ≤ 1000000 := hl
    repeat' (first | (refine And.intro ?_ ?_) | (intro h; (try first | replace h := of_decide_eq_true h | replace h := of_decide_eq_false h); (try simp only [sg] at h); (try simp only [sx, ↓reduceIte, Nat.reduceAdd, reduceCtorEq, Int.reduceLT, Int.reduceLE, Int.reduceSub, Nat.reduceEqDiff, Nat.reduceLT] at h); try exact nz h))
    all_goals (try exact cz)
    refine ⟨0, _, _, _, rfl, rfl, .inl rfl, ?_⟩
    repeat' (first | (refine And.intro ?_ ?_) | (intro h; (try first | replace h := of_decide_eq_true h | replace h := of_decide_eq_false h); (try simp only [sg] at h); (try simp only [sx, ↓reduceIte, Nat.reduceAdd, reduceCtorEq, Int.reduceLT, Int.reduceLE, Int.reduceSub, Nat.reduceEqDiff, Nat.reduceLT] at h); try exact nz h))
    all_goals (try exact cz)
    · exact all1 t
    · exact ⟨⟨[(4, .int .i64 t.length), (5, .nili)], hPr 2 s (some t), 3⟩, reb_num [0, 1, 2] (by first | rfl | kernel_rfl) ⟨.refl _, .refl _, trivial⟩ ⟨⟨by decide, _, rfl, wkO rfl (List.length_map _) rfl rfl⟩, ⟨by decide, _, rfl, wkB_eq rfl (bR_flat _)⟩, trivial⟩, _, rfl, hP⟩
  | some out =>
    have hl : out.length + t.length ≤ 1000000 := hl
    have hol : (bR out).length = out.length := List.length_map _
    repeat' (first | (refine And.intro ?_ ?_) | (intro h; (try first | replace h := of_decide_eq_true h | replace h := of_decide_eq_false h); (try simp only [sg] at h); (try simp only [sx, ↓reduceIte, Nat.reduceAdd, reduceCtorEq, Int.reduceLT, Int.reduceLE, Int.reduceSub, Nat.reduceEqDiff, Nat.reduceLT] at h); try exact nz h))
    all_goals (try exact cz)
    refine ⟨0, _, _, _, rfl, rfl, .inr rfl, ?_⟩
    repeat' (first | (refine And.intro ?_ ?_) | (intro h; (try first | replace h := of_decide_eq_true h | replace h := of_decide_eq_false h); (try simp only [sg] at h); (try simp only [sx, ↓reduceIte, Nat.reduceAdd, reduceCtorEq, Int.reduceLT, Int.reduceLE, Int.reduceSub, Nat.reduceEqDiff, Nat.reduceLT] at h); try exact nz h))
    all_goals (try exact cz)
    · exact all1 t
    · refine ⟨⟨[(4, .int .i64 t.length), (5, .nili)], hPr 2 s (some (out ++ t)), 3⟩, reb_num [0, 1, 2] (by first | rfl | kernel_rfl) ⟨.refl _, .refl _, trivial⟩ ⟨⟨by decide, _, rfl, wkO rfl (by rw [List.length_map, List.length_append]) rfl rfl⟩, ⟨by decide, _, rfl, wkB_eq ?_ (bR_flat _)⟩, trivial⟩, _, rfl, hP⟩
      show List.take out.length (List.drop 0 (bR out)) ++ _ = bR (out ++ t)
      rw [List.drop_zero, List.take_of_length_le (by omega), bR_app]
      rfl
def S_ws : SpecT := fun args H nx Post => ∃ (o : Option (List UInt8)) (s : List Fd) (t : List UInt8), args = [.ptr 0 0 1, .str t] ∧ H = hPr 1 s o ∧ nx = 2 ∧ (t.length ≠ 0 ∧ (outO o).length + t.length ≤ 1000000) ∧ Post (.tup [.int .i64 t.length, .nili]) (hPr 2 s (some (outO o ++ t))) 3
theorem ws_ok [Syms] : S_ws.ok Try.prog 62 := by
  rintro args H nx Post ⟨o, s, t, rfl, rfl, rfl, ⟨h1, h2⟩, h3⟩
  exact fnT_sound tys_ok fns_ok noneT_det cCp_ok mixed (ws_t o s t h1 h2 h3)
/-! ### A line -/
theorem rep_blanks : ∀ d : Nat, Lib.repeatL [32, 32] d = blanksT d
  | 0 => rfl
  | d + 1 => by
    rw [blanksT_succ, ← rep_blanks d, Lib.repeatL_add, Lib.repeatL_one]
def lineT (d : Nat) (xs : List Wd) : List UInt8 := blanksT d ++ Lib.join xs [32] ++ [10]
/-- Calls whose answer is one, out of those with an answer of some. -/
def oneT (c : CallT) : CallT := fun f args H nx K => ∃ v0 H0 nx0, c f args H nx (fun v H' nx' => v = v0 ∧ H' = H0 ∧ nx' = nx0) ∧ K v0 H0 nx0
theorem oneT_det [Syms] {P : Program} {c : CallT} (hc : c.ok P) : (oneT c).det P := by
  rintro f args H nx K ⟨v0, H0, nx0, h, hK⟩
  obtain ⟨h1, h2⟩ := hc f args H nx _ h
  refine ⟨v0, H0, nx0, h1, fun ι w vs ha hH hb => (h2 ι w vs ha hH hb).mono ?_, hK⟩
  rintro e w' ⟨v, H', nx', r, κ, ⟨rfl, rfl, rfl⟩, g1, g2, g3, g4, g5⟩
  exact ⟨r, κ, g1, g2, g3, g4, g5⟩
abbrev cLn : CallT := pickT 63 repT (pickT 64 joinT (oneT (pickT 62 (specT S_ws) noneT)))
theorem cLn_det [Syms] : cLn.det Try.prog := pickT_one rep_one (pickT_one join_one (oneT_det (pickT_spec ws_ok noneT_ok)))
theorem renB_flat (ρ : Nat → Nat) {rows : List (List AVal)} (hf : flatRows rows) : rows.map (AVal.renL ρ) = rows := by
  rw [show rows.map (AVal.renL ρ) = rows.map id from List.map_congr_left fun r hr => renL_flat ρ (hf r hr), List.map_id]
theorem line_t [Syms] {Post : AVal → Heap → Nat → Prop} (o : Option (List UInt8)) (s : List Fd) (d : Nat) (xs : List Wd) (hx : xs ≠ []) (hd : d ≤ 1000) (hxl : xs.length ≤ 100) (hl : (outO o).length + (lineT d xs).length ≤ 100000)
    (hP : Post (.tup []) (hPr 3 s (some (outO o ++ lineT d xs))) 4) :
    fnT cLn noneT (fnTab fns) (tyTab tys) (plTab plt) 100 55 [.ptr 0 0 0, .int .i64 d, .slice 2 0 xs.length 1 none] (hPr 1 s o ++ [(2, some (.cells (xs.map encS) false))]) 3 Post := by
  have hlt : (lineT d xs).length = (blanksT d).length + (Lib.join xs [32]).length + 1 := by unfold lineT; simp only [List.length_append, List.length_cons, List.length_nil]
  have hj : (Lib.join xs [32]).length ≤ 100000 := by omega
  have g1 : (blanksT d).length + (Lib.join xs [32]).length ≤ 9223372036854775807 := by omega
  have g2 : (blanksT d ++ Lib.join xs [32]).length + 1 ≤ 9223372036854775807 := by rw [List.length_append]; omega
  cases o with
  | none =>
    have hl : 0 + (lineT d xs).length ≤ 100000 := hl
    repeat' (first | (refine And.intro ?_ ?_) | (intro h; (try first | replace h := of_decide_eq_true h | replace h := of_decide_eq_false h); (try simp only [sg] at h); (try simp only [sx, ↓reduceIte, Nat.reduceAdd, reduceCtorEq, Int.reduceLT, Int.reduceLE, Int.reduceSub, Nat.reduceEqDiff, Nat.reduceLT] at h); try exact nz h))
    all_goals (try exact cz)
    refine ⟨[32, 32], d, rfl, hd, by decide, ?_⟩
    rw [rep_blanks]
    repeat' (first | (refine And.intro ?_ ?_) | (intro h; (try first | replace h := of_decide_eq_true h | replace h := of_decide_eq_false h); (try simp only [sg] at h); (try simp only [sx, ↓reduceIte, Nat.reduceAdd, reduceCtorEq, Int.reduceLT, Int.reduceLE, Int.reduceSub, Nat.reduceEqDiff, Nat.reduceLT] at h); try exact nz h))
    all_goals (try exact cz)
    refine ⟨2, none, _, _, xs, [32], rfl, rfl, hx, fun k x h => by rw [List.getElem?_map, h]; rfl, by omega, hj, ?_⟩
    repeat' (first | (refine And.intro ?_ ?_) | (intro h; (try first | replace h := of_decide_eq_true h | replace h := of_decide_eq_false h); (try simp only [sg] at h); (try simp only [sx, ↓reduceIte, Nat.reduceAdd, reduceCtorEq, Int.reduceLT, Int.reduceLE, Int.reduceSub, Nat.reduceEqDiff, Nat.reduceLT] at h); try exact nz h))
    all_goals (try exact cz)
    all_goals (try ((with_reducible show (_ : Nat) ≤ (_ : Nat)); first | exact g1 | exact g2))
    refine ⟨_, _, _, ⟨[0, 1], [.ptr 0 0 1, .str (lineT d xs)], hPr 1 s none, rfl, ⟨.refl _, .refl _, trivial⟩, ⟨⟨by decide, _, rfl, .refl _⟩, trivial⟩, none, s, lineT d xs, rfl, rfl, rfl, ⟨by omega, by omega⟩, ⟨rfl, rfl, rfl⟩⟩, ?_⟩
    repeat' (first | (refine And.intro ?_ ?_) | (intro h; (try first | replace h := of_decide_eq_true h | replace h := of_decide_eq_false h); (try simp only [sg] at h); (try simp only [sx, ↓reduceIte, Nat.reduceAdd, reduceCtorEq, Int.reduceLT, Int.reduceLE, Int.reduceSub, Nat.reduceEqDiff, Nat.reduceLT] at h); try exact nz h))
    all_goals (try exact cz)
    refine ⟨⟨[], hPr 3 s (some (outO none ++ lineT d xs)), 4⟩, reb_num [0, 1, 2, 38654705669] (by first | rfl | kernel_rfl) trivial ⟨⟨by decide, _, rfl, wkO (k := rho [0, 1] (3 + 9 * RR) 2) rfl rfl rfl (show 38654705669 = rho [0, 1] (3 + 9 * RR) 2 from (Nat.eq_of_beq_eq_true rfl))⟩, ⟨by decide, _, rfl, wkB_eq ?_ (bR_flat _)⟩, trivial⟩, _, rfl, hP⟩
    exact renB_flat _ (bR_flat _)
  | some out =>
    have hl : out.length + (lineT d xs).length ≤ 100000 := hl
    repeat' (first | (refine And.intro ?_ ?_) | (intro h; (try first | replace h := of_decide_eq_true h | replace h := of_decide_eq_false h); (try simp only [sg] at h); (try simp only [sx, ↓reduceIte, Nat.reduceAdd, reduceCtorEq, Int.reduceLT, Int.reduceLE, Int.reduceSub, Nat.reduceEqDiff, Nat.reduceLT] at h); try exact nz h))
    all_goals (try exact cz)
    refine ⟨[32, 32], d, rfl, hd, by decide, ?_⟩
    rw [rep_blanks]
    repeat' (first | (refine And.intro ?_ ?_) | (intro h; (try first | replace h := of_decide_eq_true h | replace h := of_decide_eq_false h); (try simp only [sg] at h); (try simp only [sx, ↓reduceIte, Nat.reduceAdd, reduceCtorEq, Int.reduceLT, Int.reduceLE, Int.reduceSub, Nat.reduceEqDiff, Nat.reduceLT] at h); try exact nz h))
    all_goals (try exact cz)
    refine ⟨2, none, _, _, xs, [32], rfl, rfl, hx, fun k x h => by rw [List.getElem?_map, h]; rfl, by omega, hj, ?_⟩
    repeat' (first | (refine And.intro ?_ ?_) | (intro h; (try first | replace h := of_decide_eq_true h | replace h := of_decide_eq_false h); (try simp only [sg] at h); (try simp only [sx, ↓reduceIte, Nat.reduceAdd, reduceCtorEq, Int.reduceLT, Int.reduceLE, Int.reduceSub, Nat.reduceEqDiff, Nat.reduceLT] at h); try exact nz h))
    all_goals (try exact cz)
    all_goals (try ((with_reducible show (_ : Nat) ≤ (_ : Nat)); first | exact g1 | exact g2))
    refine ⟨_, _, _, ⟨[0, 1], [.ptr 0 0 1, .str (lineT d xs)], hPr 1 s (some out), rfl, ⟨.refl _, .refl _, trivial⟩, ⟨⟨by decide, _, rfl, .refl _⟩, ⟨by decide, _, rfl, wkB_same (bR_flat _)⟩, trivial⟩, (some out), s, lineT d xs, rfl, rfl, rfl, ⟨by omega, by omega⟩, ⟨rfl, rfl, rfl⟩⟩, ?_⟩
    repeat' (first | (refine And.intro ?_ ?_) | (intro h; (try first | replace h := of_decide_eq_true h | replace h := of_decide_eq_false h); (try simp only [sg] at h); (try simp only [sx, ↓reduceIte, Nat.reduceAdd, reduceCtorEq, Int.reduceLT, Int.reduceLE, Int.reduceSub, Nat.reduceEqDiff, Nat.reduceLT] at h); try exact nz h))
    all_goals (try exact cz)
    refine ⟨⟨[], hPr 3 s (some (outO (some out) ++ lineT d xs)), 4⟩, reb_num [0, 1, 2, 38654705669] (by first | rfl | kernel_rfl) trivial ⟨⟨by decide, _, rfl, wkO (k := rho [0, 1] (3 + 9 * RR) 2) rfl rfl rfl (show 38654705669 = rho [0, 1] (3 + 9 * RR) 2 from (Nat.eq_of_beq_eq_true rfl))⟩, ⟨by decide, _, rfl, wkB_eq ?_ (bR_flat _)⟩, trivial⟩, _, rfl, hP⟩
    exact renB_flat _ (bR_flat _)
def S_line : SpecT := fun args H nx Post => ∃ (o : Option (List UInt8)) (s : List Fd) (d : Nat) (xs : List Wd), args = [.ptr 0 0 0, .int .i64 d, .slice 2 0 xs.length 1 none] ∧ H = hPr 1 s o ++ [(2, some (.cells (xs.map encS) false))] ∧ nx = 3 ∧ (xs ≠ [] ∧ d ≤ 1000 ∧ xs.length ≤ 100 ∧ (outO o).length + (lineT d xs).length ≤ 100000) ∧ Post (.tup []) (hPr 3 s (some (outO o ++ lineT d xs))) 4
theorem line_ok [Syms] : S_line.ok Try.prog 55 := by
  rintro args H nx Post ⟨o, s, d, xs, rfl, rfl, rfl, ⟨h1, h2, h3, h4⟩, h5⟩
  exact fnT_sound tys_ok fns_ok cLn_det noneT_ok mixed (line_t o s d xs h1 h2 h3 h4 h5)
end Go.Proofs.Ytjffmehcbaechaa
