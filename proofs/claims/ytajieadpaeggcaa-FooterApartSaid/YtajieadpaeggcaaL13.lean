/-
  Files' descriptions made of raw numbers. The statements'.
-/
import Derived.Test.YtajieadpaeggcaaL11
import Derived.Test.YtajieadpaeggcaaL12
set_option linter.unusedVariables false
set_option linter.unusedSimpArgs false
section
set_option linter.unusedVariables false
set_option linter.unusedSimpArgs false
namespace Go.Proofs.Ytajieadpaeggcaa
open Go Go.Av
set_option maxRecDepth 100000
set_option maxHeartbeats 4000000
/-! Slices that may be nil -/
def ownC {α : Type} (n sz : Nat) (l : List α) : AVal := match l with
 | [] => .nils
 | a :: t => .slice n 0 (a :: t).length sz none
def ownB {α : Type} (enc : α → List AVal) (l : List α) : Option Blk := match l with
 | [] => none
 | a :: t => some (.cells ((a :: t).map enc) false)
theorem ownC_some {α : Type} (n sz : Nat) {l : List α} (h : 0 < l.length) : ownC n sz l = .slice n 0 l.length sz none := by
 cases l with
 | nil => cases h
 | cons a t => rfl
theorem ownB_some {α : Type} (enc : α → List AVal) {l : List α} (h : 0 < l.length) : ownB enc l = some (.cells (l.map enc) false) := by
 cases l with
 | nil => cases h
 | cons a t => rfl
theorem wkOwn {α : Type} {ρ : Nat → Nat} {n sz : Nat} {l : List α} (h : ρ n = n) : WkV (ownC n sz l) ((ownC n sz l).ren ρ) := by
 cases l with
 | nil => exact .refl _
 | cons a t => simp only [ownC, AVal.ren, h]; exact .refl _
theorem wkOwn1 {α : Type} {ρ : Nat → Nat} {n K sz len : Nat} {cap : Option Nat} {l : List α} (h : ρ n = K) (hl : len = l.length) (h0 : 0 < l.length) : WkV (.slice K 0 len sz cap) ((ownC n sz l).ren ρ) := by
 rw [ownC_some n sz h0]
 subst hl h
 exact .cap _ _ _ _ _
theorem hokB {ρ : Nat → Nat} {n m : Nat} {H t : Heap} {ob : Option Blk} (hb : ∀ b, ob = some b → m < n ∧ ∃ b0, H.get (ρ m) = some b0 ∧ WkB b0 (b.ren ρ)) (ht : HeapOk ρ n H t) : HeapOk ρ n H ((m, ob) :: t) := by
 cases ob with
 | none => exact ht
 | some b => exact ⟨hb b rfl, ht⟩
theorem hokOwn {α : Type} {ρ : Nat → Nat} {n m : Nat} {H t : Heap} {enc : α → List AVal} {l : List α} (hf : flatRows (l.map enc)) (hm : m < n) (h : H.get (ρ m) = ownB enc l) (ht : HeapOk ρ n H t) : HeapOk ρ n H ((m, ownB enc l) :: t) := by
 refine hokB (fun b hb => ⟨hm, b, h.trans hb, ?_⟩) ht
 cases l with
 | nil => cases hb
 | cons a q => cases hb; exact wkB_same hf
theorem hokOwn1 {α : Type} {ρ : Nat → Nat} {n m : Nat} {H t : Heap} {enc : α → List AVal} {l : List α} {rows : List (List AVal)} (hf : flatRows (l.map enc)) (hm : m < n) (h : H.get (ρ m) = some (.cells rows false)) (hr : rows = l.map enc) (h0 : 0 < l.length) (ht : HeapOk ρ n H t) : HeapOk ρ n H ((m, ownB enc l) :: t) := by
 subst hr
 rw [ownB_some enc h0]
 exact ⟨⟨hm, _, h, wkB_same hf⟩, ht⟩
theorem reb_up [Syms] {na N : Nat} {e : Env} {H : Heap} {nx nx' : Nat} (h : nx ≤ nx') : Reb na N ⟨e, H, nx⟩ ⟨e, H, nx'⟩ :=
 ⟨fun x => Nat.le_trans x h, fun ι a w hS => ⟨ι, ⟨hS.defers, hS.size, hS.env, hS.heap, fun n L hn => ⟨Nat.lt_of_lt_of_le (hS.bound n L hn).1 h, (hS.bound n L hn).2⟩⟩, .refl ..⟩⟩
/-! Numbers -/
theorem dv_le {g : Int} (h : I64 g) (n : Int) (hn : 2 ≤ n) : -4611686018427387904 ≤ dv g n ∧ dv g n ≤ 4611686018427387904 := by
 obtain ⟨h1, h2⟩ := h
 have key : -4611686018427387904 ≤ g.tdiv n ∧ g.tdiv n ≤ 4611686018427387904 := by
  rcases Int.le_total 0 g with hg | hg
  ·rw [Int.tdiv_eq_ediv_of_nonneg hg]
   have e2 : 0 ≤ g / n := Int.ediv_nonneg hg (by omega)
   have e1 := Int.mul_le_mul_of_nonneg_left hn e2
   have e3 := Int.ediv_mul_le g (show n ≠ 0 by omega)
   generalize g / n * n = z at *
   omega
  ·have hg' : 0 ≤ -g := by omega
   have e0 : g.tdiv n = -((-g).tdiv n) := by rw [Int.neg_tdiv]; omega
   rw [e0, Int.tdiv_eq_ediv_of_nonneg hg']
   have e2 : 0 ≤ -g / n := Int.ediv_nonneg hg' (by omega)
   have e1 := Int.mul_le_mul_of_nonneg_left hn e2
   have e3 := Int.ediv_mul_le (-g) (show n ≠ 0 by omega)
   generalize -g / n * n = z at *
   omega
 unfold dv
 rw [wrI ⟨by omega, by omega⟩]
 exact key
abbrev cMk : CallT := pickT 13 (valT G_wi) (pickT 20 (immT S_make) (pickT 21 (immT S_leaves) (pickT 22 (immT S_good) noneT)))
theorem cMk_det [Syms] : cMk.det Try.prog := pickT_val wi19_ok (pickT_imm make_ok' (pickT_imm rleaves_ok (pickT_imm good_ok noneT_det)))
noncomputable def plMk : Nat → Nat → Pl := plAdd [(11, 1), (11, 5), (11, 7), (11, 10), (11, 12), (11, 15), (11, 23), (11, 24)] (plTab plt)
def oS (s : List Fd) (gs : List Int) (l : List Vl) (ls : List Lf) (a i : Nat) (N : Int) (rs : List Rw) : St := ⟨[(1, vI gs), (2, vV l), (6, .ptr 1 0 0), (7, .ptr 0 0 0), (8, vL ls), (9, .int .i64 a), (10, .int .i64 i)], [(0, some (.cells [rowM (vF s) N (ownC 3 2 rs)] false)), (1, some (.cells [rowM .nils 0 .nils] false)), (3, ownB encR rs)], 7⟩
def gS0 (s : List Fd) (gs : List Int) (l : List Vl) (ls : List Lf) (a i : Nat) (g : Int) (rs : List Rw) : St := ⟨[(1, vI gs), (2, vV l), (6, .ptr 1 0 0), (7, .ptr 0 0 0), (8, vL ls), (9, .int .i64 a), (10, .int .i64 i), (11, .ptr 2 0 0)], [(0, some (.cells [rowM (vF s) (sumR rs) (ownC 3 2 rs)] false)), (1, some (.cells [rowM .nils 0 .nils] false)), (3, ownB encR rs), (2, some (.cells [rowG (nM g) .nils] false))], 7⟩
def iS (s : List Fd) (gs : List Int) (l : List Vl) (ls : List Lf) (a i : Nat) (g : Int) (rs : List Rw) (k : Nat) (cs : List Ck) : St := ⟨[(1, vI gs), (2, vV l), (6, .ptr 1 0 0), (7, .ptr 0 0 0), (8, vL ls), (9, .int .i64 a), (10, .int .i64 i), (11, .ptr 2 0 0), (12, .int .i64 k)], [(0, some (.cells [rowM (vF s) (sumR rs + nM g) (ownC 3 2 rs)] false)), (1, some (.cells [rowM .nils 0 .nils] false)), (3, ownB encR rs), (2, some (.cells [rowG (nM g) (ownC 5 11 cs)] false)), (5, ownB encC cs)], 7⟩
def knM (g : Int) (k : Nat) : Bool := decide (0 < wi (dv g 3 + k) 3)
def gS1 (s : List Fd) (gs : List Int) (l : List Vl) (ls : List Lf) (a i : Nat) (g : Int) (rs : List Rw) (k : Nat) (cs : List Ck) : St := ⟨[(1, vI gs), (2, vV l), (6, .ptr 1 0 0), (7, .ptr 0 0 0), (8, vL ls), (9, .int .i64 a), (10, .int .i64 i), (11, .ptr 2 0 0), (12, .int .i64 k), (13, .ptr 4 0 0)], [(0, some (.cells [rowM (vF s) (sumR rs + nM g) (ownC 3 2 rs)] false)), (1, some (.cells [rowM .nils 0 .nils] false)), (3, ownB encR rs), (2, some (.cells [rowG (nM g) (ownC 5 11 cs)] false)), (5, ownB encC cs), (4, some (.cells [rowK 0 0 0 .nils (knM g k) 0 false] false))], 7⟩
def pS (s : List Fd) (gs : List Int) (l : List Vl) (ls : List Lf) (a i : Nat) (g : Int) (rs : List Rw) (k : Nat) (cs : List Ck) (left : Int) (ps : List Pg) : St := ⟨[(1, vI gs), (2, vV l), (6, .ptr 1 0 0), (7, .ptr 0 0 0), (8, vL ls), (9, .int .i64 a), (10, .int .i64 i), (11, .ptr 2 0 0), (12, .int .i64 k), (13, .ptr 4 0 0), (14, .int .i64 left)], [(0, some (.cells [rowM (vF s) (sumR rs + nM g) (ownC 3 2 rs)] false)), (1, some (.cells [rowM .nils 0 .nils] false)), (3, ownB encR rs), (2, some (.cells [rowG (nM g) (ownC 5 11 cs)] false)), (5, ownB encC cs), (4, some (.cells [rowK 0 0 0 (ownC 6 7 ps) (knM g k) 0 false] false)), (6, ownB encP ps)], 7⟩
def pR (s : List Fd) (gs : List Int) (l : List Vl) (ls : List Lf) (a i : Nat) (g : Int) (rs : List Rw) (k : Nat) (cs : List Ck) (left : Int) (ps : List Pg) : St := ⟨[(1, vI gs), (2, vV l), (6, .ptr 1 0 0), (7, .ptr 0 0 0), (8, vL ls), (9, .int .i64 a), (10, .int .i64 i), (11, .ptr 2 0 0), (12, .int .i64 k), (13, .ptr 4 0 0), (14, .int .i64 left), (15, .int .i64 (stpM g left))], [(0, some (.cells [rowM (vF s) (sumR rs + nM g) (ownC 3 2 rs)] false)), (1, some (.cells [rowM .nils 0 .nils] false)), (3, ownB encR rs), (2, some (.cells [rowG (nM g) (ownC 5 11 cs)] false)), (5, ownB encC cs), (4, some (.cells [rowK 0 0 0 (ownC 6 7 ps) (knM g k) 0 false] false)), (6, ownB encP ps)], 7⟩
theorem pgrow0 {gs : List Int} {i : Nat} {g left : Int} (hge : gs.getD i 0 = g) : [[AVal.int .i64 (stpM g left), .int .i64 (stpM g left + wi g 9), .int .i64 (wi g 2), .int .i64 (wi (dv g 2) 300), .int .i64 (wi (dv g 5) 300), .int .i64 (wi (dv g 9) 3000), .int .u32 (wr .u32 (wr .u32 (gs.getD i 0) * 77))]] = (([] : List Pg) ++ [pgM g (stpM g left)]).map encP := by rw [hge]; rfl
theorem pgrow1 {gs : List Int} {i : Nat} {g left : Int} {p0 : Pg} {pt : List Pg} (hge : gs.getD i 0 = g) : List.take (p0 :: pt).length (List.drop 0 ((p0 :: pt).map encP)) ++ [[AVal.int .i64 (stpM g left), .int .i64 (stpM g left + wi g 9), .int .i64 (wi g 2), .int .i64 (wi (dv g 2) 300), .int .i64 (wi (dv g 5) 300), .int .i64 (wi (dv g 9) 3000), .int .u32 (wr .u32 (wr .u32 (gs.getD i 0) * 77))]] = ((p0 :: pt) ++ [pgM g (stpM g left)]).map encP := by
 rw [hge, List.drop_zero, List.take_of_length_le (by simp), List.map_append]; rfl
/-- Pages of which the first ones are by a dictionary. -/
def dicAt (ps : List Pg) (j : Nat) : List Pg := (ps.take j).map d2 ++ ps.drop j
theorem dicAt_len (ps : List Pg) (j : Nat) : (dicAt ps j).length = ps.length := by simp [dicAt]; omega
theorem dicAt_at {ps : List Pg} {j : Nat} (h : j < ps.length) : (dicAt ps j).getD j default = ps.getD j default := by
 have h1 : ((ps.take j).map d2).length = j := by simp; omega
 rw [dicAt, List.getD_eq_getElem?_getD, List.getElem?_append_right (by omega), h1, Nat.sub_self, List.getElem?_drop, Nat.add_zero, List.getD_eq_getElem?_getD]
theorem dicAt_step {ps : List Pg} {j : Nat} (h : j < ps.length) : (dicAt ps j).set j (d2 (ps.getD j default)) = dicAt ps (j + 1) := by
 have h1 : ((ps.take j).map d2).length = j := by simp; omega
 rw [dicAt, List.set_append_right _ _ (by omega), h1, Nat.sub_self, List.drop_eq_getElem_cons h, List.set_cons_zero, dicAt, List.take_add_one, List.getElem?_eq_getElem h, List.map_append, List.append_assoc]
 simp [h]
theorem dicAt_end (ps : List Pg) : dicAt ps ps.length = ps.map d2 := by simp [dicAt]
theorem dicRow {ps : List Pg} {j : Nat} (h : j < ps.length) : ((dicAt ps j).map encP).set (0 + ((j : Nat) : Int).toNat) (splice (((dicAt ps j).map encP).getD (0 + ((j : Nat) : Int).toNat) []) (0 + 2) [.int .i64 2]) = (dicAt ps (j + 1)).map encP := by
 rw [Nat.zero_add, Int.toNat_natCast, row_at encP default (by rw [dicAt_len]; exact h), dicAt_at h, ← dicAt_step h, List.map_set]; rfl
def dS (s : List Fd) (gs : List Int) (l : List Vl) (ls : List Lf) (a i : Nat) (g : Int) (rs : List Rw) (k : Nat) (cs : List Ck) (ps : List Pg) (j : Nat) : St := ⟨[(1, vI gs), (2, vV l), (6, .ptr 1 0 0), (7, .ptr 0 0 0), (8, vL ls), (9, .int .i64 a), (10, .int .i64 i), (11, .ptr 2 0 0), (12, .int .i64 k), (13, .ptr 4 0 0), (16, .int .i64 j)], [(0, some (.cells [rowM (vF s) (sumR rs + nM g) (ownC 3 2 rs)] false)), (1, some (.cells [rowM .nils 0 .nils] false)), (3, ownB encR rs), (2, some (.cells [rowG (nM g) (ownC 5 11 cs)] false)), (5, ownB encC cs), (4, some (.cells [rowK 0 0 0 (.slice 6 0 ps.length 7 none) (knM g k) 0 false] false)), (6, some (.cells ((dicAt ps j).map encP) false))], 7⟩
def eS (s : List Fd) (gs : List Int) (l : List Vl) (ls : List Lf) (a i : Nat) (g : Int) (rs : List Rw) (k : Nat) (cs : List Ck) (w sz cr : Int) (n : Nat) (ps : List Pg) : St := ⟨[(1, vI gs), (2, vV l), (6, .ptr 1 0 0), (7, .ptr 0 0 0), (8, vL ls), (9, .int .i64 a), (10, .int .i64 i), (11, .ptr 2 0 0), (12, .int .i64 k), (13, .ptr 4 0 0)], [(0, some (.cells [rowM (vF s) (sumR rs + nM g) (ownC 3 2 rs)] false)), (1, some (.cells [rowM .nils 0 .nils] false)), (3, ownB encR rs), (2, some (.cells [rowG (nM g) (ownC 5 11 cs)] false)), (5, ownB encC cs), (4, some (.cells [rowK w sz cr (.slice 6 0 n 7 none) (knM g k) 0 false] false)), (6, some (.cells (ps.map encP) false))], 7⟩
def eS2 (s : List Fd) (gs : List Int) (l : List Vl) (ls : List Lf) (a i : Nat) (g : Int) (rs : List Rw) (k : Nat) (cs : List Ck) (w sz cr : Int) (ps : List Pg) (b : Bool) : St := ⟨[(1, vI gs), (2, vV l), (6, .ptr 1 0 0), (7, .ptr 0 0 0), (8, vL ls), (9, .int .i64 a), (10, .int .i64 i), (11, .ptr 2 0 0), (12, .int .i64 k), (13, .ptr 4 0 0), (166, .bool b)], [(0, some (.cells [rowM (vF s) (sumR rs + nM g) (ownC 3 2 rs)] false)), (1, some (.cells [rowM .nils 0 .nils] false)), (3, ownB encR rs), (2, some (.cells [rowG (nM g) (ownC 5 11 cs)] false)), (5, ownB encC cs), (4, some (.cells [rowK w sz cr (.slice 6 0 ps.length 7 none) (knM g k) 0 false] false)), (6, some (.cells (ps.map encP) false))], 7⟩
def fS (s : List Fd) (gs : List Int) (l : List Vl) (ls : List Lf) (a i : Nat) (g : Int) (rs : List Rw) (k : Nat) (cs : List Ck) (w sz cr : Int) (ps : List Pg) (b : Bool) : St := ⟨[(1, vI gs), (2, vV l), (6, .ptr 1 0 0), (7, .ptr 0 0 0), (8, vL ls), (9, .int .i64 a), (10, .int .i64 i), (11, .ptr 2 0 0), (12, .int .i64 k), (13, .ptr 4 0 0), (166, .bool b)], [(0, some (.cells [rowM (vF s) (sumR rs + nM g) (ownC 3 2 rs)] false)), (1, some (.cells [rowM .nils 0 .nils] false)), (3, ownB encR rs), (2, some (.cells [rowG (nM g) (ownC 5 11 cs)] false)), (5, ownB encC cs), (4, some (.cells [rowK w sz cr (.vs 7 (ps.map encP)) (knM g k) 0 false] false))], 7⟩
theorem hfz {n m : Nat} {rows : List (List AVal)} {H t : Heap} {ob : Option Blk} (hm : m ≠ n) (h : H.get m = ob) (ht : FzH n rows H t) : FzH n rows H ((m, ob) :: t) := by
 cases ob with
 | none => exact ht
 | some b => exact ⟨⟨hm, _, h, .same _⟩, ht⟩
theorem ck_fz [Syms] {N : Nat} (s : List Fd) (gs : List Int) (l : List Vl) (ls : List Lf) (a i : Nat) (g : Int) (rs : List Rw) (k : Nat) (cs : List Ck) (w sz cr : Int) (ps : List Pg) (b : Bool) (hp : 0 < ps.length) : Reb 0 N (eS2 s gs l ls a i g rs k cs w sz cr ps b) (fS s gs l ls a i g rs k cs w sz cr ps b) := by
 have hcut : ((ps.map encP).drop 0).take ps.length = ps.map encP := by rw [List.drop_zero, List.take_of_length_le (by simp)]
 have hs : FzV 6 (ps.map encP) (.slice 6 0 ps.length 7 none) (.vs 7 (ps.map encP)) := by
  have := FzV.sl (n := 6) (rows := ps.map encP) 0 ps.length 7 none hp (by simp)
  rwa [hcut] at this
 refine reb_freezeG (n := 6) (rows := ps.map encP) rfl (fP ps) ⟨.same _, .same _, .same _, .same _, .same _, .same _, .same _, .same _, .same _, .same _, .same _, trivial⟩ ?_
 refine hfz (by decide) rfl (hfz (by decide) rfl (hfz (by decide) rfl (hfz (by decide) rfl (hfz (by decide) rfl ⟨⟨by decide, _, rfl, .cells [rowK w sz cr (.slice 6 0 ps.length 7 none) (knM g k) 0 false] [rowK w sz cr (.vs 7 (ps.map encP)) (knM g k) 0 false] false rfl (fun j r r' h h' => ?_)⟩, trivial⟩))))
 cases j with
 | zero =>
   cases h; cases h'
   exact ⟨.same _, .same _, .same _, hs, .same _, .same _, .same _, .same _, .same _, .same _, .same _, trivial⟩
 | succ j => simp at h
theorem csAt_len (g : Int) (l : List Vl) (ks : List Int) (a : Nat) : ∀ k, (csAt g l ks a k).1.length = k
 | 0 => rfl
 | k + 1 => by rw [csAt, List.length_append, csAt_len g l ks a k]; rfl
abbrev mhd (s : List Fd) (N : Int) (rs : List Rw) : List AVal := rowM (vF s) N (ownC 3 2 rs)
/-- A state with the parts that all of them have. -/
theorem mk_reb [Syms] {N nx : Nat} {e e3 : Env} {H rest : Heap} {s : List Fd} {M : Int} {rs : List Rw} {row : List AVal} (q : List Nat) (hl : q.length = 7) (h0 : q.getD 0 0 = 0) (h1 : q.getD 1 0 = 1) (h3 : q.getD 3 0 = 3) (hn : NumsOk 0 nx q = true) (he : EnvOk (rho q nx) e e3)
 (H0 : H.get 0 = some (.cells [row] false)) (hrow : ∀ ρ : Nat → Nat, ρ 3 = 3 → WkVs row (AVal.renL ρ (mhd s M rs))) (H1 : H.get 1 = some (.cells [rowM .nils 0 .nils] false)) (H3 : H.get 3 = ownB encR rs) (hr : HeapOk (rho q nx) 7 H rest) :
 Reb 0 N ⟨e, H, nx⟩ ⟨e3, (0, some (.cells [mhd s M rs] false)) :: (1, some (.cells [rowM .nils 0 .nils] false)) :: (3, ownB encR rs) :: rest, 7⟩ := by
 have r0 : rho q nx 0 = 0 := by rw [rho_lt (by omega)]; exact h0
 have r1 : rho q nx 1 = 1 := by rw [rho_lt (by omega)]; exact h1
 have r3 : rho q nx 3 = 3 := by rw [rho_lt (by omega)]; exact h3
 have := reb_num (na := 0) (N := N) (s := ⟨e, H, nx⟩) (e3 := e3) (H3 := (0, some (.cells [mhd s M rs] false)) :: (1, some (.cells [rowM .nils 0 .nils] false)) :: (3, ownB encR rs) :: rest) q hn he
  ⟨⟨by omega, _, (by show H.get (rho q nx 0) = _; rw [r0]; exact H0), wkB_rw (hrow _ r3)⟩, ⟨by omega, _, (by show H.get (rho q nx 1) = _; rw [r1]; exact H1), .refl _⟩, hokOwn (fR rs) (by omega) (by show H.get (rho q nx 3) = _; rw [r3]; exact H3) (by rw [hl]; exact hr)⟩
 rw [hl] at this
 exact this
theorem mk_reb3 [Syms] {N nx K : Nat} {e e3 : Env} {H rest : Heap} {s : List Fd} {M : Int} {rs : List Rw} {row : List AVal} {rows : List (List AVal)} (q : List Nat) (hl : q.length = 7) (h0 : q.getD 0 0 = 0) (h1 : q.getD 1 0 = 1) (h3 : q.getD 3 0 = K) (hn : NumsOk 0 nx q = true) (he : EnvOk (rho q nx) e e3)
 (H0 : H.get 0 = some (.cells [row] false)) (hrow : ∀ ρ : Nat → Nat, ρ 3 = K → WkVs row (AVal.renL ρ (mhd s M rs))) (H1 : H.get 1 = some (.cells [rowM .nils 0 .nils] false)) (H3 : H.get K = some (.cells rows false)) (hrs : rows = rs.map encR) (hpos : 0 < rs.length) (hr : HeapOk (rho q nx) 7 H rest) :
 Reb 0 N ⟨e, H, nx⟩ ⟨e3, (0, some (.cells [mhd s M rs] false)) :: (1, some (.cells [rowM .nils 0 .nils] false)) :: (3, ownB encR rs) :: rest, 7⟩ := by
 have r0 : rho q nx 0 = 0 := by rw [rho_lt (by omega)]; exact h0
 have r1 : rho q nx 1 = 1 := by rw [rho_lt (by omega)]; exact h1
 have r3 : rho q nx 3 = K := by rw [rho_lt (by omega)]; exact h3
 have := reb_num (na := 0) (N := N) (s := ⟨e, H, nx⟩) (e3 := e3) (H3 := (0, some (.cells [mhd s M rs] false)) :: (1, some (.cells [rowM .nils 0 .nils] false)) :: (3, ownB encR rs) :: rest) q hn he
  ⟨⟨by omega, _, (by show H.get (rho q nx 0) = _; rw [r0]; exact H0), wkB_rw (hrow _ r3)⟩, ⟨by omega, _, (by show H.get (rho q nx 1) = _; rw [r1]; exact H1), .refl _⟩, hokOwn1 (fR rs) (by omega) (by show H.get (rho q nx 3) = _; rw [r3]; exact H3) hrs hpos (by rw [hl]; exact hr)⟩
 rw [hl] at this
 exact this
def h1S (s : List Fd) (gs : List Int) (l : List Vl) (ls : List Lf) (a i : Nat) (g : Int) (rs : List Rw) (cs : List Ck) : St := ⟨[(1, vI gs), (2, vV l), (6, .ptr 1 0 0), (7, .ptr 0 0 0), (8, vL ls), (9, .int .i64 a), (10, .int .i64 i), (11, .ptr 2 0 0), (50, .bool false)], [(0, some (.cells [rowM (vF s) (sumR rs + nM g) (ownC 3 2 rs)] false)), (1, some (.cells [rowM .nils 0 .nils] false)), (3, ownB encR rs), (2, some (.cells [rowG (nM g) (ownC 5 11 cs)] false)), (5, ownB encC cs)], 7⟩
def hS (s : List Fd) (gs : List Int) (l : List Vl) (ls : List Lf) (a i : Nat) (g : Int) (rs : List Rw) (cs : List Ck) : St := ⟨[(1, vI gs), (2, vV l), (6, .ptr 1 0 0), (7, .ptr 0 0 0), (8, vL ls), (9, .int .i64 a), (10, .int .i64 i), (11, .ptr 2 0 0), (50, .bool false)], [(0, some (.cells [rowM (vF s) (sumR rs + nM g) (ownC 3 2 rs)] false)), (1, some (.cells [rowM .nils 0 .nils] false)), (3, ownB encR rs), (2, some (.cells [encR ⟨nM g, cs⟩] false))], 7⟩
theorem gr_fz [Syms] {N : Nat} (s : List Fd) (gs : List Int) (l : List Vl) (ls : List Lf) (a i : Nat) (g : Int) (rs : List Rw) (cs : List Ck) : Reb 0 N (h1S s gs l ls a i g rs cs) (hS s gs l ls a i g rs cs) := by
 cases cs with
 | nil => exact mk_reb [0, 1, 2, 3, 4, 5, 6] rfl rfl rfl rfl (by exact rfl) ⟨.refl _, .refl _, .refl _, .refl _, .refl _, .refl _, .refl _, .refl _, .refl _, trivial⟩ rfl (fun ρ hρ => ⟨.refl _, .refl _, wkOwn hρ, trivial⟩) rfl rfl ⟨⟨by decide, _, rfl, wkB_rw (row := encR ⟨nM g, []⟩) ⟨.refl _, .zero _ _ rfl, trivial⟩⟩, trivial⟩
 | cons c0 ct =>
   have hcut : (((c0 :: ct).map encC).drop 0).take (c0 :: ct).length = (c0 :: ct).map encC := by rw [List.drop_zero, List.take_of_length_le (by simp)]
   have hs : FzV 5 ((c0 :: ct).map encC) (.slice 5 0 (c0 :: ct).length 11 none) (.vs 11 ((c0 :: ct).map encC)) := by
    have := FzV.sl (n := 5) (rows := (c0 :: ct).map encC) 0 (c0 :: ct).length 11 none (by simp) (by simp)
    rwa [hcut] at this
   refine reb_freezeG (n := 5) (rows := (c0 :: ct).map encC) rfl (fC _) ⟨.same _, .same _, .same _, .same _, .same _, .same _, .same _, .same _, .same _, trivial⟩ ?_
   refine hfz (by decide) rfl (hfz (by decide) rfl (hfz (by decide) rfl ⟨⟨by decide, _, rfl, .cells [rowG (nM g) (.slice 5 0 (c0 :: ct).length 11 none)] [encR ⟨nM g, c0 :: ct⟩] false rfl (fun j r r' h h' => ?_)⟩, trivial⟩))
   cases j with
   | zero =>
     cases h; cases h'
     exact ⟨.same _, hs, trivial⟩
   | succ j => simp at h
theorem gpapp' (ps : List Rw) (p : Rw) : List.take ps.length (List.drop 0 (ps.map encR)) ++ [encR p] = (ps ++ [p]).map encR := by
 rw [List.drop_zero, List.take_of_length_le (by simp), List.map_append]; rfl
def z1S (s : List Fd) (rs : List Rw) : St := ⟨[(6, .ptr 1 0 0), (7, .ptr 0 0 0), (31, .bool false)], [(0, some (.cells [rowM (vF s) (sumR rs) (ownC 3 2 rs)] false)), (1, some (.cells [rowM .nils 0 .nils] false)), (3, ownB encR rs)], 7⟩
def zS (s : List Fd) (rs : List Rw) : St := ⟨[(6, .ptr 1 0 0), (7, .ptr 0 0 0), (31, .bool false)], [(0, some (.cells [rowM (vF s) (sumR rs) (.vs 2 (rs.map encR))] false)), (1, some (.cells [rowM .nils 0 .nils] false))], 7⟩
theorem m_fz [Syms] {N : Nat} (s : List Fd) (rs : List Rw) : Reb 0 N (z1S s rs) (zS s rs) := by
 cases rs with
 | nil => exact reb_num [0, 1, 2, 3, 4, 5, 6] (by exact rfl) ⟨.refl _, .refl _, .refl _, trivial⟩ ⟨⟨by decide, _, rfl, wkB_rw (row := rowM (vF s) 0 (.vs 2 [])) ⟨.refl _, .refl _, .zero _ _ rfl, trivial⟩⟩, ⟨by decide, _, rfl, .refl _⟩, trivial⟩
 | cons c0 ct =>
   have hcut : (((c0 :: ct).map encR).drop 0).take (c0 :: ct).length = (c0 :: ct).map encR := by rw [List.drop_zero, List.take_of_length_le (by simp)]
   have hs : FzV 3 ((c0 :: ct).map encR) (.slice 3 0 (c0 :: ct).length 2 none) (.vs 2 ((c0 :: ct).map encR)) := by
    have := FzV.sl (n := 3) (rows := (c0 :: ct).map encR) 0 (c0 :: ct).length 2 none (by simp) (by simp)
    rwa [hcut] at this
   refine reb_freezeG (n := 3) (rows := (c0 :: ct).map encR) rfl (fR _) ⟨.same _, .same _, .same _, trivial⟩ ?_
   refine ⟨⟨by decide, _, rfl, .cells [rowM (vF s) (sumR (c0 :: ct)) (.slice 3 0 (c0 :: ct).length 2 none)] [rowM (vF s) (sumR (c0 :: ct)) (.vs 2 ((c0 :: ct).map encR))] false rfl (fun j r r' h h' => ?_)⟩, hfz (by decide) rfl trivial⟩
   cases j with
   | zero =>
     cases h; cases h'
     exact ⟨.same _, .same _, hs, trivial⟩
   | succ j => simp at h
theorem gsAt_sum (ks : List Int) (l : List Vl) (gs : List Int) : ∀ i : Nat, 0 ≤ sumR (gsAt ks l gs i).1 ∧ sumR (gsAt ks l gs i).1 ≤ 40 * (i : Int)
 | 0 => ⟨Int.le_refl 0, Int.le_refl 0⟩
 | i + 1 => by
   have ih := gsAt_sum ks l gs i
   have h1 := nM_le (gs.getD i 0)
   have h2 : sumR (gsAt ks l gs (i + 1)).1 = sumR (gsAt ks l gs i).1 + nM (gs.getD i 0) := by show sumR ((gsAt ks l gs i).1 ++ [_]) = _; simp only [sumR_app, sumR, Int.add_zero]
   rw [h2]; omega
theorem gsAt_len (ks : List Int) (l : List Vl) (gs : List Int) : ∀ i : Nat, (gsAt ks l gs i).1.length = i
 | 0 => rfl
 | i + 1 => by rw [gsAt, List.length_append, gsAt_len ks l gs i]; rfl
theorem make19_t [Syms] (ns gs : List Int) (l : List Vl) (hn : ns.length ≤ 9223372036854775807) (hgl : gs.length ≤ 9223372036854775807) (hll : l.length ≤ 9223372036854775807) (hg : ∀ g ∈ gs, I64 g) :
 fnT cMk cMk (fnTab fns) (tyTab tys) plMk 100 11 [vI ns, vI gs, vV l] [] 0 (subP (fun v H _ => v = .agg (encM (makeM ns gs l)) ∧ H = [])) := by
 repeat' (first | (refine And.intro ?_ ?_) | (intro h; try first | exact dzq | replace h := cvq))
 all_goals (try exact cz)
 refine ⟨ns, rfl, hn, ?_⟩
 have hfs := make_ok ns
 have hmk : makeM ns gs l = ⟨makeF ns, sumR (gsAt (kindsL (leavesF (makeF ns))) l gs (gs.take 4).length).1, (gsAt (kindsL (leavesF (makeF ns))) l gs (gs.take 4).length).1⟩ := by
  have h4 : (gs.take 4).length ≤ gs.length := by rw [List.length_take]; omega
  rw [gsAt_eq _ _ _ _ h4, List.length_take, show gs.take (min 4 gs.length) = gs.take 4 from by rw [← List.take_take, List.take_length]]
  rfl
 rw [hmk]
 clear hmk
 generalize makeF ns = s at *
 repeat' (first | (refine And.intro ?_ ?_) | (intro h; try first | exact dzq | replace h := cvq))
 all_goals (try exact cz)
 refine ⟨⟨[(1, vI gs), (2, vV l), (6, .ptr 1 0 0), (7, .ptr 0 0 0)], [(0, some (.cells [mhd s 0 []] false)), (1, some (.cells [rowM .nils 0 .nils] false))], 2⟩, reb_num [1, 0] (by exact rfl) ⟨.refl _, .refl _, .refl _, .refl _, trivial⟩ ⟨⟨by decide, _, rfl, .refl _⟩, ⟨by decide, _, rfl, .refl _⟩, trivial⟩, ?_⟩
 repeat' (first | (refine And.intro ?_ ?_) | (intro h; try first | exact dzq | replace h := cvq))
 all_goals (try exact cz)
 refine ⟨s, rfl, hfs, ?_⟩
 have hlb : (leavesF s).length ≤ 1000 := by have h1 : (leavesF s).length ≤ s.length := lvOut_len_le _ _ _; have h2 := hfs.len; omega
 generalize leavesF s = ls at *
 repeat' (first | (refine And.intro ?_ ?_) | (intro h; try first | exact dzq | replace h := cvq))
 all_goals (try exact cz)
 refine ⟨fun m st => ∃ i : Nat, (i ≤ (gs.take 4).length ∧ m = (gs.take 4).length - i) ∧ st = oS s gs l ls (gsAt (kindsL ls) l gs i).2 i (sumR (gsAt (kindsL ls) l gs i).1) (gsAt (kindsL ls) l gs i).1, ⟨_, oS s gs l ls 0 0 0 [], (reb_up (nx' := 7) (by omega)).trans (mk_reb [0, 1, 2, 3, 4, 5, 6] rfl rfl rfl rfl (by exact rfl) ⟨.refl _, .refl _, .refl _, .refl _, .refl _, .refl _, .refl _, trivial⟩ rfl (fun ρ hρ => ⟨.refl _, .refl _, wkOwn hρ, trivial⟩) rfl rfl trivial), 0, ⟨by omega, rfl⟩, rfl⟩, ?_⟩
 rintro m st ⟨i, ⟨hi, rfl⟩, rfl⟩
 have hi4 : (gs.take 4).length = min 4 gs.length := List.length_take
 by_cases h1 : i < gs.length ∧ i < 4
 ·obtain ⟨h1, h2⟩ := h1
  have hgi : I64 (gs.getD i 0) := by
   rw [List.getD_eq_getElem?_getD, List.getElem?_eq_getElem h1]; exact hg _ (List.getElem_mem h1)
  have hat := gsAt_at (kindsL ls) l gs i
  have hsm := gsAt_sum (kindsL ls) l gs i
  have hrl := gsAt_len (kindsL ls) l gs i
  have hst : gsAt (kindsL ls) l gs (i + 1) = ((gsAt (kindsL ls) l gs i).1 ++ [⟨nM (gs.getD i 0), (chunksM (gs.getD i 0) l (kindsL ls) 0 (gsAt (kindsL ls) l gs i).2).1⟩], (chunksM (gs.getD i 0) l (kindsL ls) 0 (gsAt (kindsL ls) l gs i).2).2) := rfl
  generalize gsAt (kindsL ls) l gs i = qa at *
  obtain ⟨rs, a⟩ := qa
  dsimp only at hst hat hsm hrl
  generalize hge : gs.getD i 0 = g at *
  have hnM := nM_le g
  have hsr : 0 ≤ sumR rs ∧ sumR rs ≤ 1000000 := by omega
  have hd2 : wr .i64 ((gs.getD i 0).tdiv 2) = dv g 2 := by rw [hge]; rfl
  have hd5 : wr .i64 ((gs.getD i 0).tdiv 5) = dv g 5 := by rw [hge]; rfl
  have hd7 : wr .i64 ((gs.getD i 0).tdiv 7) = dv g 7 := by rw [hge]; rfl
  have hd9 : wr .i64 ((gs.getD i 0).tdiv 9) = dv g 9 := by rw [hge]; rfl
  have hd11 : wr .i64 ((gs.getD i 0).tdiv 11) = dv g 11 := by rw [hge]; rfl
  have hd13 : wr .i64 ((gs.getD i 0).tdiv 13) = dv g 13 := by rw [hge]; rfl
  have hwn : wr .i64 (1 + wi g 40) = nM g := by rw [wrI (by have := wi_le (a := g) (n := 40) (by decide); omega)]; rfl
  rcases rs with _ | ⟨r0, rt⟩
  rotate_left
  let rz : List Rw := r0 :: rt
  have hrz : rz.length = i := hrl
  have hsz : 0 ≤ sumR rz ∧ sumR rz ≤ 1000000 := hsr
  rotate_left
  let rz : List Rw := []
  have hrz : rz.length = i := hrl
  have hsz : 0 ≤ sumR rz ∧ sumR rz ≤ 1000000 := hsr
  all_goals (
   repeat' (first | (refine And.intro ?_ ?_) | (intro h; try first | exact dzq | replace h := cvq))
   all_goals (try exact czq)
   refine ⟨_, .refl _ _ _, ?_⟩
   repeat' (first | (refine And.intro ?_ ?_) | (intro h; try first | exact dzq | replace h := cvq))
   all_goals (try exact czq)
   refine ⟨g, 40, congrArg (fun z => [AVal.int .i64 z, AVal.int .i64 40]) hge, by decide, ?_⟩
   repeat' (first | (refine And.intro ?_ ?_) | (intro h; try first | exact dzq | replace h := cvq))
   all_goals (try exact czq)
   refine ⟨gS0 s gs l ls a i g rz, mk_reb [0, 1, 7, 3, 4, 5, 6] rfl rfl rfl rfl (by exact rfl) ⟨.refl _, .refl _, .refl _, .refl _, .refl _, .refl _, .refl _, .refl _, trivial⟩ rfl (fun ρ hρ => ⟨.refl _, .refl _, wkOwn hρ, trivial⟩) rfl rfl ⟨⟨by decide, _, rfl, wkB_rw (row := rowG (nM g) .nils) ⟨wk_int hwn, .refl _, trivial⟩⟩, trivial⟩, ?_⟩
   have hb1 : -9223372036854775808 ≤ sumR rz + nM g ∧ sumR rz + nM g ≤ 9223372036854775807 := by omega
   repeat' (first | (refine And.intro ?_ ?_) | (intro h; try first | exact dzq | replace h := cvq))
   all_goals (try exact czq)
   all_goals (try first | exact hb1.1 | exact hb1.2)
   refine ⟨fun m st => ∃ k : Nat, (k ≤ ls.length ∧ m = ls.length - k) ∧ st = iS s gs l ls (csAt g l (kindsL ls) a k).2 i g rz k (csAt g l (kindsL ls) a k).1, ⟨_, iS s gs l ls a i g rz 0 [], mk_reb [0, 1, 2, 3, 4, 5, 6] rfl rfl rfl rfl (by exact rfl) ⟨.refl _, .refl _, .refl _, .refl _, .refl _, .refl _, .refl _, .refl _, .refl _, trivial⟩ rfl (fun ρ hρ => ⟨.refl _, .refl _, wkOwn hρ, trivial⟩) rfl rfl ⟨⟨by decide, _, rfl, wkB_rw (row := rowG (nM g) .nils) ⟨.refl _, .refl _, trivial⟩⟩, trivial⟩, 0, ⟨by omega, rfl⟩, rfl⟩, ?_⟩
   rintro m st ⟨k, ⟨hk, rfl⟩, rfl⟩
   have hkl : (kindsL ls).length = ls.length := List.length_map ..
   by_cases hk1 : k < ls.length
   ·have hct := csAt_at g l (kindsL ls) a k
    have hcs : csAt g l (kindsL ls) a (k + 1) = ((csAt g l (kindsL ls) a k).1 ++ [(chunkM g k ((kindsL ls).getD k 0) l (csAt g l (kindsL ls) a k).2).1], (chunkM g k ((kindsL ls).getD k 0) l (csAt g l (kindsL ls) a k).2).2) := rfl
    have hkd : (kindsL ls).getD k 0 = (ls.getD k default).kind := by
     rw [List.getD_eq_getElem?_getD, List.getD_eq_getElem?_getD, List.getElem?_map, List.getElem?_eq_getElem hk1]; rfl
    rw [hkd] at hcs
    clear hkd
    generalize hqc : csAt g l (kindsL ls) a k = qc at *
    obtain ⟨cs, a'⟩ := qc
    dsimp only at hct hcs
    have hcl : cs.length ≤ 1000 := by
     have h1 := csAt_len g l (kindsL ls) a k
     rw [hqc] at h1
     have h2 : cs.length = k := h1
     omega
    clear hqc
    rcases cs with _ | ⟨c0, ct⟩
    rotate_left
    let cw : List Ck := c0 :: ct
    have hcw : cw.length ≤ 1000 := hcl
    rotate_left
    let cw : List Ck := []
    have hcw : cw.length ≤ 1000 := hcl
    all_goals (
     repeat' (first | (refine And.intro ?_ ?_) | (intro h; try first | exact dzq | replace h := cvq))
     all_goals (try exact czq)
     refine ⟨_, .refl _ _ _, ?_⟩
     repeat' (first | (refine And.intro ?_ ?_) | (intro h; try first | exact dzq | replace h := cvq))
     all_goals (try exact czq)
     have hdk : wr .i64 (wr .i64 ((gs.getD i 0).tdiv 3) + ((k : Nat) : Int)) = dv g 3 + k := by
      rw [hge]
      have := dv_le hgi 3 (by decide)
      exact wrI (show -9223372036854775808 ≤ dv g 3 + (k : Int) ∧ dv g 3 + (k : Int) ≤ 9223372036854775807 by omega)
     refine ⟨dv g 3 + k, 3, congrArg (fun z => [AVal.int .i64 z, AVal.int .i64 3]) hdk, by decide, ?_⟩
     repeat' (first | (refine And.intro ?_ ?_) | (intro h; try first | exact dzq | replace h := cvq))
     all_goals (try exact czq)
     refine ⟨gS1 s gs l ls a' i g rz k cw, mk_reb [0, 1, 2, 3, 7, 5, 6] rfl rfl rfl rfl (by exact rfl) ⟨.refl _, .refl _, .refl _, .refl _, .refl _, .refl _, .refl _, .refl _, .refl _, .refl _, trivial⟩ rfl (fun ρ hρ => ⟨.refl _, .refl _, wkOwn hρ, trivial⟩) rfl rfl ⟨⟨by decide, _, rfl, wkB_rw (row := rowG (nM g) (ownC 5 11 cw)) ⟨.refl _, wkOwn rfl, trivial⟩⟩, hokOwn (fC cw) (by decide) rfl ⟨⟨by decide, _, rfl, wkB_rw (row := rowK 0 0 0 .nils (knM g k) 0 false) ⟨.refl _, .refl _, .refl _, .refl _, .refl _, .refl _, .refl _, .refl _, .refl _, .refl _, .refl _, trivial⟩⟩, trivial⟩⟩, ?_⟩
     repeat' (first | (refine And.intro ?_ ?_) | (intro h; try first | exact dzq | replace h := cvq))
     all_goals (try exact czq)
     refine ⟨fun m st => ∃ (left : Int) (f : Nat) (ps : List Pg), (m = left.toNat ∧ 0 ≤ left ∧ left ≤ f ∧ left ≤ 40 ∧ ps ++ pagesM g f left = pagesM g 40 (nM g)) ∧ st = pS s gs l ls a' i g rz k cw left ps, ⟨_, pS s gs l ls a' i g rz k cw (nM g) [], mk_reb [0, 1, 2, 3, 4, 5, 6] rfl rfl rfl rfl (by exact rfl) ⟨.refl _, .refl _, .refl _, .refl _, .refl _, .refl _, .refl _, .refl _, .refl _, .refl _, .refl _, trivial⟩ rfl (fun ρ hρ => ⟨.refl _, .refl _, wkOwn hρ, trivial⟩) rfl rfl ⟨⟨by decide, _, rfl, wkB_rw (row := rowG (nM g) (ownC 5 11 cw)) ⟨.refl _, wkOwn rfl, trivial⟩⟩, hokOwn (fC cw) (by decide) rfl ⟨⟨by decide, _, rfl, wkB_rw (row := rowK 0 0 0 .nils (knM g k) 0 false) ⟨.refl _, .refl _, .refl _, .refl _, .refl _, .refl _, .refl _, .refl _, .refl _, .refl _, .refl _, trivial⟩⟩, trivial⟩⟩, nM g, 40, [], ⟨rfl, by omega, by omega, by omega, rfl⟩, rfl⟩, ?_⟩
     rintro m st ⟨left, f, ps, ⟨rfl, hl0, hlf, hl4, hpg⟩, rfl⟩
     by_cases hl1 : 0 < left
     ·obtain ⟨f, rfl⟩ : ∃ f', f = f' + 1 := ⟨f - 1, by omega⟩
      rw [pagesM_step hl1] at hpg
      have hsp := stpM_le (g := g) hl1
      have hpl : ps.length ≤ 40 := by
       have h1 := congrArg List.length hpg
       have h2 := pagesM_len g 40 (nM g)
       rw [List.length_append] at h1
       omega
      rcases ps with _ | ⟨p0, pt⟩
      rotate_left
      let pw : List Pg := p0 :: pt
      have hpw : pw.length ≤ 40 := hpl
      rotate_left
      let pw : List Pg := []
      have hpw : pw.length ≤ 40 := hpl
      all_goals (
       repeat' (first | (refine And.intro ?_ ?_) | (intro h; try first | exact dzq | replace h := cvq))
       all_goals (try exact czq)
       refine ⟨dv g 7, 20, congrArg (fun z => [AVal.int .i64 z, AVal.int .i64 20]) hd7, by decide, ?_⟩
       repeat' (first | (refine And.intro ?_ ?_) | (intro h; try first | exact dzq | replace h := cvq))
       all_goals (try exact czq)
       have hw9 := wi_le (a := g) (n := 9) (by decide)
       have hst : (if wr .i64 (1 + wi (dv g 7) 20) < left then wr .i64 (1 + wi (dv g 7) 20) else left) = stpM g left := by
        rw [wrI (by have := wi_le (a := dv g 7) (n := 20) (by decide); omega)]; rfl
       refine ⟨pR s gs l ls a' i g rz k cw left pw, mk_reb [0, 1, 2, 3, 4, 5, 6] rfl rfl rfl rfl (by exact rfl) ⟨.refl _, .refl _, .refl _, .refl _, .refl _, .refl _, .refl _, .refl _, .refl _, .refl _, .refl _, wk_int hst, trivial⟩ rfl (fun ρ hρ => ⟨.refl _, .refl _, wkOwn hρ, trivial⟩) rfl rfl ⟨⟨by decide, _, rfl, wkB_rw (row := rowG (nM g) (ownC 5 11 cw)) ⟨.refl _, wkOwn rfl, trivial⟩⟩, hokOwn (fC cw) (by decide) rfl ⟨⟨by decide, _, rfl, wkB_rw (row := rowK 0 0 0 (ownC 6 7 pw) (knM g k) 0 false) ⟨.refl _, .refl _, .refl _, wkOwn rfl, .refl _, .refl _, .refl _, .refl _, .refl _, .refl _, .refl _, trivial⟩⟩, hokOwn (fP pw) (by decide) rfl trivial⟩⟩, ?_⟩
       repeat' (first | (refine And.intro ?_ ?_) | (intro h; try first | exact dzq | replace h := cvq))
       all_goals (try exact czq)
       refine ⟨g, 9, congrArg (fun z => [AVal.int .i64 z, AVal.int .i64 9]) hge, by decide, ?_⟩
       repeat' (first | (refine And.intro ?_ ?_) | (intro h; try first | exact dzq | replace h := cvq))
       all_goals (try exact czq)
       refine ⟨g, 2, congrArg (fun z => [AVal.int .i64 z, AVal.int .i64 2]) hge, by decide, ?_⟩
       repeat' (first | (refine And.intro ?_ ?_) | (intro h; try first | exact dzq | replace h := cvq))
       all_goals (try exact czq)
       refine ⟨dv g 2, 300, congrArg (fun z => [AVal.int .i64 z, AVal.int .i64 300]) hd2, by decide, ?_⟩
       repeat' (first | (refine And.intro ?_ ?_) | (intro h; try first | exact dzq | replace h := cvq))
       all_goals (try exact czq)
       refine ⟨dv g 5, 300, congrArg (fun z => [AVal.int .i64 z, AVal.int .i64 300]) hd5, by decide, ?_⟩
       repeat' (first | (refine And.intro ?_ ?_) | (intro h; try first | exact dzq | replace h := cvq))
       all_goals (try exact czq)
       refine ⟨dv g 9, 3000, congrArg (fun z => [AVal.int .i64 z, AVal.int .i64 3000]) hd9, by decide, ?_⟩
       repeat' (first | (refine And.intro ?_ ?_) | (intro h; try first | exact dzq | replace h := cvq))
       all_goals (try exact czq)
       all_goals (try ((with_reducible show (_ : Nat) ≤ _); first | (show (pw.length + 1) * 56 ≤ _; omega) | (show pw.length + 1 ≤ _; omega)))
       exact ⟨_, pS s gs l ls a' i g rz k cw (left - stpM g left) (pw ++ [pgM g (stpM g left)]), mk_reb [0, 1, 2, 3, 4, 5, 7 + 41 * RR] rfl rfl rfl rfl (by kernel_rfl) ⟨.refl _, .refl _, .refl _, .refl _, .refl _, .refl _, .refl _, .refl _, .refl _, .refl _, .refl _, trivial⟩ rfl (fun ρ hρ => ⟨.refl _, .refl _, wkOwn hρ, trivial⟩) rfl rfl ⟨⟨by decide, _, rfl, wkB_rw (row := rowG (nM g) (ownC 5 11 cw)) ⟨.refl _, wkOwn rfl, trivial⟩⟩, hokOwn (fC cw) (by decide) rfl ⟨⟨by decide, _, rfl, wkB_rw (row := rowK 0 0 0 (ownC 6 7 (pw ++ [pgM g (stpM g left)])) (knM g k) 0 false) ⟨.refl _, .refl _, .refl _, wkOwn1 rfl (by simp; try rfl) (by simp; try rfl), .refl _, .refl _, .refl _, .refl _, .refl _, .refl _, .refl _, trivial⟩⟩, hokOwn1 (fP (pw ++ [pgM g (stpM g left)])) (by decide) rfl (by first | exact pgrow0 hge | exact pgrow1 hge) (by simp; try rfl) trivial⟩⟩, ⟨left - stpM g left, f, pw ++ [pgM g (stpM g left)], ⟨rfl, by omega, by omega, by omega, by rw [← hpg, List.append_assoc]; rfl⟩, rfl⟩, by omega⟩
       skip)
     ·have hpe : ps = pagesM g 40 (nM g) := by rw [← hpg, pagesM_end hl1, List.append_nil]
      have hp0 : 0 < ps.length := by rw [hpe, show (40 : Nat) = 39 + 1 from rfl, pagesM_step (by omega)]; simp
      have hpl : ps.length ≤ 40 := by rw [hpe]; exact pagesM_len g 40 (nM g)
      clear hpg
      rcases ps with _ | ⟨p0, pt⟩
      ·cases hp0
      ·repeat' (first | (refine And.intro ?_ ?_) | (intro h; try first | exact dzq | replace h := cvq))
       all_goals (try exact czq)
       refine ⟨dv g 11, 3, congrArg (fun z => [AVal.int .i64 z, AVal.int .i64 3]) hd11, by decide, ?_⟩
       by_cases hd : wi (dv g 11) 3 = 0
       ·repeat' (first | (refine And.intro ?_ ?_) | (intro h; try first | exact dzq | replace h := cvq))
        all_goals (try exact czq)
        refine ⟨fun m st => ∃ j : Nat, (j ≤ (p0 :: pt).length ∧ m = (p0 :: pt).length - j) ∧ st = dS s gs l ls a' i g rz k cw (p0 :: pt) j, ⟨_, dS s gs l ls a' i g rz k cw (p0 :: pt) 0, mk_reb [0, 1, 2, 3, 4, 5, 6] rfl rfl rfl rfl (by exact rfl) ⟨.refl _, .refl _, .refl _, .refl _, .refl _, .refl _, .refl _, .refl _, .refl _, .refl _, .refl _, trivial⟩ rfl (fun ρ hρ => ⟨.refl _, .refl _, wkOwn hρ, trivial⟩) rfl rfl ⟨⟨by decide, _, rfl, wkB_rw (row := rowG (nM g) (ownC 5 11 cw)) ⟨.refl _, wkOwn rfl, trivial⟩⟩, hokOwn (fC cw) (by decide) rfl ⟨⟨by decide, _, rfl, wkB_rw (row := rowK 0 0 0 (.slice 6 0 (p0 :: pt).length 7 none) (knM g k) 0 false) ⟨.refl _, .refl _, .refl _, .refl _, .refl _, .refl _, .refl _, .refl _, .refl _, .refl _, .refl _, trivial⟩⟩, ⟨⟨by decide, _, rfl, wkB_same (fP _)⟩, trivial⟩⟩⟩, 0, ⟨by omega, rfl⟩, rfl⟩, ?_⟩
        rintro m st ⟨j, ⟨hj, rfl⟩, rfl⟩
        by_cases hj1 : j < (p0 :: pt).length
        ·repeat' (first | (refine And.intro ?_ ?_) | (intro h; try first | exact dzq | replace h := cvq))
         all_goals (try exact czq)
         ·rw [List.length_map, dicAt_len]; simp only [Int.toNat_natCast]; omega
         ·rw [Nat.zero_add, Int.toNat_natCast, row_at encP default (by rw [dicAt_len]; omega)]; exact Nat.le_of_ble_eq_true rfl
         exact ⟨_, dS s gs l ls a' i g rz k cw (p0 :: pt) (j + 1), mk_reb [0, 1, 2, 3, 4, 5, 6] rfl rfl rfl rfl (by exact rfl) ⟨.refl _, .refl _, .refl _, .refl _, .refl _, .refl _, .refl _, .refl _, .refl _, .refl _, wk_int (by omega), trivial⟩ rfl (fun ρ hρ => ⟨.refl _, .refl _, wkOwn hρ, trivial⟩) rfl rfl ⟨⟨by decide, _, rfl, wkB_rw (row := rowG (nM g) (ownC 5 11 cw)) ⟨.refl _, wkOwn rfl, trivial⟩⟩, hokOwn (fC cw) (by decide) rfl ⟨⟨by decide, _, rfl, wkB_rw (row := rowK 0 0 0 (.slice 6 0 (p0 :: pt).length 7 none) (knM g k) 0 false) ⟨.refl _, .refl _, .refl _, .refl _, .refl _, .refl _, .refl _, .refl _, .refl _, .refl _, .refl _, trivial⟩⟩, ⟨⟨by decide, _, rfl, wkB_eq (dicRow hj1) (fP _)⟩, trivial⟩⟩⟩, ⟨j + 1, ⟨by omega, rfl⟩, rfl⟩, by omega⟩
        ·obtain rfl : j = (p0 :: pt).length := by omega
         have hde := dicAt_end (p0 :: pt)
         repeat' (first | (refine And.intro ?_ ?_) | (intro h; try first | exact dzq | replace h := cvq))
         all_goals (try exact czq)
         have hcrc : wr .u32 (gs.getD i 0) = wr .u32 g := by rw [hge]
         have hck : chunk0 g k = ⟨wi g 257, wi (dv g 13) 9000, wr .u32 g, (p0 :: pt).map d2, knM g k, default⟩ := by unfold chunk0; rw [if_pos hd, ← hpe]; rfl
         refine ⟨eS s gs l ls a' i g rz k cw (wi g 257) (wi (dv g 13) 9000) (wr .u32 g) (p0 :: pt).length ((p0 :: pt).map d2), ?_, ?_⟩
         ·repeat' (first | (refine And.intro ?_ ?_) | (intro h; try first | exact dzq | replace h := cvq))
          all_goals (try exact czq)
          all_goals (first | refine ⟨g, 257, congrArg (fun z => [AVal.int .i64 z, AVal.int .i64 257]) hge, by decide, ?_⟩ | refine ⟨dv g 13, 9000, congrArg (fun z => [AVal.int .i64 z, AVal.int .i64 9000]) hd13, by decide, ?_⟩)
          repeat' (first | (refine And.intro ?_ ?_) | (intro h; try first | exact dzq | replace h := cvq))
          all_goals (try exact czq)
          all_goals (first | refine ⟨g, 257, congrArg (fun z => [AVal.int .i64 z, AVal.int .i64 257]) hge, by decide, ?_⟩ | refine ⟨dv g 13, 9000, congrArg (fun z => [AVal.int .i64 z, AVal.int .i64 9000]) hd13, by decide, ?_⟩)
          repeat' (first | (refine And.intro ?_ ?_) | (intro h; try first | exact dzq | replace h := cvq))
          all_goals (try exact czq)
          all_goals exact Exists.intro () (mk_reb [0, 1, 2, 3, 4, 5, 6] rfl rfl rfl rfl (by exact rfl) ⟨.refl _, .refl _, .refl _, .refl _, .refl _, .refl _, .refl _, .refl _, .refl _, .refl _, trivial⟩ rfl (fun ρ hρ => ⟨.refl _, .refl _, wkOwn hρ, trivial⟩) rfl rfl ⟨⟨by decide, _, rfl, wkB_rw (row := rowG (nM g) (ownC 5 11 cw)) ⟨.refl _, wkOwn rfl, trivial⟩⟩, hokOwn (fC cw) (by decide) rfl ⟨⟨by decide, _, rfl, wkB_rw (row := rowK (wi g 257) (wi (dv g 13) 9000) (wr .u32 g) (.slice 6 0 (p0 :: pt).length 7 none) (knM g k) 0 false) ⟨.refl _, .refl _, wk_int hcrc, .refl _, .refl _, .refl _, .refl _, .refl _, .refl _, .refl _, .refl _, trivial⟩⟩, ⟨⟨by decide, _, rfl, wkB_eq (congrArg (List.map encP) hde) (fP _)⟩, trivial⟩⟩⟩)
         ·have hp6 : 0 < (((p0 :: pt).map d2)).length := by simp
          have hp7 : (p0 :: pt).length = (((p0 :: pt).map d2)).length := by simp
          by_cases hkn : 0 < wi (dv g 3 + k) 3
          ·by_cases hll0 : 0 < l.length
           ·repeat' (first | (refine And.intro ?_ ?_) | (intro h; try first | exact dzq | replace h := cvq))
            all_goals (try exact czq)
            refine ⟨fS s gs l ls a' i g rz k cw (wi g 257) (wi (dv g 13) 9000) (wr .u32 g) ((p0 :: pt).map d2) true, Reb.trans (s' := eS2 s gs l ls a' i g rz k cw (wi g 257) (wi (dv g 13) 9000) (wr .u32 g) ((p0 :: pt).map d2) true) (mk_reb [0, 1, 2, 3, 4, 5, 6] rfl rfl rfl rfl (by exact rfl) ⟨.refl _, .refl _, .refl _, .refl _, .refl _, .refl _, .refl _, .refl _, .refl _, .refl _, wk_bool (by rw [if_pos rfl, decide_eq_true (by omega)]), trivial⟩ rfl (fun ρ hρ => ⟨.refl _, .refl _, wkOwn hρ, trivial⟩) rfl rfl ⟨⟨by decide, _, rfl, wkB_rw (row := rowG (nM g) (ownC 5 11 cw)) ⟨.refl _, wkOwn rfl, trivial⟩⟩, hokOwn (fC cw) (by decide) rfl ⟨⟨by decide, _, rfl, wkB_rw (row := rowK (wi g 257) (wi (dv g 13) 9000) (wr .u32 g) (.slice 6 0 (((p0 :: pt).map d2)).length 7 none) (knM g k) 0 false) ⟨.refl _, .refl _, .refl _, wk_slc hp7, .refl _, .refl _, .refl _, .refl _, .refl _, .refl _, .refl _, trivial⟩⟩, ⟨⟨by decide, _, rfl, wkB_same (fP _)⟩, trivial⟩⟩⟩) (ck_fz s gs l ls a' i g rz k cw (wi g 257) (wi (dv g 13) 9000) (wr .u32 g) ((p0 :: pt).map d2) true hp6), ?_⟩
            have hmi : ((a' : Nat) : Int).tmod ((l.length : Nat) : Int) = ((a' % l.length : Nat) : Int) := (Int.ofNat_tmod ..).symm
            have hmlt := Nat.mod_lt a' hll0
            repeat' (first | (refine And.intro ?_ ?_) | (intro h; try first | exact dzq | replace h := cvq))
            all_goals (try exact czq)
            refine ⟨(ls.getD k default).kind, l.getD (a' % l.length) default, ?_, ?_⟩
            ·rw [hmi]; rfl
            have ha9 : a' ≤ 5000 := by
             have h1 : (kindsL ls).length ≤ 1000 := by omega
             have h2 := Nat.mul_le_mul (show i ≤ 4 by omega) h1
             omega
            repeat' (first | (refine And.intro ?_ ?_) | (intro h; try first | exact dzq | replace h := cvq))
            all_goals (try exact czq)
            refine ⟨g, nM g + 1, (by show [AVal.int .i64 (gs.getD i 0), _] = _; rw [hge]; rfl), by omega, ?_⟩
            repeat' (first | (refine And.intro ?_ ?_) | (intro h; try first | exact dzq | replace h := cvq))
            all_goals (try exact czq)
            have hcm : chunkM g k (ls.getD k default).kind l a' = (⟨(wi g 257), (wi (dv g 13) 9000), (wr .u32 g), ((p0 :: pt).map d2), knM g k, ⟨wi g (nM g + 1), true, goodF (ls.getD k default).kind (l.getD (a' % l.length) default), goodF (ls.getD k default).kind (l.getD (a' % l.length) default)⟩⟩, a' + 1) := by
             unfold chunkM
             rw [hck, if_pos ⟨decide_eq_true hkn, hll0⟩]
            have hcs' : csAt g l (kindsL ls) a (k + 1) = ((cw ++ [(⟨(wi g 257), (wi (dv g 13) 9000), (wr .u32 g), ((p0 :: pt).map d2), knM g k, ⟨wi g (nM g + 1), true, goodF (ls.getD k default).kind (l.getD (a' % l.length) default), goodF (ls.getD k default).kind (l.getD (a' % l.length) default)⟩⟩ : Ck)]), a' + 1) := hcs.trans (by rw [hcm])
            repeat' (first | (refine And.intro ?_ ?_) | (intro h; try first | exact dzq | replace h := cvq))
            all_goals (try exact czq)
            all_goals (try ((with_reducible show (_ : Nat) ≤ _); first | (show (cw.length + 1) * 120 ≤ _; omega) | (show cw.length + 1 ≤ _; omega)))
            refine ⟨_, iS s gs l ls (a' + 1) i g rz (k + 1) (cw ++ [(⟨(wi g 257), (wi (dv g 13) 9000), (wr .u32 g), ((p0 :: pt).map d2), knM g k, ⟨wi g (nM g + 1), true, goodF (ls.getD k default).kind (l.getD (a' % l.length) default), goodF (ls.getD k default).kind (l.getD (a' % l.length) default)⟩⟩ : Ck)]), ?_, ⟨k + 1, ⟨by omega, rfl⟩, by rw [hcs']⟩, by omega⟩
            refine mk_reb [0, 1, 2, 3, 4, 7 + 14 * RR + 1 + 10 * RR + 1 + 1, 6] rfl rfl rfl rfl (by kernel_rfl) ⟨.refl _, .refl _, .refl _, .refl _, .refl _, wk_int (by omega), .refl _, .refl _, wk_int (by omega), trivial⟩ rfl (fun ρ hρ => ⟨.refl _, .refl _, wkOwn hρ, trivial⟩) rfl rfl ⟨⟨by decide, _, rfl, wkB_rw (row := rowG (nM g) (ownC 5 11 (cw ++ [(⟨(wi g 257), (wi (dv g 13) 9000), (wr .u32 g), ((p0 :: pt).map d2), knM g k, ⟨wi g (nM g + 1), true, goodF (ls.getD k default).kind (l.getD (a' % l.length) default), goodF (ls.getD k default).kind (l.getD (a' % l.length) default)⟩⟩ : Ck)]))) ⟨.refl _, wkOwn1 rfl (by simp; try rfl) (by simp; try rfl), trivial⟩⟩, ?_⟩
            exact hokOwn1 (fC (cw ++ [(⟨(wi g 257), (wi (dv g 13) 9000), (wr .u32 g), ((p0 :: pt).map d2), knM g k, ⟨wi g (nM g + 1), true, goodF (ls.getD k default).kind (l.getD (a' % l.length) default), goodF (ls.getD k default).kind (l.getD (a' % l.length) default)⟩⟩ : Ck)])) (by decide) rfl (by rw [hmi]; first | rfl | exact ckapp' _ (⟨(wi g 257), (wi (dv g 13) 9000), (wr .u32 g), ((p0 :: pt).map d2), knM g k, ⟨wi g (nM g + 1), true, goodF (ls.getD k default).kind (l.getD (a' % l.length) default), goodF (ls.getD k default).kind (l.getD (a' % l.length) default)⟩⟩ : Ck) | (show List.take cw.length (List.drop 0 (cw.map encC)) ++ [encC (⟨(wi g 257), (wi (dv g 13) 9000), (wr .u32 g), ((p0 :: pt).map d2), knM g k, ⟨wi g (nM g + 1), true, goodF (ls.getD k default).kind (l.getD (a' % l.length) default), goodF (ls.getD k default).kind (l.getD (a' % l.length) default)⟩⟩ : Ck)] = _; exact ckapp' _ _)) (by simp; try rfl) trivial
           ·have hcm : chunkM g k (ls.getD k default).kind l a' = (⟨(wi g 257), (wi (dv g 13) 9000), (wr .u32 g), ((p0 :: pt).map d2), knM g k, default⟩, a') := by
             unfold chunkM
             rw [hck, if_neg (fun hh => hll0 hh.2)]
            repeat' (first | (refine And.intro ?_ ?_) | (intro h; try first | exact dzq | replace h := cvq))
            all_goals (try exact czq)
            refine ⟨fS s gs l ls a' i g rz k cw (wi g 257) (wi (dv g 13) 9000) (wr .u32 g) ((p0 :: pt).map d2) false, Reb.trans (s' := eS2 s gs l ls a' i g rz k cw (wi g 257) (wi (dv g 13) 9000) (wr .u32 g) ((p0 :: pt).map d2) false) (mk_reb [0, 1, 2, 3, 4, 5, 6] rfl rfl rfl rfl (by exact rfl) ⟨.refl _, .refl _, .refl _, .refl _, .refl _, .refl _, .refl _, .refl _, .refl _, .refl _, wk_bool (by first | rfl | rw [if_pos rfl, decide_eq_false (by omega)]), trivial⟩ rfl (fun ρ hρ => ⟨.refl _, .refl _, wkOwn hρ, trivial⟩) rfl rfl ⟨⟨by decide, _, rfl, wkB_rw (row := rowG (nM g) (ownC 5 11 cw)) ⟨.refl _, wkOwn rfl, trivial⟩⟩, hokOwn (fC cw) (by decide) rfl ⟨⟨by decide, _, rfl, wkB_rw (row := rowK (wi g 257) (wi (dv g 13) 9000) (wr .u32 g) (.slice 6 0 (((p0 :: pt).map d2)).length 7 none) (knM g k) 0 false) ⟨.refl _, .refl _, .refl _, wk_slc hp7, .refl _, .refl _, .refl _, .refl _, .refl _, .refl _, .refl _, trivial⟩⟩, ⟨⟨by decide, _, rfl, wkB_same (fP _)⟩, trivial⟩⟩⟩) (ck_fz s gs l ls a' i g rz k cw (wi g 257) (wi (dv g 13) 9000) (wr .u32 g) ((p0 :: pt).map d2) false hp6), ?_⟩
            rw [hcm] at hcs
            have hcs' : csAt g l (kindsL ls) a (k + 1) = ((cw ++ [(⟨(wi g 257), (wi (dv g 13) 9000), (wr .u32 g), ((p0 :: pt).map d2), knM g k, default⟩ : Ck)]), a') := hcs
            repeat' (first | (refine And.intro ?_ ?_) | (intro h; try first | exact dzq | replace h := cvq))
            all_goals (try exact czq)
            all_goals (try ((with_reducible show (_ : Nat) ≤ _); first | (show (cw.length + 1) * 120 ≤ _; omega) | (show cw.length + 1 ≤ _; omega)))
            exact ⟨_, iS s gs l ls a' i g rz (k + 1) (cw ++ [(⟨(wi g 257), (wi (dv g 13) 9000), (wr .u32 g), ((p0 :: pt).map d2), knM g k, default⟩ : Ck)]), mk_reb [0, 1, 2, 3, 4, 8, 6] rfl rfl rfl rfl (by exact rfl) ⟨.refl _, .refl _, .refl _, .refl _, .refl _, .refl _, .refl _, .refl _, wk_int (by omega), trivial⟩ rfl (fun ρ hρ => ⟨.refl _, .refl _, wkOwn hρ, trivial⟩) rfl rfl ⟨⟨by decide, _, rfl, wkB_rw (row := rowG (nM g) (ownC 5 11 (cw ++ [(⟨(wi g 257), (wi (dv g 13) 9000), (wr .u32 g), ((p0 :: pt).map d2), knM g k, default⟩ : Ck)]))) ⟨.refl _, wkOwn1 rfl (by simp; try rfl) (by simp; try rfl), trivial⟩⟩, hokOwn1 (fC (cw ++ [(⟨(wi g 257), (wi (dv g 13) 9000), (wr .u32 g), ((p0 :: pt).map d2), knM g k, default⟩ : Ck)])) (by decide) rfl (by first | rfl | exact ckapp' _ ⟨(wi g 257), (wi (dv g 13) 9000), (wr .u32 g), ((p0 :: pt).map d2), knM g k, default⟩ | (show List.take cw.length (List.drop 0 (cw.map encC)) ++ [encC ⟨(wi g 257), (wi (dv g 13) 9000), (wr .u32 g), ((p0 :: pt).map d2), knM g k, default⟩] = _; exact ckapp' _ _)) (by simp; try rfl) trivial⟩, ⟨k + 1, ⟨by omega, rfl⟩, by rw [hcs']⟩, by omega⟩
          ·have hcm : chunkM g k (ls.getD k default).kind l a' = (⟨(wi g 257), (wi (dv g 13) 9000), (wr .u32 g), ((p0 :: pt).map d2), knM g k, default⟩, a') := by
            unfold chunkM
            rw [hck, if_neg (fun hh => by have h1 : knM g k = true := hh.1; unfold knM at h1; rw [decide_eq_false hkn] at h1; cases h1)]
           repeat' (first | (refine And.intro ?_ ?_) | (intro h; try first | exact dzq | replace h := cvq))
           all_goals (try exact czq)
           refine ⟨fS s gs l ls a' i g rz k cw (wi g 257) (wi (dv g 13) 9000) (wr .u32 g) ((p0 :: pt).map d2) false, Reb.trans (s' := eS2 s gs l ls a' i g rz k cw (wi g 257) (wi (dv g 13) 9000) (wr .u32 g) ((p0 :: pt).map d2) false) (mk_reb [0, 1, 2, 3, 4, 5, 6] rfl rfl rfl rfl (by exact rfl) ⟨.refl _, .refl _, .refl _, .refl _, .refl _, .refl _, .refl _, .refl _, .refl _, .refl _, wk_bool (by first | rfl | rw [if_pos rfl, decide_eq_false (by omega)]), trivial⟩ rfl (fun ρ hρ => ⟨.refl _, .refl _, wkOwn hρ, trivial⟩) rfl rfl ⟨⟨by decide, _, rfl, wkB_rw (row := rowG (nM g) (ownC 5 11 cw)) ⟨.refl _, wkOwn rfl, trivial⟩⟩, hokOwn (fC cw) (by decide) rfl ⟨⟨by decide, _, rfl, wkB_rw (row := rowK (wi g 257) (wi (dv g 13) 9000) (wr .u32 g) (.slice 6 0 (((p0 :: pt).map d2)).length 7 none) (knM g k) 0 false) ⟨.refl _, .refl _, .refl _, wk_slc hp7, .refl _, .refl _, .refl _, .refl _, .refl _, .refl _, .refl _, trivial⟩⟩, ⟨⟨by decide, _, rfl, wkB_same (fP _)⟩, trivial⟩⟩⟩) (ck_fz s gs l ls a' i g rz k cw (wi g 257) (wi (dv g 13) 9000) (wr .u32 g) ((p0 :: pt).map d2) false hp6), ?_⟩
           rw [hcm] at hcs
           have hcs' : csAt g l (kindsL ls) a (k + 1) = ((cw ++ [(⟨(wi g 257), (wi (dv g 13) 9000), (wr .u32 g), ((p0 :: pt).map d2), knM g k, default⟩ : Ck)]), a') := hcs
           repeat' (first | (refine And.intro ?_ ?_) | (intro h; try first | exact dzq | replace h := cvq))
           all_goals (try exact czq)
           all_goals (try ((with_reducible show (_ : Nat) ≤ _); first | (show (cw.length + 1) * 120 ≤ _; omega) | (show cw.length + 1 ≤ _; omega)))
           exact ⟨_, iS s gs l ls a' i g rz (k + 1) (cw ++ [(⟨(wi g 257), (wi (dv g 13) 9000), (wr .u32 g), ((p0 :: pt).map d2), knM g k, default⟩ : Ck)]), mk_reb [0, 1, 2, 3, 4, 8, 6] rfl rfl rfl rfl (by exact rfl) ⟨.refl _, .refl _, .refl _, .refl _, .refl _, .refl _, .refl _, .refl _, wk_int (by omega), trivial⟩ rfl (fun ρ hρ => ⟨.refl _, .refl _, wkOwn hρ, trivial⟩) rfl rfl ⟨⟨by decide, _, rfl, wkB_rw (row := rowG (nM g) (ownC 5 11 (cw ++ [(⟨(wi g 257), (wi (dv g 13) 9000), (wr .u32 g), ((p0 :: pt).map d2), knM g k, default⟩ : Ck)]))) ⟨.refl _, wkOwn1 rfl (by simp; try rfl) (by simp; try rfl), trivial⟩⟩, hokOwn1 (fC (cw ++ [(⟨(wi g 257), (wi (dv g 13) 9000), (wr .u32 g), ((p0 :: pt).map d2), knM g k, default⟩ : Ck)])) (by decide) rfl (by first | rfl | exact ckapp' _ ⟨(wi g 257), (wi (dv g 13) 9000), (wr .u32 g), ((p0 :: pt).map d2), knM g k, default⟩ | (show List.take cw.length (List.drop 0 (cw.map encC)) ++ [encC ⟨(wi g 257), (wi (dv g 13) 9000), (wr .u32 g), ((p0 :: pt).map d2), knM g k, default⟩] = _; exact ckapp' _ _)) (by simp; try rfl) trivial⟩, ⟨k + 1, ⟨by omega, rfl⟩, by rw [hcs']⟩, by omega⟩
       ·have hck : chunk0 g k = ⟨0, 0, 0, p0 :: pt, knM g k, default⟩ := by unfold chunk0; rw [if_neg hd, ← hpe]; rfl
        have hp6 : 0 < ((p0 :: pt)).length := by simp
        have hp7 : (p0 :: pt).length = ((p0 :: pt)).length := by simp
        by_cases hkn : 0 < wi (dv g 3 + k) 3
        ·by_cases hll0 : 0 < l.length
         ·repeat' (first | (refine And.intro ?_ ?_) | (intro h; try first | exact dzq | replace h := cvq))
          all_goals (try exact czq)
          refine ⟨fS s gs l ls a' i g rz k cw 0 0 0 (p0 :: pt) true, Reb.trans (s' := eS2 s gs l ls a' i g rz k cw 0 0 0 (p0 :: pt) true) (mk_reb [0, 1, 2, 3, 4, 5, 6] rfl rfl rfl rfl (by exact rfl) ⟨.refl _, .refl _, .refl _, .refl _, .refl _, .refl _, .refl _, .refl _, .refl _, .refl _, wk_bool (by rw [if_pos rfl, decide_eq_true (by omega)]), trivial⟩ rfl (fun ρ hρ => ⟨.refl _, .refl _, wkOwn hρ, trivial⟩) rfl rfl ⟨⟨by decide, _, rfl, wkB_rw (row := rowG (nM g) (ownC 5 11 cw)) ⟨.refl _, wkOwn rfl, trivial⟩⟩, hokOwn (fC cw) (by decide) rfl ⟨⟨by decide, _, rfl, wkB_rw (row := rowK 0 0 0 (.slice 6 0 ((p0 :: pt)).length 7 none) (knM g k) 0 false) ⟨.refl _, .refl _, .refl _, wk_slc hp7, .refl _, .refl _, .refl _, .refl _, .refl _, .refl _, .refl _, trivial⟩⟩, ⟨⟨by decide, _, rfl, wkB_same (fP _)⟩, trivial⟩⟩⟩) (ck_fz s gs l ls a' i g rz k cw 0 0 0 (p0 :: pt) true hp6), ?_⟩
          have hmi : ((a' : Nat) : Int).tmod ((l.length : Nat) : Int) = ((a' % l.length : Nat) : Int) := (Int.ofNat_tmod ..).symm
          have hmlt := Nat.mod_lt a' hll0
          repeat' (first | (refine And.intro ?_ ?_) | (intro h; try first | exact dzq | replace h := cvq))
          all_goals (try exact czq)
          refine ⟨(ls.getD k default).kind, l.getD (a' % l.length) default, ?_, ?_⟩
          ·rw [hmi]; rfl
          have ha9 : a' ≤ 5000 := by
           have h1 : (kindsL ls).length ≤ 1000 := by omega
           have h2 := Nat.mul_le_mul (show i ≤ 4 by omega) h1
           omega
          repeat' (first | (refine And.intro ?_ ?_) | (intro h; try first | exact dzq | replace h := cvq))
          all_goals (try exact czq)
          refine ⟨g, nM g + 1, (by show [AVal.int .i64 (gs.getD i 0), _] = _; rw [hge]; rfl), by omega, ?_⟩
          repeat' (first | (refine And.intro ?_ ?_) | (intro h; try first | exact dzq | replace h := cvq))
          all_goals (try exact czq)
          have hcm : chunkM g k (ls.getD k default).kind l a' = (⟨0, 0, 0, (p0 :: pt), knM g k, ⟨wi g (nM g + 1), true, goodF (ls.getD k default).kind (l.getD (a' % l.length) default), goodF (ls.getD k default).kind (l.getD (a' % l.length) default)⟩⟩, a' + 1) := by
           unfold chunkM
           rw [hck, if_pos ⟨decide_eq_true hkn, hll0⟩]
          have hcs' : csAt g l (kindsL ls) a (k + 1) = ((cw ++ [(⟨0, 0, 0, (p0 :: pt), knM g k, ⟨wi g (nM g + 1), true, goodF (ls.getD k default).kind (l.getD (a' % l.length) default), goodF (ls.getD k default).kind (l.getD (a' % l.length) default)⟩⟩ : Ck)]), a' + 1) := hcs.trans (by rw [hcm])
          repeat' (first | (refine And.intro ?_ ?_) | (intro h; try first | exact dzq | replace h := cvq))
          all_goals (try exact czq)
          all_goals (try ((with_reducible show (_ : Nat) ≤ _); first | (show (cw.length + 1) * 120 ≤ _; omega) | (show cw.length + 1 ≤ _; omega)))
          refine ⟨_, iS s gs l ls (a' + 1) i g rz (k + 1) (cw ++ [(⟨0, 0, 0, (p0 :: pt), knM g k, ⟨wi g (nM g + 1), true, goodF (ls.getD k default).kind (l.getD (a' % l.length) default), goodF (ls.getD k default).kind (l.getD (a' % l.length) default)⟩⟩ : Ck)]), ?_, ⟨k + 1, ⟨by omega, rfl⟩, by rw [hcs']⟩, by omega⟩
          refine mk_reb [0, 1, 2, 3, 4, 7 + 14 * RR + 1 + 10 * RR + 1 + 1, 6] rfl rfl rfl rfl (by kernel_rfl) ⟨.refl _, .refl _, .refl _, .refl _, .refl _, wk_int (by omega), .refl _, .refl _, wk_int (by omega), trivial⟩ rfl (fun ρ hρ => ⟨.refl _, .refl _, wkOwn hρ, trivial⟩) rfl rfl ⟨⟨by decide, _, rfl, wkB_rw (row := rowG (nM g) (ownC 5 11 (cw ++ [(⟨0, 0, 0, (p0 :: pt), knM g k, ⟨wi g (nM g + 1), true, goodF (ls.getD k default).kind (l.getD (a' % l.length) default), goodF (ls.getD k default).kind (l.getD (a' % l.length) default)⟩⟩ : Ck)]))) ⟨.refl _, wkOwn1 rfl (by simp; try rfl) (by simp; try rfl), trivial⟩⟩, ?_⟩
          exact hokOwn1 (fC (cw ++ [(⟨0, 0, 0, (p0 :: pt), knM g k, ⟨wi g (nM g + 1), true, goodF (ls.getD k default).kind (l.getD (a' % l.length) default), goodF (ls.getD k default).kind (l.getD (a' % l.length) default)⟩⟩ : Ck)])) (by decide) rfl (by rw [hmi]; first | rfl | exact ckapp' _ (⟨0, 0, 0, (p0 :: pt), knM g k, ⟨wi g (nM g + 1), true, goodF (ls.getD k default).kind (l.getD (a' % l.length) default), goodF (ls.getD k default).kind (l.getD (a' % l.length) default)⟩⟩ : Ck) | (show List.take cw.length (List.drop 0 (cw.map encC)) ++ [encC (⟨0, 0, 0, (p0 :: pt), knM g k, ⟨wi g (nM g + 1), true, goodF (ls.getD k default).kind (l.getD (a' % l.length) default), goodF (ls.getD k default).kind (l.getD (a' % l.length) default)⟩⟩ : Ck)] = _; exact ckapp' _ _)) (by simp; try rfl) trivial
         ·have hcm : chunkM g k (ls.getD k default).kind l a' = (⟨0, 0, 0, (p0 :: pt), knM g k, default⟩, a') := by
           unfold chunkM
           rw [hck, if_neg (fun hh => hll0 hh.2)]
          repeat' (first | (refine And.intro ?_ ?_) | (intro h; try first | exact dzq | replace h := cvq))
          all_goals (try exact czq)
          refine ⟨fS s gs l ls a' i g rz k cw 0 0 0 (p0 :: pt) false, Reb.trans (s' := eS2 s gs l ls a' i g rz k cw 0 0 0 (p0 :: pt) false) (mk_reb [0, 1, 2, 3, 4, 5, 6] rfl rfl rfl rfl (by exact rfl) ⟨.refl _, .refl _, .refl _, .refl _, .refl _, .refl _, .refl _, .refl _, .refl _, .refl _, wk_bool (by first | rfl | rw [if_pos rfl, decide_eq_false (by omega)]), trivial⟩ rfl (fun ρ hρ => ⟨.refl _, .refl _, wkOwn hρ, trivial⟩) rfl rfl ⟨⟨by decide, _, rfl, wkB_rw (row := rowG (nM g) (ownC 5 11 cw)) ⟨.refl _, wkOwn rfl, trivial⟩⟩, hokOwn (fC cw) (by decide) rfl ⟨⟨by decide, _, rfl, wkB_rw (row := rowK 0 0 0 (.slice 6 0 ((p0 :: pt)).length 7 none) (knM g k) 0 false) ⟨.refl _, .refl _, .refl _, wk_slc hp7, .refl _, .refl _, .refl _, .refl _, .refl _, .refl _, .refl _, trivial⟩⟩, ⟨⟨by decide, _, rfl, wkB_same (fP _)⟩, trivial⟩⟩⟩) (ck_fz s gs l ls a' i g rz k cw 0 0 0 (p0 :: pt) false hp6), ?_⟩
          rw [hcm] at hcs
          have hcs' : csAt g l (kindsL ls) a (k + 1) = ((cw ++ [(⟨0, 0, 0, (p0 :: pt), knM g k, default⟩ : Ck)]), a') := hcs
          repeat' (first | (refine And.intro ?_ ?_) | (intro h; try first | exact dzq | replace h := cvq))
          all_goals (try exact czq)
          all_goals (try ((with_reducible show (_ : Nat) ≤ _); first | (show (cw.length + 1) * 120 ≤ _; omega) | (show cw.length + 1 ≤ _; omega)))
          exact ⟨_, iS s gs l ls a' i g rz (k + 1) (cw ++ [(⟨0, 0, 0, (p0 :: pt), knM g k, default⟩ : Ck)]), mk_reb [0, 1, 2, 3, 4, 8, 6] rfl rfl rfl rfl (by exact rfl) ⟨.refl _, .refl _, .refl _, .refl _, .refl _, .refl _, .refl _, .refl _, wk_int (by omega), trivial⟩ rfl (fun ρ hρ => ⟨.refl _, .refl _, wkOwn hρ, trivial⟩) rfl rfl ⟨⟨by decide, _, rfl, wkB_rw (row := rowG (nM g) (ownC 5 11 (cw ++ [(⟨0, 0, 0, (p0 :: pt), knM g k, default⟩ : Ck)]))) ⟨.refl _, wkOwn1 rfl (by simp; try rfl) (by simp; try rfl), trivial⟩⟩, hokOwn1 (fC (cw ++ [(⟨0, 0, 0, (p0 :: pt), knM g k, default⟩ : Ck)])) (by decide) rfl (by first | rfl | exact ckapp' _ ⟨0, 0, 0, (p0 :: pt), knM g k, default⟩ | (show List.take cw.length (List.drop 0 (cw.map encC)) ++ [encC ⟨0, 0, 0, (p0 :: pt), knM g k, default⟩] = _; exact ckapp' _ _)) (by simp; try rfl) trivial⟩, ⟨k + 1, ⟨by omega, rfl⟩, by rw [hcs']⟩, by omega⟩
        ·have hcm : chunkM g k (ls.getD k default).kind l a' = (⟨0, 0, 0, (p0 :: pt), knM g k, default⟩, a') := by
          unfold chunkM
          rw [hck, if_neg (fun hh => by have h1 : knM g k = true := hh.1; unfold knM at h1; rw [decide_eq_false hkn] at h1; cases h1)]
         repeat' (first | (refine And.intro ?_ ?_) | (intro h; try first | exact dzq | replace h := cvq))
         all_goals (try exact czq)
         refine ⟨fS s gs l ls a' i g rz k cw 0 0 0 (p0 :: pt) false, Reb.trans (s' := eS2 s gs l ls a' i g rz k cw 0 0 0 (p0 :: pt) false) (mk_reb [0, 1, 2, 3, 4, 5, 6] rfl rfl rfl rfl (by exact rfl) ⟨.refl _, .refl _, .refl _, .refl _, .refl _, .refl _, .refl _, .refl _, .refl _, .refl _, wk_bool (by first | rfl | rw [if_pos rfl, decide_eq_false (by omega)]), trivial⟩ rfl (fun ρ hρ => ⟨.refl _, .refl _, wkOwn hρ, trivial⟩) rfl rfl ⟨⟨by decide, _, rfl, wkB_rw (row := rowG (nM g) (ownC 5 11 cw)) ⟨.refl _, wkOwn rfl, trivial⟩⟩, hokOwn (fC cw) (by decide) rfl ⟨⟨by decide, _, rfl, wkB_rw (row := rowK 0 0 0 (.slice 6 0 ((p0 :: pt)).length 7 none) (knM g k) 0 false) ⟨.refl _, .refl _, .refl _, wk_slc hp7, .refl _, .refl _, .refl _, .refl _, .refl _, .refl _, .refl _, trivial⟩⟩, ⟨⟨by decide, _, rfl, wkB_same (fP _)⟩, trivial⟩⟩⟩) (ck_fz s gs l ls a' i g rz k cw 0 0 0 (p0 :: pt) false hp6), ?_⟩
         rw [hcm] at hcs
         have hcs' : csAt g l (kindsL ls) a (k + 1) = ((cw ++ [(⟨0, 0, 0, (p0 :: pt), knM g k, default⟩ : Ck)]), a') := hcs
         repeat' (first | (refine And.intro ?_ ?_) | (intro h; try first | exact dzq | replace h := cvq))
         all_goals (try exact czq)
         all_goals (try ((with_reducible show (_ : Nat) ≤ _); first | (show (cw.length + 1) * 120 ≤ _; omega) | (show cw.length + 1 ≤ _; omega)))
         exact ⟨_, iS s gs l ls a' i g rz (k + 1) (cw ++ [(⟨0, 0, 0, (p0 :: pt), knM g k, default⟩ : Ck)]), mk_reb [0, 1, 2, 3, 4, 8, 6] rfl rfl rfl rfl (by exact rfl) ⟨.refl _, .refl _, .refl _, .refl _, .refl _, .refl _, .refl _, .refl _, wk_int (by omega), trivial⟩ rfl (fun ρ hρ => ⟨.refl _, .refl _, wkOwn hρ, trivial⟩) rfl rfl ⟨⟨by decide, _, rfl, wkB_rw (row := rowG (nM g) (ownC 5 11 (cw ++ [(⟨0, 0, 0, (p0 :: pt), knM g k, default⟩ : Ck)]))) ⟨.refl _, wkOwn1 rfl (by simp; try rfl) (by simp; try rfl), trivial⟩⟩, hokOwn1 (fC (cw ++ [(⟨0, 0, 0, (p0 :: pt), knM g k, default⟩ : Ck)])) (by decide) rfl (by first | rfl | exact ckapp' _ ⟨0, 0, 0, (p0 :: pt), knM g k, default⟩ | (show List.take cw.length (List.drop 0 (cw.map encC)) ++ [encC ⟨0, 0, 0, (p0 :: pt), knM g k, default⟩] = _; exact ckapp' _ _)) (by simp; try rfl) trivial⟩, ⟨k + 1, ⟨by omega, rfl⟩, by rw [hcs']⟩, by omega⟩
     skip)
   ·obtain rfl : k = ls.length := by omega
    have hce : chunksM g l (kindsL ls) 0 a = csAt g l (kindsL ls) a ls.length := by rw [csAt_eq _ _ _ _ _ (by omega), ← hkl, List.take_length]
    rw [hce] at hst
    generalize csAt g l (kindsL ls) a ls.length = qc at *
    obtain ⟨cs, a'⟩ := qc
    dsimp only at hst
    clear hce
    repeat' (first | (refine And.intro ?_ ?_) | (intro h; try first | exact dzq | replace h := cvq))
    all_goals (try exact czq)
    refine ⟨hS s gs l ls a' i g rz cs, Reb.trans (s' := h1S s gs l ls a' i g rz cs) (mk_reb [0, 1, 2, 3, 4, 5, 6] rfl rfl rfl rfl (by exact rfl) ⟨.refl _, .refl _, .refl _, .refl _, .refl _, .refl _, .refl _, .refl _, wk_bool (by rw [decide_eq_false (by omega)]), trivial⟩ rfl (fun ρ hρ => ⟨.refl _, .refl _, wkOwn hρ, trivial⟩) rfl rfl ⟨⟨by decide, _, rfl, wkB_rw (row := rowG (nM g) (ownC 5 11 cs)) ⟨.refl _, wkOwn rfl, trivial⟩⟩, hokOwn (fC cs) (by decide) rfl trivial⟩) (gr_fz s gs l ls a' i g rz cs), ?_⟩
    repeat' (first | (refine And.intro ?_ ?_) | (intro h; try first | exact dzq | replace h := cvq))
    all_goals (try exact czq)
    all_goals (try ((with_reducible show (_ : Nat) ≤ _); first | omega | (show ((rz).length + 1) * 16 ≤ _; omega) | (show (rz).length + 1 ≤ _; omega)))
    have hsn : sumR (rz ++ [(⟨nM g, cs⟩ : Rw)]) = sumR rz + nM g := by simp only [sumR_app, sumR, Int.add_zero]
    exact ⟨_, oS s gs l ls a' (i + 1) (sumR (rz ++ [(⟨nM g, cs⟩ : Rw)])) (rz ++ [(⟨nM g, cs⟩ : Rw)]), mk_reb3 (K := 8) [0, 1, 2, 8, 4, 5, 6] rfl rfl rfl rfl (by exact rfl) ⟨.refl _, .refl _, .refl _, .refl _, .refl _, .refl _, wk_int (by omega), trivial⟩ rfl (fun ρ hρ => ⟨.refl _, wk_int hsn.symm, wkOwn1 hρ (by simp; try rfl) (by simp; try rfl), trivial⟩) rfl rfl (by first | rfl | exact gpapp' _ _) (by simp; try rfl) trivial, ⟨i + 1, ⟨by omega, rfl⟩, by rw [hst]⟩, by omega⟩
   skip)
 ·obtain rfl : i = (gs.take 4).length := by omega
  generalize gsAt (kindsL ls) l gs (gs.take 4).length = qa at *
  obtain ⟨rs, a⟩ := qa
  dsimp only
  repeat' (first | (refine And.intro ?_ ?_) | (intro h; try first | exact dzq | replace h := cvq))
  all_goals (try exact czq)
  all_goals refine ⟨zS s rs, Reb.trans (s' := z1S s rs) (mk_reb [0, 1, 2, 3, 4, 5, 6] rfl rfl rfl rfl (by exact rfl) ⟨.refl _, .refl _, wk_bool (by first | (simp; done) | (simp; omega)), trivial⟩ rfl (fun ρ hρ => ⟨.refl _, .refl _, wkOwn hρ, trivial⟩) rfl rfl trivial) (m_fz s rs), ?_⟩
  repeat' (first | (refine And.intro ?_ ?_) | (intro h; try first | exact dzq | replace h := cvq))
  all_goals (try exact czq)
  all_goals exact ⟨⟨[(6, .ptr 1 0 0)], [(0, some (.cells [rowM (vF s) (sumR rs) (.vs 2 (rs.map encR))] false)), (1, some (.cells [encM ⟨s, sumR rs, rs⟩] false))], 2⟩, reb_num [0, 1] (by exact rfl) ⟨.refl _, trivial⟩ ⟨⟨by decide, _, rfl, .refl _⟩, ⟨by decide, _, rfl, wkB_row (row := encM ⟨s, sumR rs, rs⟩) ⟨.un rfl, .refl _, .refl _, trivial⟩ (eM _)⟩, trivial⟩, _, rfl, [], fun n b h => (by rw [Heap.get_nil] at h; cases h), rfl, rfl⟩
def S_makeM : SpecI := fun args K => ∃ ns gs l, args = [vI ns, vI gs, vV l] ∧ (ns.length ≤ 9223372036854775807 ∧ gs.length ≤ 9223372036854775807 ∧ l.length ≤ 9223372036854775807 ∧ ∀ g ∈ gs, I64 g) ∧ K (.agg (encM (makeM ns gs l)))
theorem makeM_ok [Syms] : ImmOk Try.prog 11 S_makeM := by
 rintro args K ⟨ns, gs, l, rfl, ⟨h1, h2, h3, h4⟩, hk⟩
 exact ⟨rfl, _, rfl, hk, FnSem.forget (fnT_sound tys_ok fns_ok cMk_det cMk_det.ok mixed (make19_t ns gs l h1 h2 h3 h4))⟩
end Go.Proofs.Ytajieadpaeggcaa

end
