/-
  Are two schemas, two files' descriptions the same? The document's. Any file's is written as the document says, and read as the same. The statement's function. The statements' arguments: numbers, bytes, values.
-/
import Derived.Test.YtajieadpaeggcaaL14
import Derived.Test.YtajieadpaeggcaaL11
import Derived.Test.YtajieadpaeggcaaL13
import Derived.Test.YtajieadpaeggcaaL15
import Derived.Test.YtajieadpaeggcaaL16
import Derived.Test.YtajieadpaeggcaaSxOne
set_option linter.unusedVariables false
set_option linter.unusedSimpArgs false
section
set_option linter.unusedVariables false
set_option linter.unusedSimpArgs false
namespace Go.Proofs.Ytajieadpaeggcaa
open Go Go.Av
set_option maxRecDepth 100000
set_option maxHeartbeats 4000000
theorem rFs_t [Syms] (a b : List Fd) (hl : a.length ≤ 1000000) : fnT noneT noneT (fnTab fns) (tyTab tys) (plTab plt) 100 37 [vF a, vF b] [] 0 (fun v H _ => v = .bool (lsEq fdEq a b) ∧ H = []) := by
 by_cases h0 : a.length = b.length
 ·repeat' (first | (refine And.intro ?_ ?_) | (intro h; try first | exact dzq | replace h := cvq))
  all_goals (try exact czq)
  refine ⟨fun m s => ∃ i : Nat, (i ≤ a.length ∧ m = a.length - i ∧ lsEq fdEq a b = lsEq fdEq (a.drop i) (b.drop i)) ∧ s = ⟨[(0, vF a), (1, vF b), (5, .int .i64 i)], [], 0⟩, ⟨_, ⟨[(0, vF a), (1, vF b), (5, .int .i64 (0 : Nat))], [], 0⟩, reb_num [] rfl ⟨.refl _, .refl _, .refl _, trivial⟩ trivial, 0, ⟨by omega, rfl, rfl⟩, rfl⟩, ?_⟩
  rintro m s ⟨i, ⟨hi, rfl, he⟩, rfl⟩
  by_cases h1 : i < a.length
  ·have hd := lsEq_drop (l := a) (m := b) fdEq h1 (by omega)
   rw [← he] at hd
   cases hq : fdEq (a.getD i default) (b.getD i default)
   ·rw [hq, Bool.false_and] at hd
    have hx1 : (eqb (a.getD i default).name (b.getD i default).name && (decide ((a.getD i default).rep = (b.getD i default).rep) && (decide ((a.getD i default).kind = (b.getD i default).kind) && (decide ((a.getD i default).kids = (b.getD i default).kids) && true)))) = false := hq
    have hx2 := hx1
    have hx3 := hx1
    have hx4 := hx1
    rw [hd]
    repeat' (first | (refine And.intro ?_ ?_) | (intro h; try first | exact dzqi | replace h := cvqi))
    all_goals (try exact czq)
    all_goals first | exact ⟨_, reb_flat [4] rfl, _, rfl, rfl, rfl⟩ | skip
   ·rw [hq, Bool.true_and] at hd
    have hx1 : (eqb (a.getD i default).name (b.getD i default).name && (decide ((a.getD i default).rep = (b.getD i default).rep) && (decide ((a.getD i default).kind = (b.getD i default).kind) && (decide ((a.getD i default).kids = (b.getD i default).kids) && true)))) = true := hq
    have hx2 := hx1
    have hx3 := hx1
    have hx4 := hx1
    repeat' (first | (refine And.intro ?_ ?_) | (intro h; try first | exact dzqi | replace h := cvqi))
    all_goals (try exact czq)
    all_goals first | exact ⟨_, ⟨[(0, vF a), (1, vF b), (5, .int .i64 ((i + 1 : Nat) : Int))], [], 0⟩, reb_num [] rfl ⟨.refl _, .refl _, wk_int (by omega), trivial⟩ trivial, ⟨i + 1, ⟨by omega, rfl, hd⟩, rfl⟩, by omega⟩ | skip
  ·obtain rfl : i = a.length := by omega
   rw [he, lsEq_end _ h0]
   repeat' (first | (refine And.intro ?_ ?_) | (intro h; try first | exact dzq | replace h := cvq))
   all_goals (try exact czq)
   exact ⟨_, reb_flat [4] rfl, _, rfl, rfl, rfl⟩
 ·rw [lsEq_len _ h0]
  repeat' (first | (refine And.intro ?_ ?_) | (intro h; try first | exact dzq | replace h := cvq))
  all_goals (try exact czq)
  exact ⟨_, reb_flat [4] rfl, _, rfl, rfl, rfl⟩
theorem rFs_ok [Syms] : ImmOk Try.prog 37 S_eqFs := by
 rintro args K ⟨a, b, rfl, h, hk⟩
 exact ⟨rfl, _, rfl, hk, fnI tys_ok fns_ok noneT_det noneT_ok mixed (rFs_t a b h)⟩
/-! Chunks -/
noncomputable def plRm : Nat → Nat → Pl := plAdd [(38, 0), (17, 0), (17, 6)] (plTab plt)
abbrev ckT (c : Ck) : List AVal := [.int .i64 c.words, .int .i64 c.size, .int .u32 c.crc, vP c.pages, .bool c.known, .int .i64 c.st.nulls, .bool c.st.has, .int .i64 c.st.mn.n, .str c.st.mn.s, .int .i64 c.st.mx.n, .str c.st.mx.s]
def rsmS (ra rb : List AVal) : St := ⟨[(2, .ptr 0 0 0), (3, .ptr 2 0 0)], [(0, some (.cells [ra] false)), (2, some (.cells [rb] false))], 3⟩
def rsmI (ra rb : List AVal) (i : Nat) : St := ⟨[(2, .ptr 0 0 0), (3, .ptr 2 0 0), (5, .int .i64 i)], [(0, some (.cells [ra] false)), (2, some (.cells [rb] false))], 3⟩
theorem up3 [Syms] {na N : Nat} {e : Env} {H : Heap} {nx nx' : Nat} (h : nx ≤ nx') : Reb na N ⟨e, H, nx⟩ ⟨e, H, nx'⟩ :=
 ⟨fun x => Nat.le_trans x h, fun ι a w hS => ⟨ι, ⟨hS.defers, hS.size, hS.env, hS.heap, fun n L hn => ⟨Nat.lt_of_lt_of_le (hS.bound n L hn).1 h, (hS.bound n L hn).2⟩⟩, .refl ..⟩⟩
theorem rsm_reb [Syms] {N : Nat} {e : Env} {H : Heap} {ra rb ra' rb' : List AVal} (h2 : e.get 2 = .ptr 0 0 0) (h3 : e.get 3 = .ptr 1 0 0) (H0 : H.get 0 = some (.cells [ra'] false)) (H1 : H.get 1 = some (.cells [rb'] false)) (ha : WkVs ra' ra) (hb : WkVs rb' rb) (fa : ∀ x ∈ ra, x.flat = true) (fb : ∀ x ∈ rb, x.flat = true) : Reb 0 N ⟨e, H, 2⟩ (rsmS ra rb) :=
 (up3 (nx' := 3) (by decide)).trans (reb_num [0, 2, 1] (by exact rfl) ⟨by rw [h2]; exact .refl _, by rw [h3]; exact .refl _, trivial⟩ ⟨⟨by decide, _, H0, wkB_row ha fa⟩, ⟨by decide, _, H1, wkB_row hb fb⟩, trivial⟩)
theorem rsmI_reb [Syms] {N nx : Nat} {e : Env} {H : Heap} {i : Nat} {z : Int} {ra rb : List AVal} (h2 : e.get 2 = .ptr 0 0 0) (h3 : e.get 3 = .ptr 2 0 0) (h5 : e.get 5 = .int .i64 z) (hz : z = i) (H0 : H.get 0 = some (.cells [ra] false)) (H2 : H.get 2 = some (.cells [rb] false)) (fa : ∀ x ∈ ra, x.flat = true) (fb : ∀ x ∈ rb, x.flat = true) (hn : NumsOk 0 nx [0, 1, 2] = true) : Reb 0 N ⟨e, H, nx⟩ (rsmI ra rb i) := by
 subst hz
 exact reb_num [0, 1, 2] hn ⟨by rw [h2]; exact .refl _, by rw [h3]; exact .refl _, by rw [h5]; exact .refl _, trivial⟩ ⟨⟨by decide, _, H0, wkB_same (flat_cons fa flat_nil)⟩, ⟨by decide, _, H2, wkB_same (flat_cons fb flat_nil)⟩, trivial⟩
theorem fCt (c : Ck) : ∀ x ∈ ckT c, x.flat = true := fun x hx => by simp at hx; rcases hx with rfl | rfl | rfl | rfl | rfl | rfl | rfl | rfl | rfl | rfl | rfl <;> rfl
theorem rck_t [Syms] (a b : Ck) (hl : a.pages.length ≤ 1000000) : fnT noneT noneT (fnTab fns) (tyTab tys) plRm 100 38 [.agg (encC a), .agg (encC b)] [] 0 (fun v H _ => v = .bool (ckEq a b) ∧ H = []) := by
 repeat' (first | (refine And.intro ?_ ?_) | (intro h; try first | exact dzq | replace h := cvq))
 all_goals (try exact cz)
 refine ⟨rsmS (ckT a) (ckT b), rsm_reb rfl rfl rfl rfl ⟨.refl _, .refl _, .refl _, .tab rfl, .refl _, .refl _, .refl _, .refl _, .refl _, .refl _, .refl _, trivial⟩ ⟨.refl _, .refl _, .refl _, .tab rfl, .refl _, .refl _, .refl _, .refl _, .refl _, .refl _, .refl _, trivial⟩ (fCt a) (fCt b), ?_⟩
 have hq : ckEq a b = (decide (a.words = b.words) && decide (a.size = b.size) && decide (a.crc = b.crc) && lsEq pgEq a.pages b.pages && decide (a.known = b.known) && stEq a.st b.st) := rfl
 rw [hq]
 clear hq
 by_cases h1 : a.words = b.words
 case neg =>
  repeat' (first | (refine And.intro ?_ ?_) | (intro h; try first | exact dzq | replace h := cvq))
  all_goals (try exact czq)
  all_goals exact ⟨_, reb_flat [4] rfl, _, rfl, congrArg AVal.bool (by simp [*]), rfl⟩
 by_cases h2 : a.size = b.size
 case neg =>
  repeat' (first | (refine And.intro ?_ ?_) | (intro h; try first | exact dzq | replace h := cvq))
  all_goals (try exact czq)
  all_goals exact ⟨_, reb_flat [4] rfl, _, rfl, congrArg AVal.bool (by simp [*]), rfl⟩
 by_cases h3 : a.crc = b.crc
 case neg =>
  repeat' (first | (refine And.intro ?_ ?_) | (intro h; try first | exact dzq | replace h := cvq))
  all_goals (try exact czq)
  all_goals exact ⟨_, reb_flat [4] rfl, _, rfl, congrArg AVal.bool (by simp [*]), rfl⟩
 by_cases h4 : a.pages.length = b.pages.length
 case neg =>
  have h5 := lsEq_len pgEq h4
  repeat' (first | (refine And.intro ?_ ?_) | (intro h; try first | exact dzq | replace h := cvq))
  all_goals (try exact czq)
  all_goals exact ⟨_, reb_flat [4] rfl, _, rfl, congrArg AVal.bool (by simp [*]), rfl⟩
 by_cases h5 : a.known = b.known
 case neg =>
  have hx1 : (a.known = b.known) = False := eq_false h5
  have hx2 := hx1
  have hx3 := hx1
  have hx4 := hx1
  repeat' (first | (refine And.intro ?_ ?_) | (intro h; try first | exact dzqi | replace h := cvqi))
  all_goals (try exact czq)
  all_goals exact ⟨_, reb_flat [4] rfl, _, rfl, congrArg AVal.bool (by simp [*]), rfl⟩
 have hx1 : (a.known = b.known) = True := eq_true h5
 have hq : stEq a.st b.st = (decide (a.st.nulls = b.st.nulls) && true && (decide (a.st.has = b.st.has) && true && (decide (a.st.mn.n = b.st.mn.n) && (eqb a.st.mn.s b.st.mn.s && true) && (decide (a.st.mx.n = b.st.mx.n) && (eqb a.st.mx.s b.st.mx.s && true) && true)))) := rfl
 rw [decide_eq_true h1, decide_eq_true h2, decide_eq_true h3, decide_eq_true h5]
 cases h6 : stEq a.st b.st
 ·have hx2 := hq.symm.trans h6
  have hx3 := hx2
  have hx4 := hx2
  rw [Bool.and_false]
  clear hq
  repeat' (first | (refine And.intro ?_ ?_) | (intro h; try first | exact dzqi | replace h := cvqi))
  all_goals (try exact czq)
  all_goals first | exact absurd h5 (by assumption) | exact absurd (hx2.symm.trans (by assumption)) (by decide) | exact ⟨_, reb_flat [4] rfl, _, rfl, rfl, rfl⟩
 ·have hx2 := hq.symm.trans h6
  have hx3 := hx2
  have hx4 := hx2
  rw [Bool.and_true, Bool.and_true]
  clear hq
  repeat' (first | (refine And.intro ?_ ?_) | (intro h; try first | exact dzqi | replace h := cvqi))
  all_goals (try exact czq)
  all_goals first | exact absurd h5 (by assumption) | exact absurd (hx2.symm.trans (by assumption)) (by decide) | skip
  refine ⟨fun m s => ∃ i : Nat, (i ≤ a.pages.length ∧ m = a.pages.length - i ∧ lsEq pgEq a.pages b.pages = lsEq pgEq (a.pages.drop i) (b.pages.drop i)) ∧ s = rsmI (ckT a) (ckT b) i, ⟨_, rsmI (ckT a) (ckT b) 0, rsmI_reb rfl rfl rfl rfl rfl rfl (fCt a) (fCt b) (by exact rfl), 0, ⟨by omega, rfl, rfl⟩, rfl⟩, ?_⟩
  rintro m s ⟨i, ⟨hi, rfl, he⟩, rfl⟩
  clear hx1 hx2 hx3 hx4
  by_cases hj : i < a.pages.length
  ·have hd := lsEq_drop (l := a.pages) (m := b.pages) pgEq hj (by omega)
   rw [← he] at hd
   cases hq : pgEq (a.pages.getD i default) (b.pages.getD i default)
   ·rw [hq, Bool.false_and] at hd
    have hx1 : (decide ((a.pages.getD i default).rows = (b.pages.getD i default).rows) && (decide ((a.pages.getD i default).cells = (b.pages.getD i default).cells) && (decide ((a.pages.getD i default).enc = (b.pages.getD i default).enc) && (decide ((a.pages.getD i default).rlen = (b.pages.getD i default).rlen) && (decide ((a.pages.getD i default).dlen = (b.pages.getD i default).dlen) && (decide ((a.pages.getD i default).vlen = (b.pages.getD i default).vlen) && (decide ((a.pages.getD i default).crc = (b.pages.getD i default).crc) && true))))))) = false := hq
    have hx2 := hx1
    have hx3 := hx1
    have hx4 := hx1
    rw [hd]
    repeat' (first | (refine And.intro ?_ ?_) | (intro h; try first | exact dzqi | replace h := cvqi))
    all_goals (try exact czq)
    all_goals first | exact ⟨_, reb_flat [4] rfl, _, rfl, rfl, rfl⟩ | skip
   ·rw [hq, Bool.true_and] at hd
    have hx1 : (decide ((a.pages.getD i default).rows = (b.pages.getD i default).rows) && (decide ((a.pages.getD i default).cells = (b.pages.getD i default).cells) && (decide ((a.pages.getD i default).enc = (b.pages.getD i default).enc) && (decide ((a.pages.getD i default).rlen = (b.pages.getD i default).rlen) && (decide ((a.pages.getD i default).dlen = (b.pages.getD i default).dlen) && (decide ((a.pages.getD i default).vlen = (b.pages.getD i default).vlen) && (decide ((a.pages.getD i default).crc = (b.pages.getD i default).crc) && true))))))) = true := hq
    have hx2 := hx1
    have hx3 := hx1
    have hx4 := hx1
    repeat' (first | (refine And.intro ?_ ?_) | (intro h; try first | exact dzqi | replace h := cvqi))
    all_goals (try exact czq)
    all_goals exact ⟨_, rsmI (ckT a) (ckT b) (i + 1), rsmI_reb rfl rfl rfl (by omega) rfl rfl (fCt a) (fCt b) (by kernel_rfl), ⟨i + 1, ⟨by omega, rfl, hd⟩, rfl⟩, by omega⟩
  ·obtain rfl : i = a.pages.length := by omega
   rw [he, lsEq_end _ h4]
   repeat' (first | (refine And.intro ?_ ?_) | (intro h; try first | exact dzq | replace h := cvq))
   all_goals (try exact czq)
   exact ⟨_, reb_flat [4] rfl, _, rfl, rfl, rfl⟩
theorem rck_ok [Syms] : ImmOk Try.prog 38 S_ckSame := by
 rintro args K ⟨a, b, rfl, h, hk⟩
 exact ⟨rfl, _, rfl, hk, fnI tys_ok fns_ok noneT_det noneT_ok mixed (rck_t a b h)⟩
/-! Descriptions -/
abbrev cRm : CallT := pickT 37 (immT (seeW S_eqFs)) (pickT 38 (immT S_ckSame) noneT)
theorem cRm_det [Syms] : cRm.det Try.prog := pickT_imm rFs_ok.seeW (pickT_imm rck_ok noneT_det)
/-- Two boxes that are written no more. -/
theorem two_fz [Syms] {N k2 k3 n0 n1 nx : Nat} {es : Env} {e : Env} {H : Heap} {ra rb ra' rb' : List AVal} (hk : k3 ≠ k2) (h2 : e.get k2 = .ptr n0 0 0) (h3 : e.get k3 = .ptr n1 0 0) (hne : n1 ≠ n0) (H0 : H.get n0 = some (.cells [ra'] false)) (H1 : H.get n1 = some (.cells [rb'] false)) (ha : SeeL ra' ra) (hb : SeeL rb' rb) (fa : ∀ x ∈ ra', x.flat = true) (fb : ∀ x ∈ rb', x.flat = true) (e1 : FzE n0 [ra'] e es) (e2 : FzE n1 [rb'] ((k2, .vp ra 0) :: (k3, .ptr n1 0 0) :: es) es) : Reb 0 N ⟨e, H, nx⟩ ⟨(k2, .vp ra 0) :: (k3, .vp rb 0) :: es, [], nx⟩ := by
 have r1 : Reb 0 N ⟨e, H, nx⟩ ⟨(k2, .vp ra 0) :: (k3, .ptr n1 0 0) :: es, [(n1, some (.cells [rb'] false))], nx⟩ := by
  refine reb_freezeG (n := n0) (rows := [ra']) H0 (flat_cons fa flat_nil) ⟨?_, ?_, e1⟩ ⟨⟨hne, _, H1, .same _⟩, trivial⟩
  ·rw [h2]; exact .pt 0 0 ra' ra rfl ha
  ·rw [h3]; exact .same _
 refine r1.trans (reb_freezeG (n := n1) (rows := [rb']) ?_ (flat_cons fb flat_nil) ⟨?_, ?_, e2⟩ trivial)
 ·rw [Heap.get_cons, Nat.beq_refl]; rfl
 ·rw [Env.get_cons, Nat.beq_refl]; exact .same _
 ·rw [Env.get_cons, beq_ff hk, Env.get_cons, Nat.beq_refl]; exact .pt 0 0 rb' rb rfl hb
theorem sqm : (∀ m, (encM m).getD 0 .any = .vs 4 (m.s.map encF)) ∧ (∀ m, (encM m).getD 1 .any = .int .i64 m.n) ∧ (∀ m, (encM m).getD 2 .any = .vs 2 (m.groups.map encR)) ∧ (∀ m, (encM m).getD (0 + 0) .any = .vs 4 (m.s.map encF)) ∧ (∀ m, (encM m).getD (0 + 1) .any = .int .i64 m.n) ∧ (∀ m, (encM m).getD (0 + 2) .any = .vs 2 (m.groups.map encR)) ∧ (∀ l : List Rw, (l.map encR).length = l.length) ∧ (∀ l : List Ck, (l.map encC).length = l.length) :=
 ⟨fun _ => rfl, fun _ => rfl, fun _ => rfl, fun _ => rfl, fun _ => rfl, fun _ => rfl, fun _ => List.length_map .., fun _ => List.length_map ..⟩
def rmS (a b : Mt) : St := ⟨[(2, .vp (encM a) 0), (3, .vp (encM b) 0)], [], 2⟩
def rmI (a b : Mt) (i : Nat) : St := ⟨[(2, .vp (encM a) 0), (3, .vp (encM b) 0), (5, .int .i64 i)], [], 0⟩
def rmG (a b : Mt) (i : Nat) (g h : Rw) : St := ⟨[(6, .vp (encR g) 0), (7, .vp (encR h) 0), (2, .vp (encM a) 0), (3, .vp (encM b) 0), (5, .int .i64 i)], [], 0⟩
def rmJ (a b : Mt) (i : Nat) (g h : Rw) (j : Nat) : St := ⟨[(6, .vp (encR g) 0), (7, .vp (encR h) 0), (2, .vp (encM a) 0), (3, .vp (encM b) 0), (5, .int .i64 i), (8, .int .i64 j)], [], 0⟩
theorem rmt_t [Syms] (a b : Mt) (hms : MtS a) : fnT cRm cRm (fnTab fns) (tyTab tys) plRm 100 17 [.agg (encM a), .agg (encM b)] [] 0 (fun v H _ => v = .bool (mtEq a b) ∧ H = []) := by
 repeat' (first | (refine And.intro ?_ ?_) | (intro h; try first | exact dzq | replace h := cvq))
 all_goals (try exact cz)
 refine ⟨rmS a b, two_fz (ra' := encM a) (rb' := encM b) (n0 := 0) (n1 := 1) (by decide) rfl rfl (by decide) rfl rfl ⟨.same _, .same _, .same _, trivial⟩ ⟨.same _, .same _, .same _, trivial⟩ (eM a) (eM b) trivial trivial, ?_⟩
 have hq : mtEq a b = (lsEq fdEq a.s b.s && decide (a.n = b.n) && lsEq rwEq a.groups b.groups) := rfl
 rw [hq]
 clear hq
 obtain ⟨hs1, hs2, hs3⟩ := hms
 have hx1 := sqm
 have hx2 := hx1
 have hx3 := hx1
 have hx4 := hx1
 repeat' (first | (refine And.intro ?_ ?_) | (intro h; try first | exact dzqi | replace h := cvqi))
 all_goals (try exact czq)
 refine ⟨[vF a.s, vF b.s], ⟨.tab rfl, .tab rfl, trivial⟩, a.s, b.s, rfl, hs1, ?_⟩
 have hga : (a.groups.map encR).length = a.groups.length := List.length_map ..
 have hgb : (b.groups.map encR).length = b.groups.length := List.length_map ..
 cases h1 : lsEq fdEq a.s b.s
 ·rw [Bool.false_and, Bool.false_and]
  repeat' (first | (refine And.intro ?_ ?_) | (intro h; try first | exact dzqi | replace h := cvqi))
  all_goals (try exact czq)
  all_goals exact ⟨_, reb_flat [4] rfl, _, rfl, rfl, rfl⟩
 rw [Bool.true_and]
 by_cases h2 : a.n = b.n
 case neg =>
  rw [decide_eq_false h2, Bool.false_and]
  repeat' (first | (refine And.intro ?_ ?_) | (intro h; try first | exact dzqi | replace h := cvqi))
  all_goals (try exact czq)
  all_goals exact ⟨_, reb_flat [4] rfl, _, rfl, rfl, rfl⟩
 rw [decide_eq_true h2, Bool.true_and]
 by_cases h3 : a.groups.length = b.groups.length
 case neg =>
  rw [lsEq_len rwEq h3]
  repeat' (first | (refine And.intro ?_ ?_) | (intro h; try first | exact dzqi | replace h := cvqi))
  all_goals (try exact czq)
  all_goals exact ⟨_, reb_flat [4] rfl, _, rfl, rfl, rfl⟩
 repeat' (first | (refine And.intro ?_ ?_) | (intro h; try first | exact dzqi | replace h := cvqi))
 all_goals (try exact czq)
 refine ⟨fun m s => ∃ i : Nat, (i ≤ a.groups.length ∧ m = a.groups.length - i ∧ lsEq rwEq a.groups b.groups = lsEq rwEq (a.groups.drop i) (b.groups.drop i)) ∧ s = rmI a b i, ⟨_, rmI a b 0, reb_flat [2, 3, 5] rfl, 0, ⟨by omega, rfl, rfl⟩, rfl⟩, ?_⟩
 rintro m s ⟨i, ⟨hi, rfl, he⟩, rfl⟩
 by_cases hj : i < a.groups.length
 ·have hd := lsEq_drop (l := a.groups) (m := b.groups) rwEq hj (by omega)
  rw [← he] at hd
  repeat' (first | (refine And.intro ?_ ?_) | (intro h; try first | exact dzqi | replace h := cvqi))
  all_goals (try exact czq)
  refine ⟨rmG a b i (a.groups.getD i default) (b.groups.getD i default), ?_, ?_⟩
  ·have hra : (asR ((encM a).getD (0 + 2) .any)).getD ((i : Nat) : Int).toNat [] = encR (a.groups.getD i default) := by rw [Int.toNat_natCast]; exact row_at encR default hj
   have hrb : (asR ((encM b).getD (0 + 2) .any)).getD ((i : Nat) : Int).toNat [] = encR (b.groups.getD i default) := by rw [Int.toNat_natCast]; exact row_at encR default (by omega)
   repeat' (first | (refine And.intro ?_ ?_) | (intro h; try first | exact dzqi | replace h := cvqi))
   all_goals (try exact czq)
   all_goals (try ((with_reducible show (_ : Int) < _); first | (show ((i : Nat) : Int) < (((a.groups.map encR).length : Nat) : Int); omega) | (show ((i : Nat) : Int) < (((b.groups.map encR).length : Nat) : Int); omega)))
   all_goals (try first | (rw [hra]; rfl) | (rw [hrb]; rfl))
   all_goals refine Exists.intro () ?_
   all_goals first
    | refine (two_fz (k2 := 6) (k3 := 7) (es := [(2, .vp (encM a) 0), (3, .vp (encM b) 0), (5, .int .i64 i)]) (ra := encR (a.groups.getD i default)) (rb := encR (b.groups.getD i default)) (n0 := 0) (n1 := 1) (ra' := encR (a.groups.getD i default)) (rb' := encR (b.groups.getD i default)) (by decide) rfl rfl (by decide) (by simp only [hra]; rfl) (by simp only [hrb]; rfl) ⟨.same _, .same _, trivial⟩ ⟨.same _, .same _, trivial⟩ (eR _) (eR _) (by exact ⟨.same _, .same _, .same _, trivial⟩) (by exact ⟨.same _, .same _, .same _, trivial⟩)).trans (reb_flat [6, 7, 2, 3, 5] (by rfl))
    | refine (two_fz (k2 := 6) (k3 := 7) (es := [(2, .vp (encM a) 0), (3, .vp (encM b) 0), (5, .int .i64 i)]) (ra := encR (a.groups.getD i default)) (rb := encR (b.groups.getD i default)) (n0 := 1) (n1 := 0) (ra' := encR (a.groups.getD i default)) (rb' := encR (b.groups.getD i default)) (by decide) rfl rfl (by decide) (by simp only [hra]; rfl) (by simp only [hrb]; rfl) ⟨.same _, .same _, trivial⟩ ⟨.same _, .same _, trivial⟩ (eR _) (eR _) (by exact ⟨.same _, .same _, .same _, trivial⟩) (by exact ⟨.same _, .same _, .same _, trivial⟩)).trans (reb_flat [6, 7, 2, 3, 5] (by rfl))
  ·have hsg : RwS (a.groups.getD i default) := by
    rw [List.getD_eq_getElem?_getD, List.getElem?_eq_getElem hj]; exact hs3 _ (List.getElem_mem hj)
   have hgl9 := hsg.1
   generalize a.groups.getD i default = g at *
   generalize b.groups.getD i default = h' at *
   have hq : rwEq g h' = (decide (g.n = h'.n) && lsEq ckEq g.chunks h'.chunks) := rfl
   rw [hq] at hd
   clear hq
   have hca : (g.chunks.map encC).length = g.chunks.length := List.length_map ..
   have hcb : (h'.chunks.map encC).length = h'.chunks.length := List.length_map ..
   by_cases h4 : g.n = h'.n
   case neg =>
    rw [decide_eq_false h4, Bool.false_and, Bool.false_and] at hd
    rw [hd]
    repeat' (first | (refine And.intro ?_ ?_) | (intro h; try first | exact dzqi | replace h := cvqi))
    all_goals (try exact czq)
    all_goals exact ⟨_, reb_flat [4] rfl, _, rfl, rfl, rfl⟩
   rw [decide_eq_true h4, Bool.true_and] at hd
   by_cases h5 : g.chunks.length = h'.chunks.length
   case neg =>
    rw [lsEq_len ckEq h5, Bool.false_and] at hd
    rw [hd]
    repeat' (first | (refine And.intro ?_ ?_) | (intro h; try first | exact dzqi | replace h := cvqi))
    all_goals (try exact czq)
    all_goals exact ⟨_, reb_flat [4] rfl, _, rfl, rfl, rfl⟩
   repeat' (first | (refine And.intro ?_ ?_) | (intro h; try first | exact dzqi | replace h := cvqi))
   all_goals (try exact czq)
   refine ⟨fun m s => ∃ j : Nat, (j ≤ g.chunks.length ∧ m = g.chunks.length - j ∧ lsEq ckEq g.chunks h'.chunks = lsEq ckEq (g.chunks.drop j) (h'.chunks.drop j)) ∧ s = rmJ a b i g h' j, ⟨_, rmJ a b i g h' 0, reb_flat [6, 7, 2, 3, 5, 8] rfl, 0, ⟨by omega, rfl, rfl⟩, rfl⟩, ?_⟩
   rintro m s ⟨j, ⟨hjj, rfl, he2⟩, rfl⟩
   by_cases h6 : j < g.chunks.length
   ·have hd2 := lsEq_drop (l := g.chunks) (m := h'.chunks) ckEq h6 (by omega)
    rw [← he2] at hd2
    have hra : (asR ((encR g).getD (0 + 1) .any)).getD ((j : Nat) : Int).toNat [] = encC (g.chunks.getD j default) := by rw [Int.toNat_natCast]; exact row_at encC default h6
    have hrb : (asR ((encR h').getD (0 + 1) .any)).getD ((j : Nat) : Int).toNat [] = encC (h'.chunks.getD j default) := by rw [Int.toNat_natCast]; exact row_at encC default (by omega)
    have hcp : (g.chunks.getD j default).pages.length ≤ 1000000 := by
     rw [List.getD_eq_getElem?_getD, List.getElem?_eq_getElem h6]; exact hsg.2 _ (List.getElem_mem h6)
    repeat' (first | (refine And.intro ?_ ?_) | (intro h; try first | exact dzqi | replace h := cvqi))
    all_goals (try exact czq)
    all_goals (try ((with_reducible show (_ : Int) < _); first | (show ((j : Nat) : Int) < (((g.chunks.map encC).length : Nat) : Int); omega) | (show ((j : Nat) : Int) < (((h'.chunks.map encC).length : Nat) : Int); omega)))
    all_goals (try first | (rw [hra]; rfl) | (rw [hrb]; rfl))
    refine ⟨g.chunks.getD j default, h'.chunks.getD j default, by simp only [hra, hrb]; rfl, hcp, ?_⟩
    cases hk : ckEq (g.chunks.getD j default) (h'.chunks.getD j default)
    ·rw [hk, Bool.false_and] at hd2
     rw [hd2, Bool.false_and] at hd
     rw [hd]
     repeat' (first | (refine And.intro ?_ ?_) | (intro h; try first | exact dzqi | replace h := cvqi))
     all_goals (try exact czq)
     all_goals exact ⟨_, reb_flat [4] rfl, _, rfl, rfl, rfl⟩
    ·rw [hk, Bool.true_and] at hd2
     repeat' (first | (refine And.intro ?_ ?_) | (intro h; try first | exact dzqi | replace h := cvqi))
     all_goals (try exact czq)
     all_goals exact ⟨g.chunks.length - (j + 1), rmJ a b i g h' (j + 1), reb_num [] (by kernel_rfl) ⟨.refl _, .refl _, .refl _, .refl _, .refl _, wk_int (by omega), trivial⟩ trivial, ⟨j + 1, ⟨by omega, rfl, hd2⟩, rfl⟩, by omega⟩
   ·obtain rfl : j = g.chunks.length := by omega
    rw [he2, lsEq_end _ h5, Bool.true_and] at hd
    repeat' (first | (refine And.intro ?_ ?_) | (intro h; try first | exact dzqi | replace h := cvqi))
    all_goals (try exact czq)
    exact ⟨a.groups.length - (i + 1), rmI a b (i + 1), reb_num [] (by exact rfl) ⟨.refl _, .refl _, wk_int (by omega), trivial⟩ trivial, ⟨i + 1, ⟨by omega, rfl, hd⟩, rfl⟩, by omega⟩
 ·obtain rfl : i = a.groups.length := by omega
  rw [he, lsEq_end _ h3]
  repeat' (first | (refine And.intro ?_ ?_) | (intro h; try first | exact dzqi | replace h := cvqi))
  all_goals (try exact czq)
  exact ⟨_, reb_flat [4] rfl, _, rfl, rfl, rfl⟩
theorem rmt_ok [Syms] : ImmOk Try.prog 17 S_mtSame := by
 rintro args K ⟨a, b, rfl, h, hk⟩
 exact ⟨rfl, _, rfl, hk, fnI tys_ok fns_ok cRm_det cRm_det.ok mixed (rmt_t a b h)⟩
end Go.Proofs.Ytajieadpaeggcaa

end
section
set_option linter.unusedVariables false
set_option linter.unusedSimpArgs false
namespace Go.Proofs.Ytajieadpaeggcaa
open Go Go.Av
set_option maxRecDepth 100000
set_option maxHeartbeats 4000000
abbrev cLb : CallT := pickT 10 (immT S_known19) (pickT 11 (immT S_makeM) (pickT 19 (ownT S_fbytes) (pickT 15 (specT S_fparse) noneT)))
theorem cLb_ok [Syms] : cLb.ok Try.prog := pickT_imm_ok known19_ok (pickT_imm_ok makeM_ok (pickT_own_ok fbytes_ok (pickT_spec fparse_ok noneT_ok)))
abbrev cLd : CallT := pickT 12 (ownT S_rfbytes) (pickT 18 (immT S_mtSame) (pickT 17 (immT S_mtSame) noneT))
theorem cLd_det [Syms] : cLd.det Try.prog := pickT_own rfbytes_ok (pickT_imm mtSame_ok (pickT_imm rmt_ok noneT_det))
noncomputable def plLb : Nat → Nat → Pl := plAdd [(7, 4), (7, 5)] (plTab plt)
theorem bytesM (b : List UInt8) : areBytes (b.map encB) = true ∧ bytesOf (b.map encB) = b := by
 have := bytesT b
 rwa [tabR_map encB 0 b] at this
theorem seeL_refl : ∀ l : List AVal, SeeL l l
 | [] => trivial
 | a :: l => ⟨.same a, seeL_refl l⟩
/-- A box and bytes that are written no more. -/
theorem box_fz [Syms] {N k k2 n0 K nx len : Nat} {e : Env} {H : Heap} {row : List AVal} {rows : List (List AVal)} {b : List UInt8} {cap : Option Nat} (hk : k2 ≠ k) (h1 : e.get k = .ptr n0 0 0) (h2 : e.get k2 = .slice K 0 len 1 cap) (hne : K ≠ n0) (H0 : H.get n0 = some (.cells [row] false)) (HK : H.get K = some (.cells rows false)) (fa : ∀ x ∈ row, x.flat = true) (hr : rows = b.map encB) (hl : len = b.length) (hp : 0 < b.length) : Reb 0 N ⟨e, H, nx⟩ ⟨[(k, .vp row 0), (k2, .vs 1 (b.map encB))], [], nx⟩ := by
 subst hr hl
 have r1 : Reb 0 N ⟨e, H, nx⟩ ⟨[(k, .vp row 0), (k2, .slice K 0 b.length 1 cap)], [(K, some (.cells (b.map encB) false))], nx⟩ := by
  refine reb_freezeG (n := n0) (rows := [row]) H0 (flat_cons fa flat_nil) ⟨?_, ?_, trivial⟩ ⟨⟨hne, _, HK, .same _⟩, trivial⟩
  ·rw [h1]; exact .pt 0 0 row row rfl (seeL_refl row)
  ·rw [h2]; exact .same _
 refine r1.trans (reb_freezeG (n := K) (rows := b.map encB) ?_ (fB b) ⟨?_, ?_, trivial⟩ trivial)
 ·rw [Heap.get_cons, Nat.beq_refl]; rfl
 ·rw [Env.get_cons, Nat.beq_refl]; exact .same _
 ·rw [Env.get_cons, beq_ff hk, Env.get_cons, Nat.beq_refl]
  have := FzV.sl (n := K) (rows := b.map encB) 0 b.length 1 cap hp (by simp)
  rwa [List.drop_zero, List.take_of_length_le (by simp)] at this
theorem lback_t [Syms] (ns gs : List Int) (l : List Vl) (hn : ns.length ≤ 9223372036854775807) (hgl : gs.length ≤ 9223372036854775807) (hll : l.length ≤ 9223372036854775807) (hg : ∀ g ∈ gs, I64 g) (hl : ∀ v ∈ l, I64 v.n) :
 fnT cLd cLb (fnTab fns) (tyTab tys) plLb 100 7 [vI ns, vI gs, vV l] [] 0 (fun v H _ => v = .bool true ∧ H = []) := by
 have hq := makeM_g ns gs hl
 have hb := makeM_b ns gs hl
 have hw := makeM_w ns gs hl
 have hs := makeM_s ns gs hl
 have hlen := makeM_l ns gs hl
 repeat' (first | (refine And.intro ?_ ?_) | (intro h; try first | exact dz | replace h := cv))
 all_goals (try exact cz)
 refine ⟨ns, gs, l, rfl, ⟨hn, hgl, hll, hg⟩, ?_⟩
 generalize makeM ns gs l = m at *
 have hp := parseMF_mtB hq hw
 have he := mtEq_self m
 have hgc : ∀ g ∈ m.groups, g.chunks.length = (leavesF m.s).length := fun g hgm => ((hq.groups g hgm).len).trans (List.length_map ..)
 have hcall2 : ∀ K : List UInt8 → Prop, K (mtB m) → S_fbytes [.agg (encM m)] K := fun K hk => ⟨m, rfl, ⟨hb, by omega⟩, hk⟩
 have hcall3 : ∀ K : List UInt8 → Prop, K (mtB m) → S_rfbytes [.agg (encM m)] K := fun K hk => ⟨m, rfl, ⟨hb, hgc, by omega⟩, hk⟩
 have hpos : 0 < (mtB m).length := by
  have h2 : 0 < (varB (sbF m.s).length).length := putV_pos 9 (sbF m.s).length
  unfold mtB
  rw [nuB, nuB, List.append_nil, Int.toNat_natCast]
  simp only [List.length_append]; omega
 generalize mtB m = b at *
 repeat' (first | (refine And.intro ?_ ?_) | (intro h; try first | exact dz | replace h := cv))
 all_goals (try exact cz)
 refine ⟨[.agg (encM m)], ⟨.imm _ rfl, trivial⟩, ?_⟩
 refine hcall2 _ ?_
 repeat' (first | (refine And.intro ?_ ?_) | (intro h; try first | exact dz | replace h := cv))
 all_goals (try exact cz)
 refine ⟨⟨[(7, .vp (encM m) 0), (8, .vs 1 (b.map encB))], [], 3⟩, box_fz (k := 7) (k2 := 8) (n0 := 0) (K := 2) (row := encM m) (by decide) rfl rfl (by decide) rfl rfl (eM m) rfl rfl hpos, ?_⟩
 repeat' (first | (refine And.intro ?_ ?_) | (intro h; try first | exact dz | replace h := cv))
 all_goals (try exact cz)
 refine ⟨[], [vB b], [], rfl, ⟨.tab rfl, trivial⟩, trivial, b, rfl, rfl, rfl, by omega, ?_⟩
 rw [hp]
 repeat' (first | (refine And.intro ?_ ?_) | (intro h; try first | exact dz | replace h := cv))
 all_goals (try exact cz)
 refine ⟨⟨[(9, .vp (encM m) 0), (7, .vp (encM m) 0), (8, .vs 1 (b.map encB)), (10, .int .i64 0)], [], 0⟩, ?_, ?_⟩
 ·refine (reb_freezeG (n := 5) (rows := [encM m]) (e3 := [(9, .vp (encM m) 0), (7, .vp (encM m) 0), (8, .vs 1 (b.map encB)), (10, .int .i64 0)]) (H3 := []) ?_ (flat_cons (eM m) flat_nil) ?_ trivial).trans (reb_flat [9, 7, 8, 10] rfl)
  ·rfl
  ·exact ⟨.pt 0 0 (encM m) (encM m) rfl (seeL_refl _), .same _, .same _, .same _, trivial⟩
 repeat' (first | (refine And.intro ?_ ?_) | (intro h; try first | exact dz | replace h := cv))
 all_goals (try exact cz)
 ·exact (bytesM b).1
 refine ⟨[.agg (encM m)], ⟨.imm _ rfl, trivial⟩, ?_⟩
 refine hcall3 _ ?_
 have hx1 := (bytesM b).2
 have hx2 := eqb_self b
 have hx3 : List.take b.length (List.drop 0 (b.map encB)) = b.map encB := by rw [List.drop_zero, List.take_of_length_le (by simp)]
 have hx4 := hx3
 repeat' (first | (refine And.intro ?_ ?_) | (intro h; try first | exact dzqi | replace h := cvqi))
 all_goals (try exact cz)
 ·rw [hx3]; exact (bytesM b).1
 refine ⟨m, m, rfl, hs, ?_⟩
 rw [he]
 repeat' (first | (refine And.intro ?_ ?_) | (intro h; try first | exact dzqi | replace h := cvqi))
 all_goals (try exact cz)
 refine ⟨m, m, rfl, hs, ?_⟩
 rw [he]
 repeat' (first | (refine And.intro ?_ ?_) | (intro h; try first | exact dzqi | replace h := cvqi))
 all_goals (try exact cz)
 exact ⟨_, reb_flat [6] rfl, _, rfl, rfl, rfl⟩
theorem lback_sem [Syms] (ns gs : List Int) (l : List Vl) (hn : ns.length ≤ 9223372036854775807) (_ : ∀ g ∈ ns, I64 g) (hgl : gs.length ≤ 9223372036854775807) (hg : ∀ g ∈ gs, I64 g) (hll : l.length ≤ 9223372036854775807) (hl : ∀ v ∈ l, I64 v.n) :
 FnSem Try.prog 7 [vI ns, vI gs, vV l] [] 0 (fun v H _ => v = .bool true ∧ H = []) :=
 fnT_sound tys_ok fns_ok cLd_det cLb_ok mixed (lback_t ns gs l hn hgl hll hg hl)
end Go.Proofs.Ytajieadpaeggcaa

end
section
set_option linter.unusedVariables false
set_option linter.unusedSimpArgs false
namespace Go.Proofs.Ytajieadpaeggcaa
open Go Go.Av
abbrev kI : Shp := .slice (.int .i64)
abbrev kV : Shp := .slice (.struct (.pair (.int .i64) (.pair .str .unit)))
theorem arg_ints [Syms] {ι : Inj} {x : AVal} {v : Value} (h : kI.ok [x]) (hr : RelV ι x v) : ∃ l : List Int, RelV ι (vI l) v ∧ l.length ≤ 9223372036854775807 ∧ ∀ a ∈ l, I64 a :=
 Shp.slice_of (enc := encI) (G := I64) 0 (fun r h => by obtain ⟨z, rfl, hz⟩ := h; exact ⟨z, rfl, wf_i64 hz⟩) h hr
theorem arg_vals [Syms] {ι : Inj} {x : AVal} {v : Value} (h : kV.ok [x]) (hr : RelV ι x v) : ∃ l : List Vl, RelV ι (vV l) v ∧ l.length ≤ 9223372036854775807 ∧ ∀ a ∈ l, I64 a.n :=
 Shp.slice_of (enc := encV) (G := fun a => I64 a.n) default (fun r h => by
  obtain ⟨r1, r2, rfl, ⟨z, rfl, hz⟩, r3, r4, rfl, ⟨s, rfl, hs⟩, rfl⟩ := h
  exact ⟨⟨z, s⟩, rfl, wf_i64 hz⟩) h hr
end Go.Proofs.Ytajieadpaeggcaa

end
