/-
  A chunk's bytes. The document's. A schema's bytes. The document's. What a file says of itself, as bytes. The document's.
-/
import Derived.Test.YtajieadpaeggcaaL15
import Derived.Test.YtajieadpaeggcaaL14
import Derived.Test.YtajieadpaeggcaaL10
import Derived.Test.YtajieadpaeggcaaL11
import Derived.Test.YtajieadpaeggcaaL12
set_option linter.unusedVariables false
set_option linter.unusedSimpArgs false
section
set_option linter.unusedVariables false
set_option linter.unusedSimpArgs false
namespace Go.Proofs.Ytajieadpaeggcaa
open Go Go.Av
set_option maxRecDepth 100000
set_option maxHeartbeats 4000000
abbrev cRk : CallT := pickT 24 (ownT S_rnum19) (pickT 51 (ownT S_rcput) (pickT 53 (ownT S_rvalue) (pickT 52 (oneR (pickT 52 (specT S_flag) noneT)) noneT)))
abbrev cRk2 : CallT := pickT 24 (ownT S_rnum19) (pickT 51 (ownT S_rcput) (pickT 53 (ownT S_rvalue) (pickT 52 (specT S_flag) noneT)))
theorem cRk_det [Syms] : cRk.det Try.prog := pickT_own rnum19_ok (pickT_own rcput_ok (pickT_own rvalue_ok (fun f args H nx K h => by
 unfold pickT at h
 cases hf : Nat.beq f 52 with
 | true => rw [hf] at h; exact oneR_det (pickT_spec rbit_ok noneT_ok) f args H nx K h
 | false => rw [hf] at h; exact h.elim)))
theorem cRk2_ok [Syms] : cRk2.ok Try.prog := pickT_own_ok rnum19_ok (pickT_own_ok rcput_ok (pickT_own_ok rvalue_ok (pickT_spec rbit_ok noneT_ok)))
noncomputable def plRk : Nat → Nat → Pl := plAdd [(25, 2), (25, 6), (25, 10), (25, 14)] (plTab plt)
def rkS (k : Int) (c : Ck) (o : List UInt8) : St := ⟨[(0, slB 0 o), (1, .int .i64 k), (5, .ptr 1 0 0)], [(0, oB o), (1, some (.cells [encC c] false))], 2⟩
def rkL (k : Int) (c : Ck) (o : List UInt8) (i : Nat) : St := ⟨[(0, slB 0 o), (1, .int .i64 k), (5, .ptr 1 0 0), (7, .int .i64 i)], [(0, oB o), (1, some (.cells [encC c] false))], 2⟩
def rkP (k : Int) (c : Ck) (o : List UInt8) (i : Nat) (p : Pg) : St := ⟨[(0, slB 0 o), (1, .int .i64 k), (5, .ptr 1 0 0), (7, .int .i64 i), (8, .ptr 2 0 0)], [(0, oB o), (1, some (.cells [encC c] false)), (2, some (.cells [encP p] false))], 3⟩
theorem rkP_reb [Syms] {N nx : Nat} {e : Env} {H : Heap} {k : Int} {c : Ck} {o : List UInt8} {i : Nat} {p : Pg} {row : List AVal} (hn : NumsOk 0 nx [0, 1, 2] = true) (h0 : e.get 0 = slB 0 o) (h1 : e.get 1 = .int .i64 k) (h5 : e.get 5 = .ptr 1 0 0) (h7 : e.get 7 = .int .i64 i) (h8 : e.get 8 = .ptr 2 0 0)
 (H0 : H.get 0 = oB o) (H1 : H.get 1 = some (.cells [encC c] false)) (H2 : H.get 2 = some (.cells [row] false)) (hr : row = encP p) : Reb 0 N ⟨e, H, nx⟩ (rkP k c o i p) := by
 subst hr
 exact reb_num [0, 1, 2] hn ⟨by rw [h0]; exact .refl _, by rw [h1]; exact .refl _, by rw [h5]; exact .refl _, by rw [h7]; exact .refl _, by rw [h8]; exact .refl _, trivial⟩ ⟨⟨by decide, _, H0, wkB_same (fB _)⟩, ⟨by decide, _, H1, .refl _⟩, ⟨by decide, _, H2, wkB_same (flat_cons (eP p) flat_nil)⟩, trivial⟩
theorem rk_reb [Syms] {N K B nx : Nat} {e : Env} {H : Heap} {len : Nat} {rows : List (List AVal)} {row : List AVal} {k : Int} {c : Ck} {o : List UInt8} {cap : Option Nat} (hn : NumsOk 0 nx [K, B] = true) (h0 : e.get 0 = .slice K 0 len 1 cap) (h1 : e.get 1 = .int .i64 k) (h5 : e.get 5 = .ptr B 0 0) (hK : H.get K = some (.cells rows false)) (hB : H.get B = some (.cells [row] false)) (hrow : row = encC c) (hr : rows = o.map encB) (hl : len = o.length) : Reb 0 N ⟨e, H, nx⟩ (rkS k c o) := by
 subst hr hl hrow
 exact reb_num [K, B] hn ⟨by rw [h0]; exact wk_slc rfl, by rw [h1]; exact .refl _, by rw [h5]; exact .refl _, trivial⟩ ⟨⟨Nat.succ_pos _, _, hK, wkB_eq rfl (fB _)⟩, ⟨Nat.lt_succ_self _, _, hB, wkB_row (row := encC c) ⟨.refl _, .refl _, .refl _, .refl _, .refl _, .refl _, .refl _, .refl _, .refl _, .refl _, .refl _, trivial⟩ (eC c)⟩, trivial⟩
theorem renR_flat (ρ : Nat → Nat) {rows : List (List AVal)} (hf : flatRows rows) : rows.map (AVal.renL ρ) = rows := by
 rw [show rows.map (AVal.renL ρ) = rows.map id from List.map_congr_left fun r hr => renL_flat ρ (hf r hr), List.map_id]
def rkT (k : Int) (c : Ck) (o : List UInt8) : St := ⟨[(0, slB 0 o), (1, .int .i64 k), (5, .ptr 1 0 0), (81, .bool c.st.has)], [(0, oB o), (1, some (.cells [encC c] false))], 2⟩
theorem rkT_reb [Syms] {N K nx : Nat} {ρ : Nat → Nat} {e : Env} {H : Heap} {len : Nat} {k : Int} {c : Ck} {o : List UInt8} {cap : Option Nat} (hn : NumsOk 0 nx [K, 1] = true) (h0 : e.get 0 = .slice K 0 len 1 cap) (h1 : e.get 1 = .int .i64 k) (h5 : e.get 5 = .ptr 1 0 0) (h81 : e.get 81 = .bool c.st.has) (hK : H.get K = some (.cells ((o.map encB).map (AVal.renL ρ)) false)) (hB : H.get 1 = some (.cells [encC c] false)) (hl : len = o.length) : Reb 0 N ⟨e, H, nx⟩ (rkT k c o) := by
 rw [renR_flat ρ (fB o)] at hK
 subst hl
 exact reb_num [K, 1] hn ⟨by rw [h0]; exact wk_slc rfl, by rw [h1]; exact .refl _, by rw [h5]; exact .refl _, by rw [h81]; exact .refl _, trivial⟩ ⟨⟨Nat.succ_pos _, _, hK, wkB_eq rfl (fB _)⟩, ⟨Nat.lt_succ_self _, _, hB, .refl _⟩, trivial⟩
theorem rkL_reb [Syms] {N K nx : Nat} {e : Env} {H : Heap} {len : Nat} {rows : List (List AVal)} {k i1 : Int} {c : Ck} {o : List UInt8} {i : Nat} {cap : Option Nat} (hn : NumsOk 0 nx [K, 1] = true) (h0 : e.get 0 = .slice K 0 len 1 cap) (h1 : e.get 1 = .int .i64 k) (h5 : e.get 5 = .ptr 1 0 0) (h7 : e.get 7 = .int .i64 i1) (hi : i1 = i)
 (hK : H.get K = some (.cells rows false)) (hB : H.get 1 = some (.cells [encC c] false)) (hr : rows = o.map encB) (hl : len = o.length) : Reb 0 N ⟨e, H, nx⟩ (rkL k c o i) := by
 subst hr hl hi
 exact reb_num [K, 1] hn ⟨by rw [h0]; exact wk_slc rfl, by rw [h1]; exact .refl _, by rw [h5]; exact .refl _, by rw [h7]; exact .refl _, trivial⟩ ⟨⟨Nat.succ_pos _, _, hK, wkB_eq rfl (fB _)⟩, ⟨Nat.lt_succ_self _, _, hB, .refl _⟩, trivial⟩
theorem rchunk_t [Syms] (o : List UInt8) (k : Int) (c : Ck) (hc : CkB c) (hl : o.length + (ckB k c).length ≤ 1000000) :
 fnT cRk cRk2 (fnTab fns) (tyTab tys) plRk 100 25 [vB o, .int .i64 k, .agg (encC c)] [] 0 (ownP (o ++ ckB k c)) := by
 have hw := wrC hc.crc
 have hlen : (ckB k c).length = (nuB [c.words]).length + (nuB [c.size]).length + 4 + (nuB [(c.pages.length : Int)]).length + (pgsB c.pages).length + (flB c.known).length + (if c.known = true then stB k c.st else []).length := by
  unfold ckB; rw [nuB_cons]; simp only [List.length_append, leB_len]
 have hO : o ++ ckB k c = o ++ nuB [c.words] ++ nuB [c.size] ++ leB 4 c.crc.toNat ++ nuB [(c.pages.length : Int)] ++ pgsB c.pages ++ flB c.known ++ (if c.known = true then stB k c.st else []) := by
  unfold ckB; rw [nuB_cons]; simp only [List.append_assoc]
 rw [hO]
 clear hO
 have hcall0 : ∀ K : List UInt8 → Prop, K (o ++ nuB [c.words]) → S_rnum19 [vB o, .int .i64 c.words] K := fun K hk => ⟨o, c.words, rfl, ⟨by omega, hc.n1⟩, hk⟩
 have hl0 : (o ++ nuB [c.words]).length = o.length + (nuB [c.words]).length := List.length_append
 generalize hq0 : o ++ nuB [c.words] = q0 at *
 have hcall1 : ∀ K : List UInt8 → Prop, K (q0 ++ nuB [c.size]) → S_rnum19 [vB q0, .int .i64 c.size] K := fun K hk => ⟨q0, c.size, rfl, ⟨by omega, hc.n2⟩, hk⟩
 have hl1 : (q0 ++ nuB [c.size]).length = q0.length + (nuB [c.size]).length := List.length_append
 generalize hq1 : q0 ++ nuB [c.size] = q1 at *
 have hcall2 : ∀ K : List UInt8 → Prop, K (q1 ++ leB 4 c.crc.toNat) → S_rcput [vB q1, .int .i64 ((4 : Nat) : Int), .int .u64 (wr .u64 c.crc)] K := fun K hk => ⟨q1, 4, c.crc.toNat, congrArg (fun z => [vB q1, .int .i64 ((4 : Nat) : Int), AVal.int .u64 z]) hw, by omega, by omega, hk⟩
 have hl2 : (q1 ++ leB 4 c.crc.toNat).length = q1.length + 4 := by rw [List.length_append, leB_len]
 generalize hq2 : q1 ++ leB 4 c.crc.toNat = q2 at *
 repeat' (first | (refine And.intro ?_ ?_) | (intro h; try first | exact dzq | replace h := cvq))
 all_goals (try exact cz)
 refine ⟨[vB o, .int .i64 c.words], ⟨.imm _ rfl, .imm _ rfl, trivial⟩, ?_⟩
 refine hcall0 _ ?_
 repeat' (first | (refine And.intro ?_ ?_) | (intro h; try first | exact dzq | replace h := cvq))
 all_goals (try exact cz)
 refine ⟨[vB q0, .int .i64 c.size], ⟨.byt (rows := q0.map encB) (ro := true) (by kernel_rfl) rfl rfl, .imm _ rfl, trivial⟩, ?_⟩
 refine hcall1 _ ?_
 repeat' (first | (refine And.intro ?_ ?_) | (intro h; try first | exact dzq | replace h := cvq))
 all_goals (try exact cz)
 refine ⟨[vB q1, .int .i64 ((4 : Nat) : Int), .int .u64 (wr .u64 c.crc)], ⟨.byt (rows := q1.map encB) (ro := false) (by kernel_rfl) rfl rfl, .imm _ rfl, .imm _ rfl, trivial⟩, ?_⟩
 refine hcall2 _ ?_
 repeat' (first | (refine And.intro ?_ ?_) | (intro h; try first | exact dzq | replace h := cvq))
 all_goals (try exact cz)
 have hpl := hc.len
 have hpn : NumOk (c.pages.length : Int) := ⟨by omega, by omega⟩
 have hcall3 : ∀ K : List UInt8 → Prop, K (q2 ++ nuB [(c.pages.length : Int)]) → S_rnum19 [vB q2, .int .i64 (((c.pages.map encP).length : Nat) : Int)] K := fun K hk => ⟨q2, (c.pages.length : Int), by rw [List.length_map], ⟨by omega, hpn⟩, hk⟩
 have hl3 : (q2 ++ nuB [(c.pages.length : Int)]).length = q2.length + (nuB [(c.pages.length : Int)]).length := List.length_append
 generalize hq3 : q2 ++ nuB [(c.pages.length : Int)] = q3 at *
 refine ⟨[vB q2, .int .i64 (((c.pages.map encP).length : Nat) : Int)], ⟨.byt (rows := q2.map encB) (ro := false) (by kernel_rfl) rfl rfl, .imm _ rfl, trivial⟩, ?_⟩
 refine hcall3 _ ?_
 repeat' (first | (refine And.intro ?_ ?_) | (intro h; try first | exact dzq | replace h := cvq))
 all_goals (try exact cz)
 refine ⟨rkS k c q3, rk_reb (K := 0 + 1 + 10 * RR + 1) (B := 0) (by kernel_rfl) rfl rfl rfl (by kernel_rfl) (by kernel_rfl) rfl rfl rfl, ?_⟩
 repeat' (first | (refine And.intro ?_ ?_) | (intro h; try first | exact dzq | replace h := cvq))
 all_goals (try exact cz)
 refine ⟨fun m s => ∃ i : Nat, (i ≤ c.pages.length ∧ m = c.pages.length - i) ∧ s = rkL k c (q3 ++ pgsB (c.pages.take i)) i, ⟨_, rkL k c (q3 ++ pgsB (c.pages.take 0)) 0, rkL_reb (K := 0) (by exact rfl) rfl rfl rfl rfl rfl rfl rfl (by simp [pgsB]) (by simp [pgsB]), 0, ⟨by omega, rfl⟩, rfl⟩, ?_⟩
 rintro m s ⟨i, ⟨hi, rfl⟩, rfl⟩
 by_cases h1 : i < c.pages.length
 ·have hpi : PgB (c.pages.getD i default) := by
   rw [List.getD_eq_getElem?_getD, List.getElem?_eq_getElem h1]; exact hc.pages _ (List.getElem_mem h1)
  have hpt := pgsB_take h1
  have hpl2 := pgsB_le c.pages (i + 1)
  have hlo : (q3 ++ pgsB (c.pages.take i)).length + (pgB (c.pages.getD i default)).length ≤ 1000000 := by
   rw [hpt, List.length_append] at hpl2
   rw [List.length_append]; omega
  have hO2 : q3 ++ pgsB (c.pages.take (i + 1)) = q3 ++ pgsB (c.pages.take i) ++ nuB [(c.pages.getD i default).rows] ++ nuB [(c.pages.getD i default).cells] ++ nuB [(c.pages.getD i default).enc] ++ nuB [(c.pages.getD i default).rlen] ++ nuB [(c.pages.getD i default).dlen] ++ nuB [(c.pages.getD i default).vlen] ++ leB 4 (c.pages.getD i default).crc.toNat := by
   rw [hpt, pgB, nuB_cons, nuB_cons (c.pages.getD i default).cells, nuB_cons (c.pages.getD i default).enc, nuB_cons (c.pages.getD i default).rlen, nuB_cons (c.pages.getD i default).dlen]; simp only [List.append_assoc]
  have hpgl : (pgB (c.pages.getD i default)).length = (nuB [(c.pages.getD i default).rows]).length + (nuB [(c.pages.getD i default).cells]).length + (nuB [(c.pages.getD i default).enc]).length + (nuB [(c.pages.getD i default).rlen]).length + (nuB [(c.pages.getD i default).dlen]).length + (nuB [(c.pages.getD i default).vlen]).length + 4 := by
   rw [pgB, nuB_cons, nuB_cons (c.pages.getD i default).cells, nuB_cons (c.pages.getD i default).enc, nuB_cons (c.pages.getD i default).rlen, nuB_cons (c.pages.getD i default).dlen]; simp only [List.length_append, leB_len]; omega
  have hwp := wrC hpi.crc
  clear hpt hpl2
  generalize q3 ++ pgsB (c.pages.take i) = q at *
  generalize hpe : c.pages.getD i default = p at *
  have hca : ∀ K : List UInt8 → Prop, K (q ++ nuB [p.rows]) → S_rnum19 [vB q, .int .i64 p.rows] K := fun K hk => ⟨q, p.rows, rfl, ⟨by omega, hpi.n1⟩, hk⟩
  have la : (q ++ nuB [p.rows]).length = q.length + (nuB [p.rows]).length := List.length_append
  generalize q ++ nuB [p.rows] = a at *
  have hcb : ∀ K : List UInt8 → Prop, K (a ++ nuB [p.cells]) → S_rnum19 [vB a, .int .i64 p.cells] K := fun K hk => ⟨a, p.cells, rfl, ⟨by omega, hpi.n2⟩, hk⟩
  have lb : (a ++ nuB [p.cells]).length = a.length + (nuB [p.cells]).length := List.length_append
  generalize a ++ nuB [p.cells] = b at *
  have hcc : ∀ K : List UInt8 → Prop, K (b ++ nuB [p.enc]) → S_rnum19 [vB b, .int .i64 p.enc] K := fun K hk => ⟨b, p.enc, rfl, ⟨by omega, hpi.n3⟩, hk⟩
  have lc : (b ++ nuB [p.enc]).length = b.length + (nuB [p.enc]).length := List.length_append
  generalize b ++ nuB [p.enc] = d at *
  have hcd : ∀ K : List UInt8 → Prop, K (d ++ nuB [p.rlen]) → S_rnum19 [vB d, .int .i64 p.rlen] K := fun K hk => ⟨d, p.rlen, rfl, ⟨by omega, hpi.n4⟩, hk⟩
  have ld : (d ++ nuB [p.rlen]).length = d.length + (nuB [p.rlen]).length := List.length_append
  generalize d ++ nuB [p.rlen] = e at *
  have hce : ∀ K : List UInt8 → Prop, K (e ++ nuB [p.dlen]) → S_rnum19 [vB e, .int .i64 p.dlen] K := fun K hk => ⟨e, p.dlen, rfl, ⟨by omega, hpi.n5⟩, hk⟩
  have le : (e ++ nuB [p.dlen]).length = e.length + (nuB [p.dlen]).length := List.length_append
  generalize e ++ nuB [p.dlen] = f at *
  have hcf : ∀ K : List UInt8 → Prop, K (f ++ nuB [p.vlen]) → S_rnum19 [vB f, .int .i64 p.vlen] K := fun K hk => ⟨f, p.vlen, rfl, ⟨by omega, hpi.n6⟩, hk⟩
  have lf : (f ++ nuB [p.vlen]).length = f.length + (nuB [p.vlen]).length := List.length_append
  generalize f ++ nuB [p.vlen] = g at *
  have hcg : ∀ K : List UInt8 → Prop, K (g ++ leB 4 p.crc.toNat) → S_rcput [vB g, .int .i64 ((4 : Nat) : Int), .int .u64 (wr .u64 p.crc)] K := fun K hk => ⟨g, 4, p.crc.toNat, congrArg (fun z => [vB g, .int .i64 ((4 : Nat) : Int), AVal.int .u64 z]) hwp, by omega, by omega, hk⟩
  generalize g ++ leB 4 p.crc.toNat = z at *
  have hlm : (List.map encP c.pages).length = c.pages.length := List.length_map ..
  have hrow : (List.map encP c.pages).getD i [] = encP p := by rw [row_at encP default h1, hpe]
  repeat' (first | (refine And.intro ?_ ?_) | (intro h; try first | exact dzq | replace h := cvq))
  all_goals (try exact czq)
  ·show isRow true _ ((List.map encP c.pages).getD ((i : Nat) : Int).toNat []) 0 = true
   rw [Int.toNat_natCast, hrow]; rfl
  refine ⟨rkP k c q i p, rkP_reb (by exact rfl) rfl rfl rfl rfl rfl rfl rfl rfl ?_, ?_⟩
  ·have hrow2 : (asR (([encC c].getD 0 []).getD (0 + 3) .any)).getD ((i : Nat) : Int).toNat [] = encP p := by rw [Int.toNat_natCast]; exact hrow
   simp only [hrow2]; rfl
  repeat' (first | (refine And.intro ?_ ?_) | (intro h; try first | exact dzq | replace h := cvq))
  all_goals (try exact czq)
  refine ⟨[vB q, .int .i64 p.rows], ⟨.byt (rows := q.map encB) (ro := true) (by kernel_rfl) rfl rfl, .imm _ rfl, trivial⟩, ?_⟩
  refine hca _ ?_
  repeat' (first | (refine And.intro ?_ ?_) | (intro h; try first | exact dzq | replace h := cvq))
  all_goals (try exact czq)
  refine ⟨[vB a, .int .i64 p.cells], ⟨.byt (rows := a.map encB) (ro := true) (by kernel_rfl) rfl rfl, .imm _ rfl, trivial⟩, ?_⟩
  refine hcb _ ?_
  repeat' (first | (refine And.intro ?_ ?_) | (intro h; try first | exact dzq | replace h := cvq))
  all_goals (try exact czq)
  refine ⟨[vB b, .int .i64 p.enc], ⟨.byt (rows := b.map encB) (ro := false) (by kernel_rfl) rfl rfl, .imm _ rfl, trivial⟩, ?_⟩
  refine hcc _ ?_
  repeat' (first | (refine And.intro ?_ ?_) | (intro h; try first | exact dzq | replace h := cvq))
  all_goals (try exact czq)
  refine ⟨[vB d, .int .i64 p.rlen], ⟨.byt (rows := d.map encB) (ro := true) (by kernel_rfl) rfl rfl, .imm _ rfl, trivial⟩, ?_⟩
  refine hcd _ ?_
  repeat' (first | (refine And.intro ?_ ?_) | (intro h; try first | exact dzq | replace h := cvq))
  all_goals (try exact czq)
  refine ⟨[vB e, .int .i64 p.dlen], ⟨.byt (rows := e.map encB) (ro := true) (by kernel_rfl) rfl rfl, .imm _ rfl, trivial⟩, ?_⟩
  refine hce _ ?_
  repeat' (first | (refine And.intro ?_ ?_) | (intro h; try first | exact dzq | replace h := cvq))
  all_goals (try exact czq)
  refine ⟨[vB f, .int .i64 p.vlen], ⟨.byt (rows := f.map encB) (ro := false) (by kernel_rfl) rfl rfl, .imm _ rfl, trivial⟩, ?_⟩
  refine hcf _ ?_
  repeat' (first | (refine And.intro ?_ ?_) | (intro h; try first | exact dzq | replace h := cvq))
  all_goals (try exact czq)
  refine ⟨[vB g, .int .i64 ((4 : Nat) : Int), .int .u64 (wr .u64 p.crc)], ⟨.byt (rows := g.map encB) (ro := false) (by kernel_rfl) rfl rfl, .imm _ rfl, .imm _ rfl, trivial⟩, ?_⟩
  refine hcg _ ?_
  repeat' (first | (refine And.intro ?_ ?_) | (intro h; try first | exact dzq | replace h := cvq))
  all_goals (try exact czq)
  exact ⟨_, rkL k c z (i + 1), rkL_reb (K := 3 + 9 * RR + 1 + 9 * RR + 1) (by kernel_rfl) rfl rfl rfl rfl (by omega) (by kernel_rfl) (by kernel_rfl) rfl rfl, ⟨i + 1, ⟨by omega, rfl⟩, by rw [hO2]⟩, by omega⟩
 ·obtain rfl : i = c.pages.length := by omega
  rw [List.take_length]
  have hl4 : (q3 ++ pgsB c.pages).length = q3.length + (pgsB c.pages).length := List.length_append
  generalize hq4 : q3 ++ pgsB c.pages = q4 at *
  have hl5 : (q4 ++ flB c.known).length = q4.length + (flB c.known).length := List.length_append
  have hcall4 : ∀ K : AVal → Heap → Nat → Prop, K (slB 1 (q4 ++ flB c.known)) [(1, oB (q4 ++ flB c.known))] 2 → S_flag [slB 0 q4, .bool c.known] [(0, oB q4)] 1 K := fun K hk => ⟨q4, c.known, rfl, rfl, rfl, by omega, hk⟩
  generalize hq5 : q4 ++ flB c.known = q5 at *
  have hlm : (List.map encP c.pages).length = c.pages.length := List.length_map ..
  repeat' (first | (refine And.intro ?_ ?_) | (intro h; try first | exact dzq | replace h := cvq))
  all_goals (try exact czq)
  refine ⟨[0], [slB 0 q4, .bool c.known], [(0, oB q4)], rfl, ⟨.refl _, .refl _, trivial⟩, ⟨⟨by decide, _, rfl, wkB_same (fB _)⟩, trivial⟩, ?_⟩
  refine hcall4 _ ?_
  repeat' (first | (refine And.intro ?_ ?_) | (intro h; try first | exact dzq | replace h := cvq))
  all_goals (try exact czq)
  refine ⟨rkS k c q5, rk_reb (K := 3) (B := 1) (by exact rfl) rfl rfl rfl (congrArg some (blk_flat _ (fB _))) rfl rfl rfl rfl, ?_⟩
  have hsl : (stB k c.st).length = (nuB [c.st.nulls]).length + (flB c.st.has).length + (if c.st.has = true then vlB k c.st.mn ++ vlB k c.st.mx else []).length := by
   unfold stB; simp only [List.length_append]
  cases hk : c.known
  ·rw [hk] at hlen
   rw [if_neg (by decide), List.append_nil]
   have hx1 := hk
   have hx2 := hk
   have hx3 := hk
   have hx4 := hk
   repeat' (first | (refine And.intro ?_ ?_) | (intro h; try first | exact dzqi | replace h := cvqi))
   all_goals (try exact cz)
   exact ⟨_, reb_own1 (k := 6) (n := 0) (l := q5) (by exact rfl) rfl rfl rfl rfl, _, rfl, own_eq rfl⟩
  ·rw [hk] at hlen hl5
   rw [if_pos rfl] at hlen
   rw [if_pos rfl]
   have hx1 := hk
   have hx2 := hk
   have hx3 := hk
   have hx4 := hk
   repeat' (first | (refine And.intro ?_ ?_) | (intro h; try first | exact dzqi | replace h := cvqi))
   all_goals (try exact cz)
   have hO3 : q5 ++ stB k c.st = q5 ++ nuB [c.st.nulls] ++ flB c.st.has ++ (if c.st.has = true then vlB k c.st.mn ++ vlB k c.st.mx else []) := by unfold stB; simp only [List.append_assoc]
   rw [hO3]
   clear hO3
   have hl6 : (q5 ++ nuB [c.st.nulls]).length = q5.length + (nuB [c.st.nulls]).length := List.length_append
   have hcall5 : ∀ K : List UInt8 → Prop, K (q5 ++ nuB [c.st.nulls]) → S_rnum19 [vB q5, .int .i64 c.st.nulls] K := fun K hk => ⟨q5, c.st.nulls, rfl, ⟨by omega, hc.nulls⟩, hk⟩
   generalize hq6 : q5 ++ nuB [c.st.nulls] = q6 at *
   have hl7 : (q6 ++ flB c.st.has).length = q6.length + (flB c.st.has).length := List.length_append
   have hcall6 : ∀ K : AVal → Heap → Nat → Prop, K (slB 1 (q6 ++ flB c.st.has)) [(1, oB (q6 ++ flB c.st.has))] 2 → S_flag [slB 0 q6, .bool c.st.has] [(0, oB q6)] 1 K := fun K hk => ⟨q6, c.st.has, rfl, rfl, rfl, by omega, hk⟩
   generalize hq7 : q6 ++ flB c.st.has = q7 at *
   repeat' (first | (refine And.intro ?_ ?_) | (intro h; try first | exact dzqi | replace h := cvqi))
   all_goals (try exact cz)
   refine ⟨[vB q5, .int .i64 c.st.nulls], ⟨.byt (rows := q5.map encB) (ro := true) (by kernel_rfl) rfl rfl, .imm _ rfl, trivial⟩, ?_⟩
   refine hcall5 _ ?_
   repeat' (first | (refine And.intro ?_ ?_) | (intro h; try first | exact dzqi | replace h := cvqi))
   all_goals (try exact cz)
   refine ⟨_, _, _, ⟨[2 + (0 + 1 + 1 + 1 + 1) * RR], [slB 0 q6, .bool c.st.has], [(0, oB q6)], by kernel_rfl, ⟨by exact .refl _, by exact .refl _, trivial⟩, ⟨⟨Nat.zero_lt_one, _, by kernel_rfl, wkB_same (fB _)⟩, trivial⟩, hcall6 _ ⟨rfl, rfl, rfl⟩⟩, ?_⟩
   repeat' (first | (refine And.intro ?_ ?_) | (intro h; try first | exact dzqi | replace h := cvqi))
   all_goals (try exact cz)
   refine ⟨rkT k c q7, rkT_reb (cap := none) (ρ := rho [2 + (0 + 1 + 1 + 1 + 1) * RR] (2 + 8 * RR)) (K := 2 + 8 * RR + 1) (by kernel_rfl) (by kernel_rfl) rfl rfl rfl (by kernel_rfl) (by kernel_rfl) rfl, ?_⟩
   cases hh : c.st.has
   ·rw [if_neg (by decide), List.append_nil]
    have hx1 := hh
    have hx2 := hh
    have hx3 := hh
    have hx4 := hh
    repeat' (first | (refine And.intro ?_ ?_) | (intro h; try first | exact dzqi | replace h := cvqi))
    all_goals (try exact cz)
    exact ⟨_, reb_own1 (k := 6) (n := 0) (l := q7) (by exact rfl) rfl rfl rfl rfl, _, rfl, own_eq rfl⟩
   ·rw [if_pos rfl]
    rw [hh, if_pos rfl] at hsl
    have hx1 := hh
    have hx2 := hh
    have hx3 := hh
    have hx4 := hh
    rw [hh] at hl7
    rw [List.length_append] at hsl
    rw [← List.append_assoc]
    have hl8 : (q7 ++ vlB k c.st.mn).length = q7.length + (vlB k c.st.mn).length := List.length_append
    have hcall7 : ∀ K : List UInt8 → Prop, K (q7 ++ vlB k c.st.mn) → S_rvalue [vB q7, .int .i64 k, .agg (encV c.st.mn)] K := fun K hk => ⟨q7, k, c.st.mn, rfl, by omega, hk⟩
    generalize hq8 : q7 ++ vlB k c.st.mn = q8 at *
    have hcall8 : ∀ K : List UInt8 → Prop, K (q8 ++ vlB k c.st.mx) → S_rvalue [vB q8, .int .i64 k, .agg (encV c.st.mx)] K := fun K hk => ⟨q8, k, c.st.mx, rfl, by omega, hk⟩
    generalize hq9 : q8 ++ vlB k c.st.mx = q9 at *
    repeat' (first | (refine And.intro ?_ ?_) | (intro h; try first | exact dzqi | replace h := cvqi))
    all_goals (try exact cz)
    refine ⟨[vB q7, .int .i64 k, .agg (encV c.st.mn)], ⟨.byt (rows := q7.map encB) (ro := true) (by kernel_rfl) rfl rfl, .imm _ rfl, .imm _ rfl, trivial⟩, ?_⟩
    refine hcall7 _ ?_
    repeat' (first | (refine And.intro ?_ ?_) | (intro h; try first | exact dzqi | replace h := cvqi))
    all_goals (try exact cz)
    refine ⟨[vB q8, .int .i64 k, .agg (encV c.st.mx)], ⟨.byt (rows := q8.map encB) (ro := false) (by kernel_rfl) rfl rfl, .imm _ rfl, .imm _ rfl, trivial⟩, ?_⟩
    refine hcall8 _ ?_
    repeat' (first | (refine And.intro ?_ ?_) | (intro h; try first | exact dzqi | replace h := cvqi))
    all_goals (try exact cz)
    exact ⟨_, reb_own1 (k := 6) (n := 2 + 10 * RR) (l := q9) (cap := none) (by kernel_rfl) rfl (by kernel_rfl) rfl rfl, _, rfl, own_eq rfl⟩
def S_rchunk : SpecY := fun args K => ∃ o k c, args = [vB o, .int .i64 k, .agg (encC c)] ∧ (CkB c ∧ o.length + (ckB k c).length ≤ 1000000) ∧ K (o ++ ckB k c)
theorem rchunk_ok [Syms] : BytOk Try.prog 25 S_rchunk := by
 rintro args K ⟨o, k, c, rfl, ⟨h1, h2⟩, hk⟩
 exact ⟨_, hk, fnT_sound tys_ok fns_ok cRk_det cRk2_ok mixed (rchunk_t o k c h1 h2)⟩
end Go.Proofs.Ytajieadpaeggcaa

end
section
set_option linter.unusedVariables false
set_option linter.unusedSimpArgs false
namespace Go.Proofs.Ytajieadpaeggcaa
open Go Go.Av
set_option maxRecDepth 100000
set_option maxHeartbeats 4000000
abbrev cRS : CallT := pickT 50 (ownT S_rvput) noneT
theorem cRS_det [Syms] : cRS.det Try.prog := pickT_own rvput_ok noneT_det
def rsS (s : List Fd) (o : List UInt8) (i : Nat) : St := ⟨[(0, vF s), (3, slB 0 o), (4, .int .i64 i)], [(0, oB o)], 1⟩
theorem rs_reb [Syms] {N K nx : Nat} {e : Env} {H : Heap} {len : Nat} {cap : Option Nat} {rows : List (List AVal)} {s : List Fd} {o : List UInt8} {i : Nat} {i1 : Int} (hn : NumsOk 0 nx [K] = true) (h0 : e.get 0 = vF s) (h3 : e.get 3 = .slice K 0 len 1 cap) (h4 : e.get 4 = .int .i64 i1) (hi : i1 = i) (hK : H.get K = some (.cells rows false)) (hr : rows = o.map encB) (hl : len = o.length) : Reb 0 N ⟨e, H, nx⟩ (rsS s o i) := by
 subst hr hl hi
 exact reb_num [K] hn ⟨by rw [h0]; exact .refl _, by rw [h3]; exact wk_slc rfl, by rw [h4]; exact .refl _, trivial⟩ ⟨⟨Nat.zero_lt_one, _, hK, wkB_eq rfl (fB _)⟩, trivial⟩
theorem wr8b {x : Int} (h : 0 ≤ x ∧ x < 256) : wr .u8 x = (((UInt8.ofNat (x.toNat % 256)).toNat : Nat) : Int) := by
 have := wr8m x.toNat
 rwa [Int.toNat_of_nonneg h.1] at this
noncomputable def plRs : Nat → Nat → Pl := plAdd [(23, 5), (23, 7)] (plTab plt)
theorem rsbytes_t [Syms] (s : List Fd) (hl : (sbF s).length ≤ 1000000) (hl2 : s.length ≤ 100000) (hk : ∀ f ∈ s, (0 ≤ f.rep ∧ f.rep < 256) ∧ (0 ≤ f.kind ∧ f.kind < 256) ∧ 0 ≤ f.kids ∧ f.kids < 1000000) :
 fnT cRS cRS (fnTab fns) (tyTab tys) plRs 100 23 [vF s] [] 0 (ownP (sbF s)) := by
 have hw : wr .u64 (s.length : Int) = ((s.length : Nat) : Int) := wrU (by omega)
 have hlF : (sbF s).length = (varB s.length).length + (sbL s).length := by rw [sbF, List.length_append]
 refine ⟨[vB [], .int .u64 (wr .u64 (s.length : Int))], ⟨.nil _ encB 0, .imm _ rfl, trivial⟩, [], s.length, congrArg (fun z => [vB [], AVal.int .u64 z]) hw, by simp, by omega, ?_⟩
 refine ⟨fun m t => ∃ i : Nat, (i ≤ s.length ∧ m = s.length - i) ∧ t = rsS s (varB s.length ++ sbL (s.take i)) i, ⟨_, rsS s (varB s.length ++ sbL (s.take 0)) 0, rs_reb (K := 0) rfl rfl rfl rfl rfl rfl (by simp [sbL]) (by simp [sbL]), 0, ⟨by omega, rfl⟩, rfl⟩, ?_⟩
 rintro m t ⟨i, ⟨hi, rfl⟩, rfl⟩
 by_cases h1 : i < s.length
 ·have hst := sbL_take h1
  have hli1 := sbL_le s (i + 1)
  obtain ⟨hr0, hk0, hc0, hc1⟩ : (0 ≤ (s.getD i default).rep ∧ (s.getD i default).rep < 256) ∧ (0 ≤ (s.getD i default).kind ∧ (s.getD i default).kind < 256) ∧ 0 ≤ (s.getD i default).kids ∧ (s.getD i default).kids < 1000000 := by
   rw [List.getD_eq_getElem?_getD, List.getElem?_eq_getElem h1]; exact hk _ (List.getElem_mem h1)
  have hwr := wr8b hr0
  have hwk := wr8b hk0
  have hwc : wr .u64 (s.getD i default).kids = (((s.getD i default).kids.toNat : Nat) : Int) := wrU (by omega)
  have hL : (sbF1 (s.getD i default)).length = 1 + (1 + ((varB (s.getD i default).kids.toNat).length + ((varB (s.getD i default).name.length).length + (s.getD i default).name.length))) := by
   simp only [sbF1, List.length_append, leB_len]
  have hT : (varB s.length ++ sbL (s.take i)).length + (sbF1 (s.getD i default)).length ≤ 1000000 := by
   rw [hst, List.length_append] at hli1
   rw [List.length_append]; omega
  have hwn : wr .u64 ((s.getD i default).name.length : Int) = (((s.getD i default).name.length : Nat) : Int) := wrU (by omega)
  have hend : varB s.length ++ sbL (s.take (i + 1)) = (varB s.length ++ sbL (s.take i)) ++ [UInt8.ofNat ((s.getD i default).rep.toNat % 256), UInt8.ofNat ((s.getD i default).kind.toNat % 256)] ++ varB (s.getD i default).kids.toNat ++ varB (s.getD i default).name.length ++ (s.getD i default).name := by
   rw [hst, sbF1]; simp only [leB, List.append_assoc, List.cons_append, List.nil_append]
  clear hli1 hst
  generalize varB s.length ++ sbL (s.take i) = o at *
  have ha : List.take o.length (List.drop 0 (o.map encB)) ++ [[AVal.int .u8 (wr .u8 (s.getD i default).rep)], [AVal.int .u8 (wr .u8 (s.getD i default).kind)]] = (o ++ [UInt8.ofNat ((s.getD i default).rep.toNat % 256), UInt8.ofNat ((s.getD i default).kind.toNat % 256)]).map encB := by
   rw [List.drop_zero, List.take_of_length_le (by simp), List.map_append, hwr, hwk]; rfl
  have hl1 : (o ++ [UInt8.ofNat ((s.getD i default).rep.toNat % 256), UInt8.ofNat ((s.getD i default).kind.toNat % 256)]).length = o.length + 2 := by simp
  generalize o ++ [UInt8.ofNat ((s.getD i default).rep.toNat % 256), UInt8.ofNat ((s.getD i default).kind.toNat % 256)] = q1 at *
  repeat' (first | (refine And.intro ?_ ?_) | (intro h; try first | exact dz | replace h := cv))
  all_goals (try exact cz)
  refine ⟨rsS s q1 i, ?_, ?_⟩
  ·repeat' (first | (refine And.intro ?_ ?_) | (intro h; try first | exact dz | replace h := cv))
   all_goals (try exact cz)
   all_goals exact Exists.intro () (rs_reb (K := 2) (by exact rfl) rfl rfl rfl rfl rfl ha hl1.symm)
  have hcall1 : ∀ K : List UInt8 → Prop, K (q1 ++ varB (s.getD i default).kids.toNat) → S_rvput [vB q1, .int .u64 (wr .u64 (s.getD i default).kids)] K := fun K hk => ⟨q1, (s.getD i default).kids.toNat, congrArg (fun z => [vB q1, AVal.int .u64 z]) hwc, by omega, by omega, hk⟩
  have hl2 : (q1 ++ varB (s.getD i default).kids.toNat).length = q1.length + (varB (s.getD i default).kids.toNat).length := List.length_append
  generalize q1 ++ varB (s.getD i default).kids.toNat = q2 at *
  have hcall2 : ∀ K : List UInt8 → Prop, K (q2 ++ varB (s.getD i default).name.length) → S_rvput [vB q2, .int .u64 (wr .u64 ((s.getD i default).name.length : Int))] K := fun K hk => ⟨q2, (s.getD i default).name.length, congrArg (fun z => [vB q2, AVal.int .u64 z]) hwn, by omega, by omega, hk⟩
  have hl3 : (q2 ++ varB (s.getD i default).name.length).length = q2.length + (varB (s.getD i default).name.length).length := List.length_append
  generalize q2 ++ varB (s.getD i default).name.length = q3 at *
  repeat' (first | (refine And.intro ?_ ?_) | (intro h; try first | exact dz | replace h := cv))
  all_goals (try exact cz)
  refine ⟨[vB q1, .int .u64 (wr .u64 (s.getD i default).kids)], ⟨.byt (rows := q1.map encB) (ro := true) (by kernel_rfl) rfl rfl, .imm _ rfl, trivial⟩, ?_⟩
  refine hcall1 _ ?_
  repeat' (first | (refine And.intro ?_ ?_) | (intro h; try first | exact dz | replace h := cv))
  all_goals (try exact cz)
  refine ⟨[vB q2, .int .u64 (wr .u64 ((s.getD i default).name.length : Int))], ⟨.byt (rows := q2.map encB) (ro := false) (by kernel_rfl) rfl rfl, .imm _ rfl, trivial⟩, ?_⟩
  refine hcall2 _ ?_
  repeat' (first | (refine And.intro ?_ ?_) | (intro h; try first | exact dz | replace h := cv))
  all_goals (try exact cz)
  ·show allLen 1 ((s.getD i default).name.map encB) = true
   exact allLen_map (enc := encB) (z := 1) (fun _ => rfl) _
  all_goals (try ((with_reducible show (_ : Nat) ≤ _); first | (show (q3.length + ((s.getD i default).name.map encB).length) * 1 ≤ _; rw [List.length_map]; omega) | (show (q3.length + ((s.getD i default).name.map encB).length) ≤ _; rw [List.length_map]; omega)))
  ·have hnm : (s.getD i default).name = [] := List.eq_nil_of_length_eq_zero h
   rw [hnm, List.append_nil] at hend
   refine ⟨rsS s q3 i, rs_reb (K := 1 + 15 * RR) (by kernel_rfl) rfl rfl rfl rfl (by kernel_rfl) rfl rfl, ?_⟩
   repeat' (first | (refine And.intro ?_ ?_) | (intro h; try first | exact dz | replace h := cv))
   all_goals (try exact cz)
   exact ⟨_, rsS s q3 (i + 1), rs_reb (K := 0) (by exact rfl) rfl rfl rfl (by omega) rfl rfl rfl, ⟨i + 1, ⟨by omega, rfl⟩, by rw [hend]⟩, by omega⟩
  ·refine ⟨rsS s (q3 ++ (s.getD i default).name) i, rs_reb (K := 1 + 15 * RR + 1) (by kernel_rfl) rfl rfl rfl rfl (by kernel_rfl) (apNew q3 (s.getD i default).name) (apLen q3 (s.getD i default).name), ?_⟩
   repeat' (first | (refine And.intro ?_ ?_) | (intro h; try first | exact dz | replace h := cv))
   all_goals (try exact cz)
   exact ⟨_, rsS s (q3 ++ (s.getD i default).name) (i + 1), rs_reb (K := 0) (by exact rfl) rfl rfl rfl (by omega) rfl rfl rfl, ⟨i + 1, ⟨by omega, rfl⟩, by rw [hend]⟩, by omega⟩
 ·obtain rfl : i = s.length := by omega
  rw [List.take_length]
  have ho : varB s.length ++ sbL s = sbF s := rfl
  rw [ho]
  generalize sbF s = o at *
  repeat' (first | (refine And.intro ?_ ?_) | (intro h; try first | exact dz | replace h := cv))
  all_goals (try exact cz)
  exact ⟨_, reb_own1 (k := 2) (l := o) (by exact rfl) rfl rfl rfl rfl, _, rfl, own_eq rfl⟩
theorem rsbytes_ok [Syms] : BytOk Try.prog 23 S_sbytes := by
 rintro args K ⟨s, rfl, ⟨h1, h2, h3⟩, hk⟩
 exact ⟨_, hk, fnT_sound tys_ok fns_ok cRS_det cRS_det.ok mixed (rsbytes_t s h1 h2 h3)⟩
end Go.Proofs.Ytajieadpaeggcaa

end
section
set_option linter.unusedVariables false
set_option linter.unusedSimpArgs false
namespace Go.Proofs.Ytajieadpaeggcaa
open Go Go.Av
set_option maxRecDepth 100000
set_option maxHeartbeats 4000000
theorem BArg.eq {H : Heap} {v v' : AVal} (h : v = v') (hi : v'.imm = true) : BArg H v v' := by subst h; exact .imm v hi
abbrev cRf : CallT := pickT 23 (ownT S_sbytes) (pickT 24 (ownT S_rnum19) (pickT 21 (immT (seeW S_leaves)) (pickT 25 (ownT S_rchunk) noneT)))
theorem cRf_det [Syms] : cRf.det Try.prog := pickT_own rsbytes_ok (pickT_own rnum19_ok (pickT_imm rleaves_ok.seeW (pickT_own rchunk_ok noneT_det)))
noncomputable def plRf : Nat → Nat → Pl := plAdd [(12, 2), (12, 4), (12, 8)] (plTab plt)
abbrev mtT (m : Mt) : List AVal := rowM (vF m.s) m.n (vR m.groups)
def rfS (m : Mt) (o : List UInt8) : St := ⟨[(1, .ptr 0 0 0), (4, slB 1 o)], [(0, some (.cells [mtT m] false)), (1, oB o)], 2⟩
def rfL (m : Mt) (ls : List Lf) (o : List UInt8) : St := ⟨[(1, .ptr 0 0 0), (4, slB 1 o), (5, vL ls)], [(0, some (.cells [mtT m] false)), (1, oB o)], 2⟩
def rfI (m : Mt) (ls : List Lf) (o : List UInt8) (i : Nat) : St := ⟨[(1, .ptr 0 0 0), (4, slB 1 o), (5, vL ls), (6, .int .i64 i)], [(0, some (.cells [mtT m] false)), (1, oB o)], 2⟩
def rfJ (m : Mt) (ls : List Lf) (o : List UInt8) (i j : Nat) : St := ⟨[(1, .ptr 0 0 0), (4, slB 1 o), (5, vL ls), (6, .int .i64 i), (7, .int .i64 j)], [(0, some (.cells [mtT m] false)), (1, oB o)], 2⟩
theorem rf_reb [Syms] {N K B nx : Nat} {e es : Env} {H : Heap} {len : Nat} {rows : List (List AVal)} {row : List AVal} {m : Mt} {o : List UInt8} {cap : Option Nat} (hn : NumsOk 0 nx [B, K] = true) (h1 : e.get 1 = .ptr B 0 0) (h4 : e.get 4 = .slice K 0 len 1 cap) (he : EnvOk (rho [B, K] nx) e es) (hK : H.get K = some (.cells rows false)) (hB : H.get B = some (.cells [row] false)) (hrow : WkVs row (mtT m)) (hr : rows = o.map encB) (hl : len = o.length) :
 Reb 0 N ⟨e, H, nx⟩ ⟨(1, .ptr 0 0 0) :: (4, slB 1 o) :: es, [(0, some (.cells [mtT m] false)), (1, oB o)], 2⟩ := by
 subst hr hl
 exact reb_num [B, K] hn ⟨by rw [h1]; exact .refl _, by rw [h4]; exact wk_slc rfl, he⟩ ⟨⟨Nat.succ_pos _, _, hB, wkB_row (row := mtT m) hrow (fun x hx => by simp [rowM] at hx; rcases hx with rfl | rfl | rfl <;> rfl)⟩, ⟨Nat.lt_succ_self _, _, hK, wkB_eq rfl (fB _)⟩, trivial⟩
theorem rfbytes_t [Syms] (m : Mt) (hm : MtB m) (hg : ∀ g ∈ m.groups, g.chunks.length = (leavesF m.s).length) (hl : (mtB m).length ≤ 1000000) :
 fnT cRf cRf (fnTab fns) (tyTab tys) plRf 100 12 [.agg (encM m)] [] 0 (ownP (mtB m)) := by
 obtain ⟨hfs, hsb, hmn, hgl, hgs⟩ := hm
 have hlen : (mtB m).length = (nuB [((sbF m.s).length : Int)]).length + (sbF m.s).length + (nuB [m.n]).length + (nuB [(m.groups.length : Int)]).length + (rwsB (kindsF m.s) m.groups).length := by
  unfold mtB; rw [nuB_cons m.n]; simp only [List.length_append]; omega
 have hM : mtB m = nuB [((sbF m.s).length : Int)] ++ sbF m.s ++ nuB [m.n] ++ nuB [(m.groups.length : Int)] ++ rwsB (kindsL (leavesF m.s)) m.groups := by
  unfold mtB; rw [nuB_cons m.n]; simp only [List.append_assoc]; rfl
 have hkl : kindsF m.s = kindsL (leavesF m.s) := rfl
 rw [hkl] at hlen
 have hsl : m.s.length ≤ 100000 := by have := hfs.len; omega
 repeat' (first | (refine And.intro ?_ ?_) | (intro h; try first | exact dzq | replace h := cvq))
 all_goals (try exact cz)
 refine ⟨[vF m.s], ⟨.see _ _ rfl (.tab rfl), trivial⟩, m.s, rfl, ⟨by omega, hsl, hsb⟩, ?_⟩
 rw [hM]
 clear hM hkl hsb
 have hlb : (leavesF m.s).length ≤ 1000 := by have h1 : (leavesF m.s).length ≤ m.s.length := lvOut_len_le _ _ _; have h2 := hfs.len; omega
 have hpos : 0 < (sbF m.s).length := by rw [sbF, List.length_append]; have := putV_pos 9 m.s.length; exact Nat.lt_of_lt_of_le this (Nat.le_add_right _ _)
 have hcall1 : ∀ K : List UInt8 → Prop, K (nuB [((sbF m.s).length : Int)]) → S_rnum19 [vB [], .int .i64 ((sbF m.s).length : Int)] K := fun K hk => ⟨[], ((sbF m.s).length : Int), rfl, ⟨by rw [List.length_nil]; omega, by omega, by omega⟩, hk⟩
 generalize hs : sbF m.s = sb at *
 generalize hq1 : nuB [(sb.length : Int)] = q1 at *
 repeat' (first | (refine And.intro ?_ ?_) | (intro h; try first | exact dzq | replace h := cvq))
 all_goals (try exact cz)
 refine ⟨[vB [], .int .i64 (sb.length : Int)], ⟨.nil _ encB 0, .imm _ rfl, trivial⟩, ?_⟩
 refine hcall1 _ ?_
 repeat' (first | (refine And.intro ?_ ?_) | (intro h; try first | exact dzq | replace h := cvq))
 all_goals (try exact cz)
 all_goals (try ((with_reducible show _ = true); show allLen 1 (List.take sb.length (List.drop 0 (sb.map encB))) = true; rw [List.drop_zero, List.take_of_length_le (by simp)]; exact allLen_map (enc := encB) (z := 1) (fun _ => rfl) _))
 have hl1 : (q1 ++ sb).length = q1.length + sb.length := List.length_append
 have hr1 : List.take q1.length (List.drop 0 (q1.map encB)) ++ List.take sb.length (List.drop 0 (sb.map encB)) = (q1 ++ sb).map encB := by
  rw [List.drop_zero, List.drop_zero, List.take_of_length_le (by simp), List.take_of_length_le (by simp), List.map_append]
 generalize hq2 : q1 ++ sb = q2 at *
 refine ⟨rfS m q2, rf_reb (K := 3) (B := 0) (by exact rfl) rfl rfl trivial rfl rfl ⟨.tab rfl, .refl _, .tab rfl, trivial⟩ hr1 hl1.symm, ?_⟩
 have hcall2 : ∀ K : List UInt8 → Prop, K (q2 ++ nuB [m.n]) → S_rnum19 [vB q2, .int .i64 m.n] K := fun K hk => ⟨q2, m.n, rfl, ⟨by omega, hmn⟩, hk⟩
 have hl2 : (q2 ++ nuB [m.n]).length = q2.length + (nuB [m.n]).length := List.length_append
 generalize q2 ++ nuB [m.n] = q3 at *
 have hcall3 : ∀ K : List UInt8 → Prop, K (q3 ++ nuB [(m.groups.length : Int)]) → S_rnum19 [vB q3, .int .i64 (m.groups.length : Int)] K := fun K hk => ⟨q3, (m.groups.length : Int), rfl, ⟨by omega, by omega, by omega⟩, hk⟩
 have hl3 : (q3 ++ nuB [(m.groups.length : Int)]).length = q3.length + (nuB [(m.groups.length : Int)]).length := List.length_append
 generalize q3 ++ nuB [(m.groups.length : Int)] = q4 at *
 repeat' (first | (refine And.intro ?_ ?_) | (intro h; try first | exact dzq | replace h := cvq))
 all_goals (try exact cz)
 refine ⟨[vB q2, .int .i64 m.n], ⟨.byt (rows := q2.map encB) (ro := true) (by kernel_rfl) rfl rfl, .imm _ rfl, trivial⟩, ?_⟩
 refine hcall2 _ ?_
 repeat' (first | (refine And.intro ?_ ?_) | (intro h; try first | exact dzq | replace h := cvq))
 all_goals (try exact cz)
 refine ⟨[vB q3, .int .i64 (m.groups.length : Int)], ⟨.byt (rows := q3.map encB) (ro := false) (by kernel_rfl) rfl rfl, .imm _ rfl, trivial⟩, ?_⟩
 refine hcall3 _ ?_
 repeat' (first | (refine And.intro ?_ ?_) | (intro h; try first | exact dzq | replace h := cvq))
 all_goals (try exact cz)
 refine ⟨[vF m.s], ⟨.refl _, trivial⟩, m.s, rfl, hfs, ?_⟩
 generalize leavesF m.s = ls at *
 repeat' (first | (refine And.intro ?_ ?_) | (intro h; try first | exact dzq | replace h := cvq))
 all_goals (try exact cz)
 refine ⟨rfL m ls q4, rf_reb (row := mtT m) (K := 2 + 7 * RR) (B := 0) (by kernel_rfl) rfl rfl ⟨.refl _, trivial⟩ (by kernel_rfl) (by kernel_rfl) ⟨.refl _, .refl _, .refl _, trivial⟩ rfl rfl, ?_⟩
 repeat' (first | (refine And.intro ?_ ?_) | (intro h; try first | exact dzq | replace h := cvq))
 all_goals (try exact cz)
 refine ⟨fun w s => ∃ i : Nat, (i ≤ m.groups.length ∧ w = m.groups.length - i) ∧ s = rfI m ls (q4 ++ rwsB (kindsL ls) (m.groups.take i)) i, ⟨_, rfI m ls (q4 ++ rwsB (kindsL ls) (m.groups.take 0)) 0, rf_reb (K := 1) (B := 0) (by exact rfl) rfl rfl ⟨.refl _, .refl _, trivial⟩ rfl rfl ⟨.refl _, .refl _, .refl _, trivial⟩ (by simp [rwsB]) (by simp [rwsB]), 0, ⟨by omega, rfl⟩, rfl⟩, ?_⟩
 rintro w s ⟨i, ⟨hi, rfl⟩, rfl⟩
 by_cases h1 : i < m.groups.length
 ·have hgi : RwB ls.length (m.groups.getD i default) := by
   rw [List.getD_eq_getElem?_getD, List.getElem?_eq_getElem h1]; exact hgs _ (List.getElem_mem h1)
  have hgc : (m.groups.getD i default).chunks.length = ls.length := by
   rw [List.getD_eq_getElem?_getD, List.getElem?_eq_getElem h1]; exact hg _ (List.getElem_mem h1)
  have hpt := rwsB_take (ks := kindsL ls) h1
  have hpl := rwsB_le (kindsL ls) m.groups (i + 1)
  have hlo : (q4 ++ rwsB (kindsL ls) (m.groups.take i)).length + (rwB (kindsL ls) (m.groups.getD i default)).length ≤ 1000000 := by
   rw [hpt, List.length_append] at hpl
   rw [List.length_append]; omega
  have hO2 : q4 ++ rwsB (kindsL ls) (m.groups.take (i + 1)) = q4 ++ rwsB (kindsL ls) (m.groups.take i) ++ nuB [(m.groups.getD i default).n] ++ cksB (kindsL ls) (m.groups.getD i default).chunks := by rw [hpt, rwB]; simp only [List.append_assoc]
  obtain ⟨hgn, _, hck⟩ := hgi
  have hrl : (rwB (kindsL ls) (m.groups.getD i default)).length = (nuB [(m.groups.getD i default).n]).length + (cksB (kindsL ls) (m.groups.getD i default).chunks).length := by rw [rwB, List.length_append]
  clear hpt hpl
  generalize q4 ++ rwsB (kindsL ls) (m.groups.take i) = q at *
  have hcall4 : ∀ K : List UInt8 → Prop, K (q ++ nuB [(m.groups.getD i default).n]) → S_rnum19 [vB q, .int .i64 (m.groups.getD i default).n] K := fun K hk => ⟨q, (m.groups.getD i default).n, rfl, ⟨by omega, hgn⟩, hk⟩
  have hl5 : (q ++ nuB [(m.groups.getD i default).n]).length = q.length + (nuB [(m.groups.getD i default).n]).length := List.length_append
  generalize q ++ nuB [(m.groups.getD i default).n] = q5 at *
  repeat' (first | (refine And.intro ?_ ?_) | (intro h; try first | exact dzq | replace h := cvq))
  all_goals (try exact czq)
  refine ⟨[vB q, .int .i64 (m.groups.getD i default).n], ⟨.byt rfl rfl rfl, .imm _ rfl, trivial⟩, ?_⟩
  refine hcall4 _ ?_
  repeat' (first | (refine And.intro ?_ ?_) | (intro h; try first | exact dzq | replace h := cvq))
  all_goals (try exact czq)
  refine ⟨rfI m ls q5 i, rf_reb (K := 2) (B := 0) (by exact rfl) rfl rfl ⟨.refl _, .refl _, trivial⟩ rfl rfl ⟨.refl _, .refl _, .refl _, trivial⟩ rfl rfl, ?_⟩
  repeat' (first | (refine And.intro ?_ ?_) | (intro h; try first | exact dzq | replace h := cvq))
  all_goals (try exact czq)
  have hkl : (kindsL ls).length = ls.length := List.length_map ..
  refine ⟨fun w s => ∃ j : Nat, (j ≤ ls.length ∧ w = ls.length - j) ∧ s = rfJ m ls (q5 ++ cksB (kindsL ls) ((m.groups.getD i default).chunks.take j)) i j, ⟨_, rfJ m ls (q5 ++ cksB (kindsL ls) ((m.groups.getD i default).chunks.take 0)) i 0, rf_reb (K := 1) (B := 0) (by exact rfl) rfl rfl ⟨.refl _, .refl _, .refl _, trivial⟩ rfl rfl ⟨.refl _, .refl _, .refl _, trivial⟩ (by rw [List.take_zero, cksB_nil, List.append_nil]) (by rw [List.take_zero, cksB_nil, List.append_nil]), 0, ⟨by omega, rfl⟩, rfl⟩, ?_⟩
  rintro w s ⟨j, ⟨hj, rfl⟩, rfl⟩
  by_cases h3 : j < ls.length
  ·have hct := cksB_take (ks := kindsL ls) (j := j) (cs := (m.groups.getD i default).chunks) (by omega) (by omega)
   have hcl := cksB_le (kindsL ls) (m.groups.getD i default).chunks (j + 1)
   have hkd : (kindsL ls).getD j 0 = (ls.getD j default).kind := by
    rw [List.getD_eq_getElem?_getD, List.getD_eq_getElem?_getD, List.getElem?_map, List.getElem?_eq_getElem h3]; rfl
   rw [hkd] at hct
   have hcb : CkB ((m.groups.getD i default).chunks.getD j default) := by
    rw [List.getD_eq_getElem?_getD, List.getElem?_eq_getElem (by omega)]; exact hck _ (List.getElem_mem (by omega))
   have hrowc : (List.map encC (m.groups.getD i default).chunks).getD j [] = encC ((m.groups.getD i default).chunks.getD j default) := row_at encC default (by omega)
   have hlc : (q5 ++ cksB (kindsL ls) ((m.groups.getD i default).chunks.take j)).length + (ckB (ls.getD j default).kind ((m.groups.getD i default).chunks.getD j default)).length ≤ 1000000 := by
    rw [hct, List.length_append] at hcl
    rw [List.length_append]; omega
   have hO3 : q5 ++ cksB (kindsL ls) ((m.groups.getD i default).chunks.take (j + 1)) = q5 ++ cksB (kindsL ls) ((m.groups.getD i default).chunks.take j) ++ ckB (ls.getD j default).kind ((m.groups.getD i default).chunks.getD j default) := by rw [hct]; simp only [List.append_assoc]
   clear hct hcl
   generalize q5 ++ cksB (kindsL ls) ((m.groups.getD i default).chunks.take j) = q6 at *
   have hcall5 : ∀ K : List UInt8 → Prop, K (q6 ++ ckB (ls.getD j default).kind ((m.groups.getD i default).chunks.getD j default)) → S_rchunk [vB q6, .int .i64 (ls.getD j default).kind, .agg (encC ((m.groups.getD i default).chunks.getD j default))] K := fun K hk => ⟨q6, _, _, rfl, ⟨hcb, hlc⟩, hk⟩
   generalize q6 ++ ckB (ls.getD j default).kind ((m.groups.getD i default).chunks.getD j default) = q7 at *
   repeat' (first | (refine And.intro ?_ ?_) | (intro h; try first | exact dzq | replace h := cvq))
   all_goals (try exact czq)
   ·show ((j : Nat) : Int) < (((List.map encC (m.groups.getD i default).chunks).length : Nat) : Int)
    rw [List.length_map]; omega
   ·show isRow true _ ((List.map encC (m.groups.getD i default).chunks).getD ((j : Nat) : Int).toNat []) 0 = true
    rw [Int.toNat_natCast, hrowc]; rfl
   refine ⟨[vB q6, .int .i64 (ls.getD j default).kind, .agg (encC ((m.groups.getD i default).chunks.getD j default))], ⟨.byt rfl rfl rfl, .imm _ rfl, .eq ?_ rfl, trivial⟩, ?_⟩
   ·have hrow3 : (asR (((fun i => encR (m.groups.getD i default)) ((i : Nat) : Int).toNat).getD (0 + 1) .any)).getD ((j : Nat) : Int).toNat [] = encC ((m.groups.getD i default).chunks.getD j default) := by rw [← hrowc]; rfl
    simp only [hrow3]; rfl
   refine hcall5 _ ?_
   repeat' (first | (refine And.intro ?_ ?_) | (intro h; try first | exact dzq | replace h := cvq))
   all_goals (try exact czq)
   exact ⟨_, rfJ m ls q7 i (j + 1), rf_reb (row := mtT m) (K := 2 + 15 * RR) (B := 0) (by kernel_rfl) rfl rfl ⟨.refl _, .refl _, wk_int (by omega), trivial⟩ (by kernel_rfl) (by kernel_rfl) ⟨.refl _, .refl _, .refl _, trivial⟩ rfl rfl, ⟨j + 1, ⟨by omega, rfl⟩, by rw [hO3]⟩, by omega⟩
  ·obtain rfl : j = ls.length := by omega
   rw [show (m.groups.getD i default).chunks.take ls.length = (m.groups.getD i default).chunks from List.take_of_length_le (by omega), ← hO2]
   repeat' (first | (refine And.intro ?_ ?_) | (intro h; try first | exact dzq | replace h := cvq))
   all_goals (try exact czq)
   exact ⟨_, rfI m ls (q4 ++ rwsB (kindsL ls) (m.groups.take (i + 1))) (i + 1), rf_reb (K := 1) (B := 0) (by exact rfl) rfl rfl ⟨.refl _, wk_int (by omega), trivial⟩ rfl rfl ⟨.refl _, .refl _, .refl _, trivial⟩ rfl rfl, ⟨i + 1, ⟨by omega, rfl⟩, rfl⟩, by omega⟩
 ·obtain rfl : i = m.groups.length := by omega
  rw [List.take_length]
  repeat' (first | (refine And.intro ?_ ?_) | (intro h; try first | exact dzq | replace h := cvq))
  all_goals (try exact czq)
  exact ⟨_, reb_own1 (k := 2) (n := 1) (l := q4 ++ rwsB (kindsL ls) m.groups) (by exact rfl) rfl rfl rfl rfl, _, rfl, own_eq rfl⟩
def S_rfbytes : SpecY := fun args K => ∃ m, args = [.agg (encM m)] ∧ (MtB m ∧ (∀ g ∈ m.groups, g.chunks.length = (leavesF m.s).length) ∧ (mtB m).length ≤ 1000000) ∧ K (mtB m)
theorem rfbytes_ok [Syms] : BytOk Try.prog 12 S_rfbytes := by
 rintro args K ⟨m, rfl, ⟨h1, h2, h3⟩, hk⟩
 exact ⟨_, hk, fnT_sound tys_ok fns_ok cRf_det cRf_det.ok mixed (rfbytes_t m h1 h2 h3)⟩
end Go.Proofs.Ytajieadpaeggcaa

end
