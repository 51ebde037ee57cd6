/-
  What a file says of itself, as bytes. The program's. What is asked of 'Make', and what it answers. Files' descriptions made of raw numbers, as plain data. Plain. A value of a kind, of a raw one; a number from 0 to n - 1; the chapter's example.
-/
import Derived.Test.YtajieadpaeggcaaL10
import Derived.Test.YtajieadpaeggcaaL2
import Derived.Test.YtajieadpaeggcaaWithin
set_option linter.unusedVariables false
set_option linter.unusedSimpArgs false
section
set_option linter.unusedVariables false
set_option linter.unusedSimpArgs false
namespace Go.Proofs.Ytajieadpaeggcaa
open Go Go.Av
set_option maxRecDepth 100000
set_option maxHeartbeats 4000000
structure RwB (L : Nat) (g : Rw) : Prop where
 n : NumOk g.n
 len : g.chunks.length ≤ L
 chunks : ∀ c ∈ g.chunks, CkB c
structure MtB (m : Mt) : Prop where
 fs : FsOk m.s
 sb : ∀ f ∈ m.s, (0 ≤ f.rep ∧ f.rep < 256) ∧ (0 ≤ f.kind ∧ f.kind < 256) ∧ 0 ≤ f.kids ∧ f.kids < 1000000
 n : NumOk m.n
 len : m.groups.length ≤ 100000
 groups : ∀ g ∈ m.groups, RwB (leavesF m.s).length g
theorem cksB_nil (ks : List Int) : cksB ks [] = [] := by cases ks <;> rfl
theorem cksB_take : ∀ {ks : List Int} {cs : List Ck} {j : Nat}, j < cs.length → cs.length ≤ ks.length → cksB ks (cs.take (j + 1)) = cksB ks (cs.take j) ++ ckB (ks.getD j 0) (cs.getD j default)
 | ks, [], j, h, _ => by simp at h
 | [], c :: cs, j, _, h => by simp at h
 | k :: ks, c :: cs, 0, _, _ => by simp [cksB]
 | k :: ks, c :: cs, j + 1, h, h2 => by
   have := cksB_take (ks := ks) (cs := cs) (j := j) (by simpa using h) (by simpa using h2)
   rw [List.take_succ_cons, List.take_succ_cons, cksB, cksB, this, List.append_assoc]
   rfl
theorem cksB_le : ∀ (ks : List Int) (cs : List Ck) (j : Nat), (cksB ks (cs.take j)).length ≤ (cksB ks cs).length
 | ks, [], j => by simp
 | [], c :: cs, j => by cases j <;> simp [cksB]
 | k :: ks, c :: cs, 0 => by cases ks <;> simp [cksB]
 | k :: ks, c :: cs, j + 1 => by
   have := cksB_le ks cs j
   rw [List.take_succ_cons, cksB, cksB, List.length_append, List.length_append]; omega
theorem rwsB_app (ks : List Int) : ∀ (l m : List Rw), rwsB ks (l ++ m) = rwsB ks l ++ rwsB ks m
 | [], m => rfl
 | x :: l, m => by rw [List.cons_append, rwsB, rwsB, rwsB_app ks l m, List.append_assoc]
theorem rwsB_take {ks : List Int} {l : List Rw} {i : Nat} (h : i < l.length) : rwsB ks (l.take (i + 1)) = rwsB ks (l.take i) ++ rwB ks (l.getD i default) := by
 rw [List.take_add_one, rwsB_app, List.getD_eq_getElem?_getD, List.getElem?_eq_getElem h]
 simp [rwsB]
theorem rwsB_le (ks : List Int) (l : List Rw) (i : Nat) : (rwsB ks (l.take i)).length ≤ (rwsB ks l).length := by
 have : rwsB ks l = rwsB ks (l.take i) ++ rwsB ks (l.drop i) := by rw [← rwsB_app, List.take_append_drop]
 rw [this, List.length_append]; omega
abbrev cBt [Syms] : CallT := pickT 42 (ownT S_sbytes) (pickT 43 (ownT S_nums) (pickT 44 (immT (seeW S_leaves)) (pickT 45 (specT S_chunkB) (pickT 46 bN noneT))))
theorem cBt_ok [Syms] : cBt.ok Try.prog := pickT_own_ok sbytes_ok (pickT_own_ok nums_ok (pickT_imm_ok leaves_ok.seeW (pickT_spec chunkB_ok (pickT_ok bN_ok noneT_ok))))
noncomputable def plBt : Nat → Nat → Pl := plAdd [(19, 13)] (plTab plt)
def byS (ls : List Lf) (gs : List Rw) (i : Nat) (o : List UInt8) : St := ⟨[(4, slB 0 o), (5, vL ls), (31, vR gs), (32, .int .i64 gs.length), (33, .int .i64 i)], [(0, oB o)], 1⟩
def byI (ls : List Lf) (gs : List Rw) (i : Nat) (o : List UInt8) (cs : List Ck) (j : Nat) : St := ⟨[(4, slB 0 o), (5, vL ls), (31, vR gs), (32, .int .i64 gs.length), (33, .int .i64 i), (43, vC cs), (44, .int .i64 cs.length), (45, .int .i64 j)], [(0, oB o)], 1⟩
theorem fbytes_t [Syms] (m : Mt) (hm : MtB m) (hl : (mtB m).length ≤ 1000000) :
 fnT noneT cBt (fnTab fns) (tyTab tys) plBt 100 19 [.agg (encM m)] [] 0 (ownP (mtB m)) := by
 obtain ⟨hfs, hsb, hmn, hgl, hgs⟩ := hm
 have hlen : (mtB m).length = (nuB [((sbF m.s).length : Int)]).length + (sbF m.s).length + (nuB [m.n, (m.groups.length : Int)]).length + (rwsB (kindsF m.s) m.groups).length := by
  unfold mtB; simp only [List.length_append]
 repeat' (first | (refine And.intro ?_ ?_) | (intro h; try first | exact dzq | replace h := cvq))
 all_goals (try exact cz)
 refine ⟨[vF m.s], ⟨.see _ _ rfl (.tab rfl), trivial⟩, m.s, rfl, ⟨by omega, by have := hfs.len; omega, hsb⟩, ?_⟩
 have hM : mtB m = nuB [((sbF m.s).length : Int)] ++ sbF m.s ++ nuB [m.n, (m.groups.length : Int)] ++ rwsB (kindsL (leavesF m.s)) m.groups := rfl
 have hkl : kindsF m.s = kindsL (leavesF m.s) := rfl
 rw [hM]
 rw [hkl] at hlen
 clear hM hkl hsb
 have hlb : (leavesF m.s).length ≤ 1000 := by have h1 : (leavesF m.s).length ≤ m.s.length := lvOut_len_le _ _ _; have h2 := hfs.len; omega
 have hcall1 : ∀ K : List UInt8 → Prop, K (nuB [((sbF m.s).length : Int)]) → S_nums [vB [], vI [((sbF m.s).length : Int)]] K := fun K hk => ⟨[], [((sbF m.s).length : Int)], rfl, by rw [List.length_nil]; omega, ⟨fun x hx => by simp at hx; subst hx; omega, by simp, by simp⟩, hk⟩
 generalize hs : sbF m.s = sb at *
 generalize hq1 : nuB [(sb.length : Int)] = q1 at *
 have hpos : 0 < sb.length := by rw [← hs, sbF, List.length_append]; have := putV_pos 9 m.s.length; exact Nat.lt_of_lt_of_le this (Nat.le_add_right _ _)
 repeat' (first | (refine And.intro ?_ ?_) | (intro h; try first | exact dzq | replace h := cvq))
 all_goals (try exact cz)
 refine ⟨[vB [], vI [(sb.length : Int)]], ⟨.nil _ encB 0, .ints rfl rfl rfl, trivial⟩, ?_⟩
 refine hcall1 _ ?_
 repeat' (first | (refine And.intro ?_ ?_) | (intro h; try first | exact dzq | replace h := cvq))
 all_goals (try exact cz)
 ·show allLen 1 (List.take sb.length (List.drop 0 (sb.map encB))) = true
  rw [List.drop_zero, List.take_of_length_le (by simp)]; exact allLen_map (enc := encB) (z := 1) (fun _ => rfl) _
 have hl1 : (q1 ++ sb).length = q1.length + sb.length := List.length_append
 have hcall2 : ∀ K : List UInt8 → Prop, K (q1 ++ sb ++ nuB [m.n, (m.groups.length : Int)]) → S_nums [vB (q1 ++ sb), vI [m.n, (m.groups.length : Int)]] K := fun K hk => ⟨q1 ++ sb, [m.n, (m.groups.length : Int)], rfl, by omega, ⟨fun x hx => by simp at hx; rcases hx with rfl | rfl; exact hmn; omega, by simp, by simp⟩, hk⟩
 have hl2 : (q1 ++ sb ++ nuB [m.n, (m.groups.length : Int)]).length = q1.length + sb.length + (nuB [m.n, (m.groups.length : Int)]).length := by rw [List.length_append, hl1]
 generalize hq3 : q1 ++ sb ++ nuB [m.n, (m.groups.length : Int)] = q3 at *
 have hr1 : List.take q1.length (List.drop 0 (q1.map encB)) ++ List.take sb.length (List.drop 0 (sb.map encB)) = (q1 ++ sb).map encB := by
  rw [List.drop_zero, List.drop_zero, List.take_of_length_le (by simp), List.take_of_length_le (by simp), List.map_append]
 refine ⟨[vB (q1 ++ sb), vI [m.n, (m.groups.length : Int)]], ⟨.byt rfl hr1 hl1.symm, .ints (rows := [[.int .i64 m.n], [.int .i64 (((m.groups.map encR).length : Nat) : Int)]]) rfl (by rw [List.length_map]; rfl) rfl, trivial⟩, ?_⟩
 refine hcall2 _ ?_
 repeat' (first | (refine And.intro ?_ ?_) | (intro h; try first | exact dzq | replace h := cvq))
 all_goals (try exact cz)
 refine ⟨[vF m.s], ⟨.tab rfl, trivial⟩, m.s, rfl, hfs, ?_⟩
 generalize leavesF m.s = ls at *
 repeat' (first | (refine And.intro ?_ ?_) | (intro h; try first | exact dzq | replace h := cvq))
 all_goals (try exact cz)
 refine ⟨fun w s => ∃ i : Nat, (i ≤ m.groups.length ∧ w = m.groups.length - i) ∧ s = byS ls m.groups i (q3 ++ rwsB (kindsL ls) (m.groups.take i)), ⟨_, byS ls m.groups 0 (q3 ++ rwsB (kindsL ls) (m.groups.take 0)), reb_num [6] (by exact rfl) ⟨wk_slc (by simp [rwsB]), .refl _, .tab rfl, wk_int (by show (((m.groups.map encR).length : Nat) : Int) = _; rw [List.length_map]), .refl _, trivial⟩ ⟨⟨by decide, _, rfl, wkB_eq (by simp [rwsB]) (fB _)⟩, trivial⟩, 0, ⟨by omega, rfl⟩, rfl⟩, ?_⟩
 rintro w s ⟨i, ⟨hi, rfl⟩, rfl⟩
 by_cases h1 : i < m.groups.length
 ·have hgi : RwB ls.length (m.groups.getD i default) := by
   rw [List.getD_eq_getElem?_getD, List.getElem?_eq_getElem h1]; exact hgs _ (List.getElem_mem h1)
  have hpt := rwsB_take (ks := kindsL ls) h1
  have hpl := rwsB_le (kindsL ls) m.groups (i + 1)
  have hlo : (q3 ++ rwsB (kindsL ls) (m.groups.take i)).length + (rwB (kindsL ls) (m.groups.getD i default)).length ≤ 1000000 := by
   rw [hpt, List.length_append] at hpl
   rw [List.length_append]; omega
  have hO2 : q3 ++ rwsB (kindsL ls) (m.groups.take (i + 1)) = q3 ++ rwsB (kindsL ls) (m.groups.take i) ++ nuB [(m.groups.getD i default).n] ++ cksB (kindsL ls) (m.groups.getD i default).chunks := by rw [hpt, rwB]; simp only [List.append_assoc]
  obtain ⟨hgn, hgc, hck⟩ := hgi
  have hrl : (rwB (kindsL ls) (m.groups.getD i default)).length = (nuB [(m.groups.getD i default).n]).length + (cksB (kindsL ls) (m.groups.getD i default).chunks).length := by rw [rwB, List.length_append]
  clear hpt hpl
  generalize q3 ++ rwsB (kindsL ls) (m.groups.take i) = q at *
  have hcall3 : ∀ K : List UInt8 → Prop, K (q ++ nuB [(m.groups.getD i default).n]) → S_nums [vB q, vI [(m.groups.getD i default).n]] K := fun K hk => ⟨q, [(m.groups.getD i default).n], rfl, by omega, ⟨fun x hx => by simp at hx; subst hx; exact hgn, by simp, by simp⟩, hk⟩
  have hl4 : (q ++ nuB [(m.groups.getD i default).n]).length = q.length + (nuB [(m.groups.getD i default).n]).length := List.length_append
  generalize hq4 : q ++ nuB [(m.groups.getD i default).n] = q4 at *
  repeat' (first | (refine And.intro ?_ ?_) | (intro h; try first | exact dzq | replace h := cvq))
  all_goals (try exact czq)
  refine ⟨[vB q, vI [(m.groups.getD i default).n]], ⟨.byt rfl rfl rfl, .ints rfl rfl rfl, trivial⟩, ?_⟩
  refine hcall3 _ ?_
  repeat' (first | (refine And.intro ?_ ?_) | (intro h; try first | exact dzq | replace h := cvq))
  all_goals (try exact czq)
  generalize hg : m.groups.getD i default = g at *
  refine ⟨fun w s => ∃ j : Nat, (j ≤ g.chunks.length ∧ w = g.chunks.length - j) ∧ s = byI ls m.groups i (q4 ++ cksB (kindsL ls) (g.chunks.take j)) g.chunks j, ⟨_, byI ls m.groups i (q4 ++ cksB (kindsL ls) (g.chunks.take 0)) g.chunks 0, reb_num [4] (by exact rfl) ⟨wk_slc (by rw [List.take_zero, cksB_nil, List.append_nil]), .refl _, .refl _, .refl _, .refl _, .tab (by rw [← hg]; rfl), wk_int (by show (((((m.groups.getD i default).chunks.map encC).length : Nat)) : Int) = _; rw [List.length_map, hg]), .refl _, trivial⟩ ⟨⟨by decide, _, rfl, wkB_eq (by rw [List.take_zero, cksB_nil, List.append_nil]) (fB _)⟩, trivial⟩, 0, ⟨by omega, rfl⟩, rfl⟩, ?_⟩
  rintro w s ⟨j, ⟨hj, rfl⟩, rfl⟩
  by_cases h3 : j < g.chunks.length
  ·have hkl : (kindsL ls).length = ls.length := List.length_map ..
   have hct := cksB_take (ks := kindsL ls) h3 (by omega)
   have hcp := cksB_le (kindsL ls) g.chunks (j + 1)
   have hkd : (kindsL ls).getD j 0 = (ls.getD j default).kind := by
    rw [List.getD_eq_getElem?_getD, List.getD_eq_getElem?_getD, List.getElem?_map, List.getElem?_eq_getElem (by omega)]; rfl
   rw [hkd] at hct
   have hcj : CkB (g.chunks.getD j default) := by
    rw [List.getD_eq_getElem?_getD, List.getElem?_eq_getElem h3]; exact hck _ (List.getElem_mem h3)
   have hO3 : q4 ++ cksB (kindsL ls) (g.chunks.take (j + 1)) = q4 ++ cksB (kindsL ls) (g.chunks.take j) ++ ckB (ls.getD j default).kind (g.chunks.getD j default) := by rw [hct, List.append_assoc]
   have hlo2 : (q4 ++ cksB (kindsL ls) (g.chunks.take j)).length + (ckB (ls.getD j default).kind (g.chunks.getD j default)).length ≤ 1000000 := by
    rw [hct, List.length_append] at hcp
    rw [List.length_append]; omega
   have hcall : ∀ K : AVal → Heap → Nat → Prop, K (slB 1 (q4 ++ cksB (kindsL ls) (g.chunks.take (j + 1)))) [(1, oB (q4 ++ cksB (kindsL ls) (g.chunks.take (j + 1))))] 2 → S_chunkB [slB 0 (q4 ++ cksB (kindsL ls) (g.chunks.take j)), .int .i64 (ls.getD j default).kind, .agg (encC (g.chunks.getD j default))] [(0, oB (q4 ++ cksB (kindsL ls) (g.chunks.take j)))] 1 K := fun K hk => ⟨_, _, _, rfl, rfl, rfl, ⟨hcj, hlo2⟩, hO3 ▸ hk⟩
   clear hct hcp hO3 hlo2
   generalize q4 ++ cksB (kindsL ls) (g.chunks.take j) = q5 at *
   generalize hq6 : q4 ++ cksB (kindsL ls) (g.chunks.take (j + 1)) = q6 at *
   repeat' (first | (refine And.intro ?_ ?_) | (intro h; try first | exact dzq | replace h := cvq))
   all_goals (try exact czq)
   refine ⟨⟨[(4, slB 0 q6), (5, vL ls), (31, vR m.groups), (32, .int .i64 m.groups.length), (33, .int .i64 i), (43, vC g.chunks), (44, .int .i64 g.chunks.length), (45, .int .i64 j)], [(0, oB q6)], 1⟩, ?_, ?_⟩
   ·repeat' (first | (refine And.intro ?_ ?_) | (intro h; try first | exact dzq | replace h := cvq))
    all_goals (try exact czq)
    all_goals (refine ⟨[0], [slB 0 q5, .int .i64 (ls.getD j default).kind, .agg (encC (g.chunks.getD j default))], [(0, oB q5)], by exact rfl, ⟨by exact .refl _, by exact .refl _, by exact .refl _, trivial⟩, ⟨⟨Nat.zero_lt_one, _, by exact rfl, wkB_same (fB _)⟩, trivial⟩, ?_⟩; refine hcall _ ?_)
    repeat' (first | (refine And.intro ?_ ?_) | (intro h; try first | exact dzq | replace h := cvq))
    all_goals (try exact czq)
    all_goals exact Exists.intro () (reb_num [4] (by exact rfl) ⟨by exact .refl _, .refl _, .refl _, .refl _, .refl _, .refl _, .refl _, .refl _, trivial⟩ ⟨⟨Nat.zero_lt_one, _, by exact congrArg some (blk_flat _ (fB _)), wkB_same (fB _)⟩, trivial⟩)
   ·repeat' (first | (refine And.intro ?_ ?_) | (intro h; try first | exact dzq | replace h := cvq))
    all_goals (try exact czq)
    exact ⟨_, byI ls m.groups i q6 g.chunks (j + 1), reb_num [0] (by exact rfl) ⟨.refl _, .refl _, .refl _, .refl _, .refl _, .refl _, .refl _, wk_int (by omega), trivial⟩ ⟨⟨by decide, _, rfl, wkB_same (fB _)⟩, trivial⟩, ⟨j + 1, ⟨by omega, rfl⟩, by rw [hq6]⟩, by omega⟩
  ·obtain rfl : j = g.chunks.length := by omega
   rw [List.take_length, ← hO2]
   repeat' (first | (refine And.intro ?_ ?_) | (intro h; try first | exact dzq | replace h := cvq))
   all_goals (try exact czq)
   exact ⟨_, byS ls m.groups (i + 1) (q3 ++ rwsB (kindsL ls) (m.groups.take (i + 1))), reb_num [0] (by exact rfl) ⟨.refl _, .refl _, .refl _, .refl _, wk_int (by omega), trivial⟩ ⟨⟨by decide, _, rfl, wkB_same (fB _)⟩, trivial⟩, ⟨i + 1, ⟨by omega, rfl⟩, rfl⟩, by omega⟩
 ·obtain rfl : i = m.groups.length := by omega
  rw [List.take_length]
  have hq4l : (q3 ++ rwsB (kindsL ls) m.groups).length ≤ 1000000 := by rw [List.length_append]; omega
  have hq4p : 0 < (q3 ++ rwsB (kindsL ls) m.groups).length := by rw [List.length_append]; omega
  generalize q3 ++ rwsB (kindsL ls) m.groups = q4 at *
  repeat' (first | (refine And.intro ?_ ?_) | (intro h; try first | exact dzq | replace h := cvq))
  all_goals (try exact czq)
  ·show allLen 1 (List.take q4.length (List.drop 0 (q4.map encB))) = true
   rw [List.drop_zero, List.take_of_length_le (by simp)]; exact allLen_map (enc := encB) (z := 1) (fun _ => rfl) _
  refine ⟨_, .refl _ _ _, _, rfl, ?_⟩
  repeat' (first | (refine And.intro ?_ ?_) | (intro h; try first | exact dzq | replace h := cvq))
  all_goals (try exact czq)
  refine ⟨_, reb_own1 (k := 2) (n := 2) (l := q4) (by exact rfl) rfl rfl ?_ (Nat.zero_add _), _, rfl, own_eq rfl⟩
  show [] ++ List.take q4.length (List.drop 0 (q4.map encB)) = _
  rw [List.drop_zero, List.take_of_length_le (by simp)]; rfl
def S_fbytes : SpecY := fun args K => ∃ m, args = [.agg (encM m)] ∧ (MtB m ∧ (mtB m).length ≤ 1000000) ∧ K (mtB m)
theorem fbytes_ok [Syms] : BytOk Try.prog 19 S_fbytes := by
 rintro args K ⟨m, rfl, ⟨h1, h2⟩, hk⟩
 exact ⟨_, hk, fnT_sound tys_ok fns_ok noneT_det cBt_ok mixed (fbytes_t m h1 h2)⟩
end Go.Proofs.Ytajieadpaeggcaa

end
section
set_option linter.unusedVariables false
set_option linter.unusedSimpArgs false
namespace Go.Proofs.Ytajieadpaeggcaa
open Go Go.Av
def S_make : SpecI := fun args K => ∃ ns, args = [vI ns] ∧ (ns.length ≤ 9223372036854775807 ∧ K (vF (makeF ns)))
theorem make_ok' [Syms] : ImmOk Try.prog 20 S_make := by
 rintro args K ⟨ns, rfl, h, hk⟩
 exact ⟨rfl, _, rfl, hk, fnI tys_ok fns_ok cWi_det cWi_ok mixed (make_t ns h)⟩
end Go.Proofs.Ytajieadpaeggcaa

end
section
set_option linter.unusedVariables false
set_option linter.unusedSimpArgs false
namespace Go.Proofs.Ytajieadpaeggcaa
open Go Go.Av
def dv (g n : Int) : Int := wr .i64 (g.tdiv n)
def pgM (g r : Int) : Pg := ⟨r, r + wi g 9, wi g 2, wi (dv g 2) 300, wi (dv g 5) 300, wi (dv g 9) 3000, wr .u32 (wr .u32 g * 77)⟩
def stpM (g left : Int) : Int := if 1 + wi (dv g 7) 20 < left then 1 + wi (dv g 7) 20 else left
def pagesM (g : Int) : Nat → Int → List Pg
 | 0, _ => []
 | f + 1, left => if 0 < left then pgM g (stpM g left) :: pagesM g f (left - stpM g left) else []
def d2 (p : Pg) : Pg := { p with enc := 2 }
def nM (g : Int) : Int := 1 + wi g 40
def chunk0 (g : Int) (k : Nat) : Ck :=
 if wi (dv g 11) 3 = 0 then ⟨wi g 257, wi (dv g 13) 9000, wr .u32 g, (pagesM g 40 (nM g)).map d2, decide (0 < wi (dv g 3 + k) 3), default⟩
 else ⟨0, 0, 0, pagesM g 40 (nM g), decide (0 < wi (dv g 3 + k) 3), default⟩
def goodF (kind : Int) (v : Vl) : Vl := if kind = 1 then ⟨wi v.n 2, []⟩ else if kind = 2 then ⟨wr .i32 v.n, []⟩ else if kind = 3 then ⟨v.n, []⟩ else ⟨0, v.s.take 100⟩
def chunkM (g : Int) (k : Nat) (kind : Int) (l : List Vl) (a : Nat) : Ck × Nat :=
 if (chunk0 g k).known = true ∧ 0 < l.length then
  ({ chunk0 g k with st := ⟨wi g (nM g + 1), true, goodF kind (l.getD (a % l.length) default), goodF kind (l.getD (a % l.length) default)⟩ }, a + 1)
 else (chunk0 g k, a)
def chunksM (g : Int) (l : List Vl) : List Int → Nat → Nat → List Ck × Nat
 | [], _, a => ([], a)
 | kd :: ks, k, a => ((chunkM g k kd l a).1 :: (chunksM g l ks (k + 1) (chunkM g k kd l a).2).1, (chunksM g l ks (k + 1) (chunkM g k kd l a).2).2)
def groupsM (ks : List Int) (l : List Vl) : List Int → Nat → List Rw × Nat
 | [], a => ([], a)
 | g :: gs, a => (⟨nM g, (chunksM g l ks 0 a).1⟩ :: (groupsM ks l gs (chunksM g l ks 0 a).2).1, (groupsM ks l gs (chunksM g l ks 0 a).2).2)
def makeM (ns gs : List Int) (l : List Vl) : Mt := ⟨makeF ns, sumR (groupsM (kindsF (makeF ns)) l (gs.take 4) 0).1, (groupsM (kindsF (makeF ns)) l (gs.take 4) 0).1⟩
abbrev vV (l : List Vl) : AVal := vT 2 encV default l
def I64 (x : Int) : Prop := -9223372036854775808 ≤ x ∧ x ≤ 9223372036854775807
theorem wi_le {a n : Int} (hn : 0 < n) : 0 ≤ wi a n ∧ wi a n < n := wi_range hn
theorem nM_le (g : Int) : 1 ≤ nM g ∧ nM g ≤ 40 := by
 have := wi_le (a := g) (n := 40) (by decide)
 unfold nM; omega
theorem stpM_le {g left : Int} (h : 0 < left) : 1 ≤ stpM g left ∧ stpM g left ≤ left ∧ stpM g left ≤ 20 := by
 have := wi_le (a := dv g 7) (n := 20) (by decide)
 unfold stpM
 split <;> omega
theorem pagesM_step {g left : Int} {f : Nat} (h : 0 < left) : pagesM g (f + 1) left = pgM g (stpM g left) :: pagesM g f (left - stpM g left) := by rw [pagesM, if_pos h]
theorem pagesM_end {g left : Int} {f : Nat} (h : ¬ 0 < left) : pagesM g f left = [] := by
 cases f with
 | zero => rfl
 | succ f => rw [pagesM, if_neg h]
theorem pagesM_len (g : Int) : ∀ (f : Nat) (left : Int), (pagesM g f left).length ≤ f
 | 0, _ => Nat.le_refl _
 | f + 1, left => by
   rw [pagesM]
   split
   ·rw [List.length_cons]; have := pagesM_len g f (left - stpM g left); omega
   ·exact Nat.zero_le _
theorem chunksM_len (g : Int) (l : List Vl) : ∀ (ks : List Int) (k a : Nat), (chunksM g l ks k a).1.length = ks.length
 | [], _, _ => rfl
 | kd :: ks, k, a => by rw [chunksM, List.length_cons, chunksM_len g l ks, List.length_cons]
theorem chunkM_at (g : Int) (k : Nat) (kd : Int) (l : List Vl) (a : Nat) : (chunkM g k kd l a).2 ≤ a + 1 := by
 unfold chunkM
 split
 ·exact Nat.le_refl _
 ·exact Nat.le_succ _
theorem chunksM_at (g : Int) (l : List Vl) : ∀ (ks : List Int) (k a : Nat), (chunksM g l ks k a).2 ≤ a + ks.length
 | [], _, _ => Nat.le_refl _
 | kd :: ks, k, a => by
   have h1 := chunkM_at g k kd l a
   have h2 := chunksM_at g l ks (k + 1) (chunkM g k kd l a).2
   rw [chunksM, List.length_cons]
   show (chunksM g l ks (k + 1) (chunkM g k kd l a).2).2 ≤ _
   omega
/-- The groups, from the front. -/
def gsAt (ks : List Int) (l : List Vl) (gs : List Int) : Nat → List Rw × Nat
 | 0 => ([], 0)
 | i + 1 => ((gsAt ks l gs i).1 ++ [⟨nM (gs.getD i 0), (chunksM (gs.getD i 0) l ks 0 (gsAt ks l gs i).2).1⟩], (chunksM (gs.getD i 0) l ks 0 (gsAt ks l gs i).2).2)
theorem groupsM_app (ks : List Int) (l : List Vl) : ∀ (x y : List Int) (a : Nat), groupsM ks l (x ++ y) a = ((groupsM ks l x a).1 ++ (groupsM ks l y (groupsM ks l x a).2).1, (groupsM ks l y (groupsM ks l x a).2).2)
 | [], y, a => rfl
 | g :: x, y, a => by
   rw [List.cons_append, groupsM, groupsM, groupsM_app ks l x y]
   rfl
theorem gsAt_eq (ks : List Int) (l : List Vl) (gs : List Int) : ∀ i, i ≤ gs.length → gsAt ks l gs i = groupsM ks l (gs.take i) 0
 | 0, _ => by rw [List.take_zero]; rfl
 | i + 1, h => by
   have ih := gsAt_eq ks l gs i (by omega)
   have e : gs.take (i + 1) = gs.take i ++ [gs.getD i 0] := by
    rw [List.take_add_one, List.getD_eq_getElem?_getD, List.getElem?_eq_getElem (by omega)]; rfl
   rw [gsAt, ih, e, groupsM_app]
   rfl
/-- A group's chunks, from the front. -/
def csAt (g : Int) (l : List Vl) (ks : List Int) (a : Nat) : Nat → List Ck × Nat
 | 0 => ([], a)
 | k + 1 => ((csAt g l ks a k).1 ++ [(chunkM g k (ks.getD k 0) l (csAt g l ks a k).2).1], (chunkM g k (ks.getD k 0) l (csAt g l ks a k).2).2)
theorem chunksM_app (g : Int) (l : List Vl) : ∀ (x y : List Int) (k a : Nat), chunksM g l (x ++ y) k a = ((chunksM g l x k a).1 ++ (chunksM g l y (k + x.length) (chunksM g l x k a).2).1, (chunksM g l y (k + x.length) (chunksM g l x k a).2).2)
 | [], y, k, a => rfl
 | q :: x, y, k, a => by
   rw [List.cons_append, chunksM, chunksM, chunksM_app g l x y, List.length_cons]
   rw [show k + 1 + x.length = k + (x.length + 1) by omega]
   rfl
theorem csAt_eq (g : Int) (l : List Vl) (ks : List Int) (a : Nat) : ∀ k, k ≤ ks.length → csAt g l ks a k = chunksM g l (ks.take k) 0 a
 | 0, _ => by rw [List.take_zero]; rfl
 | k + 1, h => by
   have ih := csAt_eq g l ks a k (by omega)
   have e : ks.take (k + 1) = ks.take k ++ [ks.getD k 0] := by
    rw [List.take_add_one, List.getD_eq_getElem?_getD, List.getElem?_eq_getElem (by omega)]; rfl
   rw [csAt, ih, e, chunksM_app, List.length_take, Nat.min_eq_left (by omega), Nat.zero_add]
   rfl
theorem csAt_at (g : Int) (l : List Vl) (ks : List Int) (a : Nat) : ∀ k, (csAt g l ks a k).2 ≤ a + k
 | 0 => Nat.le_refl _
 | k + 1 => by
   have h1 := csAt_at g l ks a k
   have h2 := chunkM_at g k (ks.getD k 0) l (csAt g l ks a k).2
   show (chunkM g k (ks.getD k 0) l (csAt g l ks a k).2).2 ≤ _
   omega
theorem gsAt_at (ks : List Int) (l : List Vl) (gs : List Int) : ∀ i, (gsAt ks l gs i).2 ≤ i * ks.length
 | 0 => by simp [gsAt]
 | i + 1 => by
   have h1 := gsAt_at ks l gs i
   have h2 := chunksM_at (gs.getD i 0) l ks 0 (gsAt ks l gs i).2
   show (chunksM (gs.getD i 0) l ks 0 (gsAt ks l gs i).2).2 ≤ _
   rw [Nat.add_mul, Nat.one_mul]; omega
end Go.Proofs.Ytajieadpaeggcaa

end
section
set_option linter.unusedVariables false
set_option linter.unusedSimpArgs false
namespace Go.Proofs.Ytajieadpaeggcaa
open Go Go.Av
set_option maxRecDepth 100000
set_option maxHeartbeats 4000000
def G_wi : List AVal → (AVal → Prop) → Prop := fun args K => ∃ a n, args = [.int .i64 a, .int .i64 n] ∧ (0 < n ∧ n ≤ 4611686018427387904) ∧ K (.int .i64 (wi a n))
theorem wi11_ok [Syms] : ValOk Try.prog 49 G_wi := by
 rintro args K ⟨a, n, rfl, ⟨h1, h2⟩, hk⟩
 refine ⟨within_fn_law11, _, hk, fun ι w vs hv => ?_⟩
 obtain ⟨v0, vs0, rfl, hv0, hv⟩ := hv.uncons
 obtain ⟨v1, vs1, rfl, hv1, hv⟩ := hv.uncons
 obtain rfl := hv.unnil
 obtain rfl := hv0.of_int
 obtain rfl := hv1.of_int
 refine (within_calls_law11 a n h1 h2 w).mono ?_
 rintro e w' ⟨rfl, rfl⟩
 exact ⟨_, rfl, .int _ _, rfl⟩
theorem wi19_ok [Syms] : ValOk Try.prog 13 G_wi := by
 rintro args K ⟨a, n, rfl, ⟨h1, h2⟩, hk⟩
 refine ⟨within_fn_law19, _, hk, fun ι w vs hv => ?_⟩
 obtain ⟨v0, vs0, rfl, hv0, hv⟩ := hv.uncons
 obtain ⟨v1, vs1, rfl, hv1, hv⟩ := hv.uncons
 obtain rfl := hv.unnil
 obtain rfl := hv0.of_int
 obtain rfl := hv1.of_int
 refine (within_calls_law19 a n h1 h2 w).mono ?_
 rintro e w' ⟨rfl, rfl⟩
 exact ⟨_, rfl, .int _ _, rfl⟩
abbrev cGd : CallT := pickT 49 (valT G_wi) noneT
theorem cGd_ok [Syms] : cGd.ok Try.prog := pickT_val_ok wi11_ok noneT_ok
theorem fin_gd [Syms] {N nx : Nat} {e : Env} {H : Heap} {row : List AVal} {v : Vl} {rs : List ResultVar} (hk : e.get 4 = .ptr 1 0 0) (H1 : H.get 1 = some (.cells [row] false)) (hrow : WkVs row (encV v)) (hn : NumsOk 0 nx [0, 1] = true)
 (hrs : resultsA (tyTab tys) ⟨[(4, .ptr 1 0 0)], [(1, some (.cells [encV v] false))], 2⟩ rs = some (.agg (encV v))) :
 ∃ s3, Reb 0 N ⟨e, H, nx⟩ s3 ∧ ∃ u, resultsA (tyTab tys) s3 rs = some u ∧ subP (fun u H _ => u = .agg (encV v) ∧ H = []) u s3.heap s3.nx :=
 ⟨⟨[(4, .ptr 1 0 0)], [(1, some (.cells [encV v] false))], 2⟩, reb_num [0, 1] hn ⟨by rw [hk]; exact .refl _, trivial⟩ ⟨⟨Nat.lt_succ_self _, _, H1, wkB_row hrow (fV v)⟩, trivial⟩, _, hrs, [], fun n b h => (by rw [Heap.get_nil] at h; cases h), rfl, rfl⟩
theorem take100 (s : List UInt8) : ((s.drop 0).take ((if (100 : Int) < (s.length : Int) then 100 else (s.length : Int)).toNat - 0)) = s.take 100 := by
 rw [List.drop_zero]
 split
 ·rfl
 ·rw [List.take_of_length_le (by omega), List.take_of_length_le (by omega)]
theorem good_t [Syms] (k : Int) (v : Vl) : fnT noneT cGd (fnTab fns) (tyTab tys) (plTab plt) 100 22 [.int .i64 k, .agg (encV v)] [] 0 (subP (fun u H _ => u = .agg (encV (goodF k v)) ∧ H = [])) := by
 unfold goodF
 by_cases h1 : k = 1
 ·rw [if_pos h1]
  repeat' (first | (refine And.intro ?_ ?_) | (intro h; try first | exact dzq | replace h := cvq))
  all_goals (try exact cz)
  refine ⟨v.n, 2, rfl, by decide, ?_⟩
  repeat' (first | (refine And.intro ?_ ?_) | (intro h; try first | exact dzq | replace h := cvq))
  all_goals (try exact cz)
  exact fin_gd (v := ⟨wi v.n 2, []⟩) rfl rfl ⟨.refl _, .refl _, trivial⟩ (by exact rfl) (by exact rfl)
 rw [if_neg h1]
 by_cases h2 : k = 2
 ·rw [if_pos h2]
  have hw := wr32 v.n
  repeat' (first | (refine And.intro ?_ ?_) | (intro h; try first | exact dzq | replace h := cvq))
  all_goals (try exact cz)
  exact fin_gd (v := ⟨wr .i32 v.n, []⟩) rfl rfl ⟨wk_int hw, .refl _, trivial⟩ (by exact rfl) (by exact rfl)
 rw [if_neg h2]
 by_cases h3 : k = 3
 ·rw [if_pos h3]
  repeat' (first | (refine And.intro ?_ ?_) | (intro h; try first | exact dzq | replace h := cvq))
  all_goals (try exact cz)
  exact fin_gd (v := ⟨v.n, []⟩) rfl rfl ⟨.refl _, .refl _, trivial⟩ (by exact rfl) (by exact rfl)
 rw [if_neg h3]
 repeat' (first | (refine And.intro ?_ ?_) | (intro h; try first | exact dzq | replace h := cvq))
 all_goals (try exact cz)
 exact fin_gd (v := ⟨0, v.s.take 100⟩) rfl rfl ⟨.refl _, wk_str (take100 v.s), trivial⟩ (by exact rfl) (by exact rfl)
def S_good : SpecI := fun args K => ∃ k v, args = [.int .i64 k, .agg (encV v)] ∧ K (.agg (encV (goodF k v)))
theorem good_ok [Syms] : ImmOk Try.prog 22 S_good := by
 rintro args K ⟨k, v, rfl, hk⟩
 exact ⟨rfl, _, rfl, hk, FnSem.forget (fnT_sound tys_ok fns_ok noneT_det cGd_ok mixed (good_t k v))⟩
/-! The chapter's example -/
abbrev cKn : CallT := pickT 15 (specT S_fparse) noneT
theorem cKn_ok [Syms] : cKn.ok Try.prog := pickT_spec fparse_ok noneT_ok
theorem known19_t [Syms] : fnT noneT cKn (fnTab fns) (tyTab tys) (plTab plt) 100 10 [] [] 0 (fun v H _ => v = .bool true ∧ H = []) := by
 refine ⟨[], [vB []], [], rfl, ⟨.zeroT 1 _ _ rfl, trivial⟩, trivial, [], rfl, rfl, rfl, Nat.zero_le _, ?_⟩
 have hp : parseMF [] = (mt0, 8) := rfl
 rw [hp]
 repeat' (first | (refine And.intro ?_ ?_) | (intro h; try first | exact dzq | replace h := cvq))
 all_goals (try exact cz)
 exact ⟨_, reb_flat [0] rfl, _, rfl, rfl, rfl⟩
def S_known19 : SpecI := fun args K => args = [] ∧ K (.bool true)
theorem known19_ok [Syms] : ImmOk Try.prog 10 S_known19 := by
 rintro args K ⟨rfl, hk⟩
 exact ⟨rfl, _, rfl, hk, fnT_sound tys_ok fns_ok noneT_det cKn_ok mixed known19_t⟩
end Go.Proofs.Ytajieadpaeggcaa

end
