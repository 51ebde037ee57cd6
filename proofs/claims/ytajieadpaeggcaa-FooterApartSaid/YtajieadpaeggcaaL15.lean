/-
  What 'Make' makes may be: nothing is wrong with it. Plain. Made descriptions may be written and read. Plain. Made descriptions, with records, may be written and read. Plain. A varint, a number's bytes behind bytes. The document's. What a file says of itself, as bytes: numbers, truths, values. The document's. A chunk's bytes. The document's. A schema's bytes. The document's. What a file says of itself, as bytes. The document's. Are two schemas, two files' descriptions the same? The document's. Any file's is written as the document says, and read as the same. The statement's function.
-/
import Derived.Test.YtajieadpaeggcaaL14
import Derived.Test.YtajieadpaeggcaaL3
import Derived.Test.YtajieadpaeggcaaL11
import Derived.Test.YtajieadpaeggcaaL10
import Derived.Test.YtajieadpaeggcaaL12
import Derived.Test.YtajieadpaeggcaaL13
set_option linter.unusedVariables false
set_option linter.unusedSimpArgs false
section
set_option linter.unusedVariables false
set_option linter.unusedSimpArgs false
namespace Go.Proofs.Ytajieadpaeggcaa
open Go Go.Av
theorem popZ_pos {a c : Int} {t : Stk} (h : 0 < c) : popZ ((a, c) :: t) = (a, c) :: t := by rw [popZ, if_neg (by omega)]
theorem popZ_neg {a c : Int} {t : Stk} (h : c ≤ 0) : popZ ((a, c) :: t) = popZ t := by rw [popZ, if_pos h]
theorem popZ_nil : ∀ {st : Stk}, popZ st = [] → openS st = false
 | [], _ => rfl
 | (a, c) :: t, h => by
   by_cases hc : 0 < c
   ·rw [popZ_pos hc] at h; cases h
   ·rw [popZ_neg (by omega)] at h
    have := popZ_nil h
    rw [openS] at this ⊢
    rw [List.any_cons, this, decide_eq_false hc]; rfl
theorem fo_wrun {d k : Nat} {l : List Fd} (h : Fo d k l) : ∀ (i : Nat) (a c : Int) (st' st : Stk) (rest : List Fd), (k : Int) ≤ c → 0 ≤ a → d = st'.length + 1 → popZ st = popZ ((a, c) :: st') →
 ∃ rows st2, wrun (l ++ rest) i st = rows ++ wrun rest (i + l.length) st2 ∧ (∀ p ∈ rows, (0 : Int) ≤ p.1 ∧ p.2 ≤ 8) ∧ wfin (l ++ rest) i st = wfin rest (i + l.length) st2 ∧ popZ st2 = popZ ((a, c - k) :: st') := by
 induction h with
 | nil =>
   intro i a c st' st rest hc ha hd hp
   exact ⟨[], st, rfl, fun p hp => (nomatch hp), rfl, by rw [hp]; simp⟩
 | leaf hd hf hk h0 h ih =>
   rename_i d k f l
   intro i a c st' st rest hc ha hdl hp
   have hc0 : 0 < c := by omega
   rw [popZ_pos hc0] at hp
   obtain ⟨rows, st2, h1, h2, h3, h4⟩ := ih (i + 1) a (c - 1) st' ((a, c - 1) :: st') rest (by omega) ha hdl rfl
   refine ⟨(a, (st'.length : Int) + 1) :: rows, st2, ?_, ?_, ?_, ?_⟩
   ·rw [List.cons_append, wrun, hp, pushS, if_neg hk]
    show (a, (((a, c) :: st').length : Int)) :: wrun (l ++ rest) (i + 1) ((a, c - 1) :: st') = _
    rw [h1, List.length_cons, List.length_cons, show i + 1 + l.length = i + (l.length + 1) by omega]
    simp
   ·intro p hp
    rcases List.mem_cons.1 hp with rfl | hp
    ·exact ⟨ha, by simp only; omega⟩
    ·exact h2 p hp
   ·rw [List.cons_append, wfin, hp, pushS, if_neg hk]
    show wfin (l ++ rest) (i + 1) ((a, c - 1) :: st') = _
    rw [h3, List.length_cons, show i + 1 + l.length = i + (l.length + 1) by omega]
   ·rw [h4, show c - 1 - (k : Int) = c - ((k + 1 : Nat) : Int) by omega]
 | group hd hf hk hm hpos h1 h2 ih1 ih2 =>
   rename_i d k m f l1 l2
   intro i a c st' st rest hc ha hdl hp
   have hc0 : 0 < c := by omega
   rw [popZ_pos hc0] at hp
   obtain ⟨r1, s1, a1, a2, a3, a4⟩ := ih1 (i + 1) i m ((a, c - 1) :: st') (((i : Int), (m : Int)) :: (a, c - 1) :: st') (l2 ++ rest) (Int.le_refl _) (by omega) (by simp; omega) rfl
   rw [popZ_neg (by omega)] at a4
   obtain ⟨r2, s2, b1, b2, b3, b4⟩ := ih2 (i + 1 + l1.length) a (c - 1) st' s1 rest (by omega) ha hdl a4
   refine ⟨(a, (st'.length : Int) + 1) :: (r1 ++ r2), s2, ?_, ?_, ?_, ?_⟩
   ·rw [List.cons_append, wrun, hp, pushS, if_pos hk, hm]
    show (a, (((a, c) :: st').length : Int)) :: wrun (l1 ++ l2 ++ rest) (i + 1) (((i : Int), (m : Int)) :: (a, c - 1) :: st') = _
    rw [List.append_assoc, a1, b1, List.length_cons, List.length_cons, List.length_append, show i + 1 + l1.length + l2.length = i + (l1.length + l2.length + 1) by omega]
    simp
   ·intro p hp
    rcases List.mem_cons.1 hp with rfl | hp
    ·exact ⟨ha, by simp only; omega⟩
    ·rcases List.mem_append.1 hp with hp | hp
     ·exact a2 p hp
     ·exact b2 p hp
   ·rw [List.cons_append, wfin, hp, pushS, if_pos hk, hm]
    show wfin (l1 ++ l2 ++ rest) (i + 1) (((i : Int), (m : Int)) :: (a, c - 1) :: st') = _
    rw [List.append_assoc, a3, b3, List.length_cons, List.length_append, show i + 1 + l1.length + l2.length = i + (l1.length + l2.length + 1) by omega]
   ·rw [b4, show c - 1 - (k : Int) = c - ((k + 1 : Nat) : Int) by omega]
/-! ### Names -/
theorem incK_names (fs : List Fd) (a : Nat) : (incK fs a).map (·.name) = fs.map (·.name) := by
 unfold incK
 apply List.ext_getElem?
 intro i
 simp only [List.getElem?_map, List.getElem?_set]
 by_cases h : a = i
 ·subst h
  by_cases hl : a < fs.length
  ·simp [hl]
  ·simp [hl]
 ·simp [h]
def nmAt (j : Nat) : List UInt8 := if j = 0 then [109] else nmM (j - 1)
theorem run_names {ns : List Int} : ∀ (n i : Nat) (fs : List Fd) (op : List Int), fs.map (·.name) = (List.range (i + 1)).map nmAt → i ≤ 12 → ∃ m, m ≤ 13 ∧ (runM ns n i fs op).1.map (·.name) = (List.range m).map nmAt
 | 0, i, fs, op, h, hi => ⟨i + 1, by omega, h⟩
 | n + 1, i, fs, op, h, hi => by
   rw [runM]
   split
   ·rename_i hc
    refine run_names n (i + 1) _ _ ?_ (by omega)
    show (stepM fs op i (ns.getD i 0)).1.map (·.name) = _
    unfold stepM
    simp only [List.map_append, incK_names, h]
    rw [List.range_succ (n := i + 1), List.map_append]
    rfl
   ·exact ⟨i + 1, by omega, h⟩
theorem make_names (ns : List Int) : ∃ m, m ≤ 13 ∧ ((makeF ns).map (·.name) = (List.range m).map nmAt ∨ (makeF ns).map (·.name) = (List.range m).map nmAt ++ [[122]]) := by
 obtain ⟨m, hm, h⟩ := run_names (ns := ns) 12 0 [⟨[109], 0, 0, 0⟩] [0] rfl (by decide)
 refine ⟨m, hm, ?_⟩
 rw [makeF]
 generalize (runM ns 12 0 [⟨[109], 0, 0, 0⟩] [0]) = r at *
 show (endM r.1 r.2).map _ = _ ∨ (endM r.1 r.2).map _ = _
 unfold endM
 split
 ·right
  rw [List.map_append, incK_names, h]; rfl
 ·left; exact h
theorem nm_nodup : ∀ m, m ≤ 13 → ((List.range m).map nmAt).Nodup ∧ ((List.range m).map nmAt ++ [[122]]).Nodup := by decide
theorem names_apart {fs : List Fd} (h : (fs.map (·.name)).Nodup) {i k : Nat} (hi : i < fs.length) (hk : k < i) : (fs.getD k default).name ≠ (fs.getD i default).name := by
 intro e
 have hkl : k < fs.length := by omega
 have := List.pairwise_iff_getElem.1 h k i (by rw [List.length_map]; exact hkl) (by rw [List.length_map]; exact hi) hk
 apply this
 simp only [List.getElem_map]
 simp only [List.getD_eq_getElem?_getD, List.getElem?_eq_getElem hkl, List.getElem?_eq_getElem hi, Option.getD_some] at e
 exact e
theorem eqb_eq' (s t : List UInt8) : eqb s t = decide (s = t) := by
 letI : Syms := ⟨fun _ => .int .i64 0, fun _ => ⟨rfl, rfl⟩, fun _ => ⟨_, rfl⟩⟩
 exact eqb_eq s t
theorem chkFrom_nil {fs : List Fd} : ∀ n i, (∀ j, i ≤ j → j < i + n → chkAt fs (parentsF fs) j ((depthsF fs).getD j 0) = 0) → chkFrom fs i n = 0
 | 0, _, _ => rfl
 | n + 1, i, h => by
   have h0 := h i (Nat.le_refl _) (by omega)
   rw [chkFrom, if_neg (fun x => x h0)]
   exact chkFrom_nil n (i + 1) fun j h1 h2 => h j (by omega) (by omega)
theorem fok_name {f : Fd} (h : FOk f) : nameF f.name = true := by
 have hne : f.name ≠ [] := fun e => by have := h.name; rw [e] at this; cases this
 rw [← nameT_eq ⟨hne, .inl h.sign⟩]
 exact h.name
theorem Fo.kids {d k : Nat} {l : List Fd} (h : Fo d k l) : ∀ f ∈ l, (f.kind = 0 → 1 ≤ f.kids) ∧ (f.kind ≠ 0 → f.kids = 0) := by
 induction h with
 | nil => intro f hf; cases hf
 | leaf hd hf hk h0 h ih =>
   intro g hg
   rcases List.mem_cons.1 hg with rfl | hg
   ·exact ⟨fun h => absurd h hk, fun _ => h0⟩
   ·exact ih g hg
 | group hd hf hk hm hp h1 h2 ih1 ih2 =>
   intro g hg
   rcases List.mem_cons.1 hg with rfl | hg
   ·exact ⟨fun _ => by omega, fun h => absurd hk h⟩
   ·rcases List.mem_append.1 hg with hg | hg
    ·exact ih1 g hg
    ·exact ih2 g hg
theorem make_check (ns : List Int) : checkF (makeF ns) = 0 := by
 obtain ⟨f, l, k, hs, hf, hk, hr, hm, hp, h⟩ := make_fo ns
 have hl := make_len ns
 obtain ⟨m, hm13, hnm⟩ := make_names ns
 have hnd : ((makeF ns).map (·.name)).Nodup := by
  obtain ⟨h1, h2⟩ := nm_nodup m hm13
  rcases hnm with e | e
  ·rw [e]; exact h1
  ·rw [e]; exact h2
 clear hnm
 have hT : Fo 0 1 (f :: l) := by
  have := Fo.group (d := 0) (k := 0) (by decide) hf hk hm hp h .nil
  rwa [List.append_nil] at this
 rw [hs] at hl hnd ⊢
 obtain ⟨rows, st2, h1, h2, h3, h4⟩ := fo_wrun h 1 0 k [] [(0, (k : Int))] [] (Int.le_refl _) (Int.le_refl _) rfl rfl
 rw [List.append_nil] at h1 h3
 rw [popZ_neg (by omega)] at h4
 have hw : wrun (f :: l) 0 [] = (-1, 0) :: rows := by
  rw [wrun]
  show (-1, 0) :: wrun l 1 (pushS 0 f []) = _
  rw [pushS, if_pos hk, hm]
  show (-1, 0) :: wrun l 1 [(0, (k : Int))] = _
  rw [h1]; simp [wrun]
 have hfin : wfin (f :: l) 0 [] = st2 := by
  rw [wfin]
  show wfin l 1 (pushS 0 f []) = _
  rw [pushS, if_pos hk, hm]
  show wfin l 1 [(0, (k : Int))] = _
  rw [h3]; rfl
 have hrl : rows.length = l.length := by
  have := wrun_length (f :: l) 0 []
  rw [hw] at this
  simpa using this
 have hat : ∀ i, i < (f :: l).length → (f :: l).getD i default ∈ f :: l := fun i hi => by rw [List.getD_eq_getElem?_getD, List.getElem?_eq_getElem hi]; exact List.getElem_mem _
 unfold checkF
 rw [if_neg (by simp at hl ⊢; omega)]
 have hz : chkFrom (f :: l) 0 (f :: l).length = 0 := by
  refine chkFrom_nil _ _ fun j _ hj => ?_
  rw [Nat.zero_add] at hj
  have hfo := hT.all _ (hat j hj)
  have hkd := hT.kids _ (hat j hj)
  have htw : twinF (f :: l) (parentsF (f :: l)) j = false := by
   unfold twinF
   rw [List.any_eq_false]
   intro q hq
   have hq := List.mem_range.1 hq
   have hne := names_apart hnd hj hq
   unfold twinAt
   rw [eqb_eq', decide_eq_false hne]
   simp
  have hpd : (0 < j → 0 ≤ (parentsF (f :: l)).getD j 0) ∧ (depthsF (f :: l)).getD j 0 ≤ 8 := by
   rw [parentsF, depthsF, hw]
   cases j with
   | zero => exact ⟨fun h => absurd h (by decide), show (0 : Int) ≤ 8 by decide⟩
   | succ j =>
     have hjr : j < rows.length := by rw [hrl]; simpa using hj
     have hmem : rows[j] ∈ rows := List.getElem_mem _
     have := h2 _ hmem
     simp only [List.map_cons, List.getD_cons_succ]
     simp only [List.getD_eq_getElem?_getD, List.getElem?_map, List.getElem?_eq_getElem hjr, Option.map_some, Option.getD_some]
     exact ⟨fun _ => this.1, this.2⟩
  have h0 : j = 0 → ((f :: l).getD j default).rep = 0 ∧ ((f :: l).getD j default).kind = 0 := fun e => by subst e; exact ⟨hr, hk⟩
  unfold chkAt
  rw [htw, fok_name hfo]
  have hR := hfo.rep
  have hK := hfo.kind
  generalize (f :: l).getD j default = F at *
  unfold chk1
  rw [if_neg (by omega), if_neg (by omega), if_neg (by simp), if_neg (by omega), if_neg (by omega), if_neg (by omega)]
 rw [hz, if_neg (fun h => h rfl), hfin, popZ_nil h4]
 rfl
end Go.Proofs.Ytajieadpaeggcaa

end
section
set_option linter.unusedVariables false
set_option linter.unusedSimpArgs false
namespace Go.Proofs.Ytajieadpaeggcaa
open Go Go.Av
theorem chkFrom_at (fs : List Fd) : ∀ (n i : Nat), chkFrom fs i n = 0 → ∀ j, i ≤ j → j < i + n → chkAt fs (parentsF fs) j ((depthsF fs).getD j 0) = 0
 | 0, i, _, j, h1, h2 => by omega
 | n + 1, i, h, j, h1, h2 => by
   rw [chkFrom] at h
   split at h
   ·rename_i hne; exact absurd h hne
   ·rename_i he
    rcases Nat.lt_or_ge i j with h3 | h3
    ·exact chkFrom_at fs n (i + 1) h j (by omega) (by omega)
    ·obtain rfl : j = i := by omega
     exact Decidable.not_not.1 he
theorem chk1_ok {f : Fd} {i : Nat} {par dep : Int} {nm tw : Bool} (h : chk1 f i par dep nm tw = 0) : nm = true ∧ (0 ≤ f.rep ∧ f.rep ≤ 2) ∧ (0 ≤ f.kind ∧ f.kind ≤ 4) ∧ 0 ≤ f.kids := by
 unfold chk1 at h
 split at h
 ·cases h
 split at h
 ·cases h
 split at h
 ·cases h
 rename_i h1
 split at h
 ·cases h
 rename_i h2
 split at h
 ·cases h
 split at h
 ·cases h
 rename_i h3
 refine ⟨?_, ?_, ?_, ?_⟩
 ·cases nm
  ·exact absurd (.inl rfl) h1
  ·rfl
 ·omega
 ·omega
 ·by_cases hk : f.kind = 0 <;> omega
theorem make_sb (ns : List Int) : ∀ f ∈ makeF ns, SbOk f := by
 have hc := make_check ns
 have hl := make_len ns
 have hfrom : chkFrom (makeF ns) 0 (makeF ns).length = 0 := by
  unfold checkF at hc
  split at hc
  ·cases hc
  ·split at hc
   ·rename_i h; exact absurd hc h
   ·rename_i h; exact Decidable.not_not.1 h
 intro f hf
 obtain ⟨i, hi, rfl⟩ := List.mem_iff_getElem.1 hf
 have := chkFrom_at _ _ 0 hfrom i (Nat.zero_le _) (by omega)
 have hge : (makeF ns).getD i default = (makeF ns)[i] := by rw [List.getD_eq_getElem?_getD, List.getElem?_eq_getElem hi]; rfl
 have hk := make_kids ns i
 unfold chkAt at this
 rw [hge] at this hk
 obtain ⟨h1, h2, h3, h4⟩ := chk1_ok this
 have hn : (makeF ns)[i].name.length ≤ 12 := by
  unfold nameF at h1
  simp only [Bool.and_eq_true, decide_eq_true_eq] at h1
  exact h1.1.1.2
 exact ⟨⟨h2.1, by omega⟩, ⟨h3.1, by omega⟩, ⟨h4, by omega⟩, hn⟩
theorem varB_len (n : Nat) : (varB n).length ≤ 10 := putV_len 9 n
theorem sbF1_len {f : Fd} (h : SbOk f) : (sbF1 f).length ≤ 34 := by
 have h1 := varB_len f.kids.toNat
 have h2 := varB_len f.name.length
 have h3 := h.name
 simp only [sbF1, List.length_append, leB_len]; omega
theorem sbL_len : ∀ {l : List Fd}, (∀ f ∈ l, SbOk f) → (sbL l).length ≤ 34 * l.length
 | [], _ => by simp [sbL]
 | f :: l, h => by
   have h1 := sbF1_len (h f (List.mem_cons_self ..))
   have h2 := sbL_len (l := l) fun g hg => h g (List.mem_cons_of_mem _ hg)
   rw [sbL, List.length_append, List.length_cons]; omega
theorem make_sbl (ns : List Int) : (sbF (makeF ns)).length ≤ 600 := by
 have h1 := sbL_len (make_sb ns)
 have h2 := make_len ns
 have h3 := varB_len (makeF ns).length
 rw [sbF, List.length_append]; omega
/-! Without records -/
end Go.Proofs.Ytajieadpaeggcaa

end
section
set_option linter.unusedVariables false
set_option linter.unusedSimpArgs false
namespace Go.Proofs.Ytajieadpaeggcaa
open Go Go.Av
theorem u32R (x : Int) : CrcOk (wr .u32 x) := by
 unfold CrcOk wr
 split
 ·rename_i h
  have h1 : (0 : Int) ≤ x := h.1
  have h2 : x ≤ (4294967295 : Int) := h.2
  omega
 ·show (0 : Int) ≤ (if (false && decide (x % (2 ^ 32 : Int) ≥ (2 ^ 31 : Int))) = true then x % (2 ^ 32 : Int) - (2 ^ 32 : Int) else x % (2 ^ 32 : Int)) ∧ (if (false && decide (x % (2 ^ 32 : Int) ≥ (2 ^ 31 : Int))) = true then x % (2 ^ 32 : Int) - (2 ^ 32 : Int) else x % (2 ^ 32 : Int)) < 4294967296
  simp; omega
theorem i32R (x : Int) : -2147483648 ≤ wr .i32 x ∧ wr .i32 x ≤ 2147483647 := by
 unfold wr
 split
 ·rename_i h
  have h1 : (-2147483648 : Int) ≤ x := h.1
  have h2 : x ≤ (2147483647 : Int) := h.2
  omega
 ·show (-2147483648 : Int) ≤ (if (true && decide (x % (2 ^ 32 : Int) ≥ (2 ^ 31 : Int))) = true then x % (2 ^ 32 : Int) - (2 ^ 32 : Int) else x % (2 ^ 32 : Int)) ∧ (if (true && decide (x % (2 ^ 32 : Int) ≥ (2 ^ 31 : Int))) = true then x % (2 ^ 32 : Int) - (2 ^ 32 : Int) else x % (2 ^ 32 : Int)) ≤ (2147483647 : Int)
  split <;> rename_i h3 <;> simp at h3 <;> omega
theorem pgM_g (g : Int) {r : Int} (h : 1 ≤ r ∧ r ≤ 20) : PgG (pgM g r) := by
 have h9 := wi_le (a := g) (n := 9) (by decide)
 have h2 := wi_le (a := g) (n := 2) (by decide)
 have h3 := wi_le (a := dv g 2) (n := 300) (by decide)
 have h4 := wi_le (a := dv g 5) (n := 300) (by decide)
 have h5 := wi_le (a := dv g 9) (n := 3000) (by decide)
 exact ⟨⟨by show 0 ≤ r; omega, by show r ≤ _; omega⟩, ⟨by show 0 ≤ r + wi g 9; omega, by show r + wi g 9 ≤ _; omega⟩, ⟨h2.1, by show wi g 2 ≤ _; omega⟩, ⟨h3.1, by show wi (dv g 2) 300 ≤ _; omega⟩, ⟨h4.1, by show wi (dv g 5) 300 ≤ _; omega⟩, ⟨h5.1, by show wi (dv g 9) 3000 ≤ _; omega⟩, u32R _⟩
theorem pagesM_mem (g : Int) : ∀ (f : Nat) (left : Int), ∀ p ∈ pagesM g f left, ∃ r, (1 ≤ r ∧ r ≤ 20) ∧ p = pgM g r
 | 0, _, p, h => nomatch h
 | f + 1, left, p, h => by
   rw [pagesM] at h
   split at h
   ·rename_i hl
    have := stpM_le (g := g) hl
    rcases List.mem_cons.1 h with rfl | h
    ·exact ⟨_, ⟨this.1, this.2.2⟩, rfl⟩
    ·exact pagesM_mem g f _ p h
   ·exact nomatch h
theorem pagesM_rows (g : Int) : ∀ (f : Nat) (left : Int), 0 ≤ left → left ≤ f → sumP (·.rows) (pagesM g f left) = left ∧ left ≤ sumP (·.cells) (pagesM g f left)
 | 0, left, h1, h2 => by
   have : left = 0 := by omega
   subst this; exact ⟨rfl, Int.le_refl _⟩
 | f + 1, left, h1, h2 => by
   by_cases hl : 0 < left
   ·have hs := stpM_le (g := g) hl
    obtain ⟨i1, i2⟩ := pagesM_rows g f (left - stpM g left) (by omega) (by omega)
    have h9 := wi_le (a := g) (n := 9) (by decide)
    rw [pagesM_step hl]
    refine ⟨?_, ?_⟩
    ·show stpM g left + sumP (·.rows) _ = left
     rw [i1]; omega
    ·show left ≤ stpM g left + wi g 9 + sumP (·.cells) _
     omega
   ·have : left = 0 := by omega
    subst this
    rw [pagesM_end hl]; exact ⟨rfl, Int.le_refl _⟩
theorem sumP_d2 (f : Pg → Int) (h : ∀ p, f (d2 p) = f p) : ∀ l : List Pg, sumP f (l.map d2) = sumP f l
 | [] => rfl
 | p :: l => by show f (d2 p) + sumP f (l.map d2) = _; rw [h, sumP_d2 f h l]; rfl
theorem d2_g {p : Pg} (h : PgG p) : PgG (d2 p) := ⟨h.n1, h.n2, ⟨by show (0 : Int) ≤ 2; decide, by show (2 : Int) ≤ 1048576; decide⟩, h.n4, h.n5, h.n6, h.crc⟩
/-- What a made chunk has. -/
structure CkM (g : Int) (c : Ck) : Prop where
 n1 : 0 ≤ c.words ∧ c.words ≤ 256
 n2 : 0 ≤ c.size ∧ c.size ≤ 9000
 crc : CrcOk c.crc
 len : c.pages.length ≤ 40
 pages : ∀ p ∈ c.pages, PgG p ∧ 0 < p.rows
 rows : sumP (·.rows) c.pages = nM g
 cells : nM g ≤ sumP (·.cells) c.pages
 dict : (∀ p ∈ c.pages, p.enc = 2) ∨ c.words = 0 ∧ c.size = 0
theorem chunk0_m (g : Int) (k : Nat) : CkM g (chunk0 g k) ∧ (chunk0 g k).st = default := by
 have hn := nM_le g
 have hr := pagesM_rows g 40 (nM g) (by omega) (by omega)
 have hm := pagesM_mem g 40 (nM g)
 have hl := pagesM_len g 40 (nM g)
 have h1 := wi_le (a := g) (n := 257) (by decide)
 have h2 := wi_le (a := dv g 13) (n := 9000) (by decide)
 have hg : ∀ p ∈ pagesM g 40 (nM g), PgG p ∧ 0 < p.rows := fun p hp => by
  obtain ⟨r, h, rfl⟩ := hm p hp
  exact ⟨pgM_g g h, show 0 < r by omega⟩
 unfold chunk0
 split
 ·refine ⟨⟨⟨h1.1, by show wi g 257 ≤ _; omega⟩, ⟨h2.1, by show wi (dv g 13) 9000 ≤ _; omega⟩, u32R _, by rw [List.length_map]; exact hl, fun p hp => ?_, (sumP_d2 (·.rows) (fun _ => rfl) _).trans hr.1, ?_, .inl fun p hp => ?_⟩, rfl⟩
  ·obtain ⟨q, hq, rfl⟩ := List.mem_map.1 hp
   exact ⟨d2_g (hg q hq).1, (hg q hq).2⟩
  ·show nM g ≤ sumP (·.cells) ((pagesM g 40 (nM g)).map d2)
   rw [sumP_d2 (·.cells) (fun _ => rfl)]; exact hr.2
  ·obtain ⟨q, hq, rfl⟩ := List.mem_map.1 hp; rfl
 ·exact ⟨⟨⟨Int.le_refl _, by show (0 : Int) ≤ 256; decide⟩, ⟨Int.le_refl _, by show (0 : Int) ≤ 9000; decide⟩, ⟨Int.le_refl _, by show (0 : Int) < 4294967296; decide⟩, hl, hg, hr.1, hr.2, .inr ⟨rfl, rfl⟩⟩, rfl⟩
theorem goodF_g (k : Int) {v : Vl} (h : I64 v.n) : VlG k (goodF k v) := by
 unfold goodF VlG
 split
 ·rename_i h1
  have := wi_le (a := v.n) (n := 2) (by decide)
  exact .inl ⟨h1, by show wi v.n 2 = 0 ∨ wi v.n 2 = 1; omega, rfl⟩
 ·split
  ·rename_i h1 h2; exact .inr (.inl ⟨h2, i32R _, rfl⟩)
  ·split
   ·rename_i h1 h2 h3; exact .inr (.inr (.inl ⟨h3, h, rfl⟩))
   ·rename_i h1 h2 h3; exact .inr (.inr (.inr ⟨⟨h1, h2, h3⟩, rfl, by show (v.s.take 100).length ≤ 100; rw [List.length_take]; omega⟩))
/-- A made chunk, and what is known of it. -/
structure CkN (g kd : Int) (c : Ck) : Prop where
 m : CkM g c
 st : c.st = default ∨ c.known = true ∧ (0 ≤ c.st.nulls ∧ c.st.nulls ≤ nM g) ∧ c.st.has = true ∧ c.st.mn = c.st.mx ∧ VlG kd c.st.mn
theorem chunkM_n (g : Int) (k : Nat) (kd : Int) {l : List Vl} (hl : ∀ v ∈ l, I64 v.n) (a : Nat) : CkN g kd (chunkM g k kd l a).1 := by
 have h0 := chunk0_m g k
 have hn := nM_le g
 unfold chunkM
 split
 ·rename_i h
  have hw := wi_le (a := g) (n := nM g + 1) (by omega)
  refine ⟨⟨h0.1.n1, h0.1.n2, h0.1.crc, h0.1.len, h0.1.pages, h0.1.rows, h0.1.cells, h0.1.dict⟩, .inr ⟨h.1, ⟨hw.1, by show wi g (nM g + 1) ≤ _; omega⟩, rfl, rfl, ?_⟩⟩
  refine goodF_g kd ?_
  have hm := Nat.mod_lt a h.2
  rw [List.getD_eq_getElem?_getD, List.getElem?_eq_getElem hm]
  exact hl _ (List.getElem_mem hm)
 ·exact ⟨h0.1, .inl h0.2⟩
theorem chunksM_n (g : Int) {l : List Vl} (hl : ∀ v ∈ l, I64 v.n) : ∀ (ks : List Int) (k a i : Nat), i < ks.length → CkN g (ks.getD i 0) ((chunksM g l ks k a).1.getD i default)
 | [], k, a, i, h => by simp at h
 | kd :: ks, k, a, 0, _ => chunkM_n g k kd hl a
 | kd :: ks, k, a, i + 1, h => chunksM_n g hl ks (k + 1) _ i (by simpa using h)
theorem groupsM_mem (ks : List Int) (l : List Vl) : ∀ (gs : List Int) (a : Nat), ∀ r ∈ (groupsM ks l gs a).1, ∃ g a', r = ⟨nM g, (chunksM g l ks 0 a').1⟩
 | [], a, r, h => nomatch h
 | g :: gs, a, r, h => by
   rw [groupsM] at h
   rcases List.mem_cons.1 h with rfl | h
   ·exact ⟨g, a, rfl⟩
   ·exact groupsM_mem ks l gs _ r h
theorem groupsM_len (ks : List Int) (l : List Vl) : ∀ (gs : List Int) (a : Nat), (groupsM ks l gs a).1.length = gs.length
 | [], a => rfl
 | g :: gs, a => by rw [groupsM, List.length_cons, groupsM_len ks l gs, List.length_cons]
theorem groupsM_sum (ks : List Int) (l : List Vl) : ∀ (gs : List Int) (a : Nat), (gs.length : Int) ≤ sumR (groupsM ks l gs a).1 ∧ sumR (groupsM ks l gs a).1 ≤ 40 * (gs.length : Int)
 | [], a => ⟨Int.le_refl 0, Int.le_refl 0⟩
 | g :: gs, a => by
   have ih := groupsM_sum ks l gs (chunksM g l ks 0 a).2
   have := nM_le g
   rw [groupsM, List.length_cons]
   show _ ≤ nM g + sumR _ ∧ nM g + sumR _ ≤ _
   omega
theorem CkN.g {g kd : Int} {c : Ck} (h : CkN g kd c) : CkG kd c := by
 have hn := nM_le g
 obtain ⟨hm, hs⟩ := h
 refine ⟨⟨hm.n1.1, by have := hm.n1.2; omega⟩, ⟨hm.n2.1, by have := hm.n2.2; omega⟩, hm.crc, by have := hm.len; omega, fun p hp => (hm.pages p hp).1, fun hk => ?_, fun hk => ?_, fun hk hh => ?_, fun hk hh => ?_⟩
 ·rcases hs with h | ⟨h, _⟩
  ·exact h
  ·rw [hk] at h; cases h
 ·rcases hs with h | ⟨_, h, _⟩
  ·rw [h]; exact ⟨Int.le_refl _, by show (0 : Int) ≤ 1048576; decide⟩
  ·exact ⟨h.1, by omega⟩
 ·rcases hs with h | ⟨_, _, h, _⟩
  ·rw [h]; exact ⟨rfl, rfl⟩
  ·rw [hh] at h; cases h
 ·rcases hs with h | ⟨_, _, _, h1, h2⟩
  ·rw [h] at hh; cases hh
  ·exact ⟨h2, h1 ▸ h2⟩
theorem bytesLess_self : ∀ s : List UInt8, Op.bytesLess s s = false
 | [] => rfl
 | a :: s => by
   have := bytesLess_self s
   unfold Op.bytesLess
   simp [this]
theorem cmpV_self (kd : Int) (v : Vl) : 0 ≤ cmpV kd v v := by
 unfold cmpV
 split
 ·unfold cmpB
  rw [bytesLess_self, eqb_self]; decide
 ·unfold cmpI
  rw [if_neg (Int.lt_irrefl _), if_neg (Int.lt_irrefl _)]; decide
theorem CkN.w {g kd : Int} {c : Ck} (h : CkN g kd c) : soundF kd (nM g) c = true := by
 obtain ⟨hm, hs⟩ := h
 have hn := nM_le g
 have h1 : c.pages.all (fun p => decide (p.rows ≠ 0)) = true := List.all_eq_true.2 fun p hp => decide_eq_true (by have := (hm.pages p hp).2; omega)
 have h2 : (c.pages.all (fun p => decide (p.enc = 2)) || decide (c.words = 0 ∧ c.size = 0)) = true := by
  rcases hm.dict with h | h
  ·rw [List.all_eq_true.2 fun p hp => decide_eq_true (h p hp)]; rfl
  ·rw [decide_eq_true h, Bool.or_true]
 have h3 : (decide (c.st.nulls ≤ sumP (·.cells) c.pages) && decide (0 ≤ cmpV kd c.st.mx c.st.mn)) = true := by
  have hc := hm.cells
  rcases hs with h | ⟨_, h, _, h4, _⟩
  ·rw [h, decide_eq_true (show (default : Sta).nulls ≤ _ from by show (0 : Int) ≤ _; omega), decide_eq_true (show 0 ≤ cmpV kd (default : Sta).mx (default : Sta).mn from cmpV_self kd _)]; rfl
  ·rw [h4, decide_eq_true (by omega), decide_eq_true (cmpV_self kd _)]; rfl
 unfold soundF
 rw [h1, h2, h3, decide_eq_true hm.rows, decide_eq_true hm.n1.2]
 simp
theorem soundsF_at (n : Int) : ∀ (ks : List Int) (cs : List Ck), (∀ i, i < ks.length → i < cs.length → soundF (ks.getD i 0) n (cs.getD i default) = true) → soundsF n ks cs = true
 | [], [], _ => rfl
 | [], _ :: _, _ => rfl
 | _ :: _, [], _ => rfl
 | k :: ks, c :: cs, h => by
   have h0 := h 0 (by simp) (by simp)
   rw [soundsF, show soundF k n c = true from h0, soundsF_at n ks cs fun i h1 h2 => h (i + 1) (by simpa using h1) (by simpa using h2)]; rfl
theorem makeM_w (ns gs : List Int) {l : List Vl} (hl : ∀ v ∈ l, I64 v.n) : wholeF (makeM ns gs l) = true := by
 have hs := groupsM_sum (kindsF (makeF ns)) l (gs.take 4) 0
 have h4 : (gs.take 4).length ≤ 4 := by rw [List.length_take]; omega
 show (((groupsM (kindsF (makeF ns)) l (gs.take 4) 0).1.all fun g => decide (g.n ≠ 0) && soundsF g.n (kindsF (makeF ns)) g.chunks) && decide (sumR (groupsM (kindsF (makeF ns)) l (gs.take 4) 0).1 = sumR (groupsM (kindsF (makeF ns)) l (gs.take 4) 0).1 ∧ sumR (groupsM (kindsF (makeF ns)) l (gs.take 4) 0).1 ≤ 200)) = true
 rw [decide_eq_true ⟨rfl, by omega⟩, Bool.and_true]
 refine List.all_eq_true.2 fun r hr => ?_
 obtain ⟨g, a, rfl⟩ := groupsM_mem _ _ _ _ r hr
 have hn := nM_le g
 rw [decide_eq_true (show nM g ≠ 0 by omega), soundsF_at (nM g) _ (chunksM g l (kindsF (makeF ns)) 0 a).1 fun i h1 h2 => (chunksM_n g hl _ 0 a i h1).w]
 rfl
theorem makeM_g (ns gs : List Int) {l : List Vl} (hl : ∀ v ∈ l, I64 v.n) : MtG (makeM ns gs l) := by
 have hs := groupsM_sum (kindsF (makeF ns)) l (gs.take 4) 0
 have h4 : (gs.take 4).length ≤ 4 := by rw [List.length_take]; omega
 refine ⟨make_sb ns, by have := make_len ns; show (makeF ns).length ≤ 40; omega, make_check ns, by have := make_sbl ns; show (sbF (makeF ns)).length ≤ 2000; omega, ⟨by show 0 ≤ sumR (groupsM (kindsF (makeF ns)) l (gs.take 4) 0).1; omega, by show sumR (groupsM (kindsF (makeF ns)) l (gs.take 4) 0).1 ≤ _; omega⟩, by show (groupsM (kindsF (makeF ns)) l (gs.take 4) 0).1.length ≤ 200; rw [groupsM_len]; omega, fun r hr => ?_⟩
 obtain ⟨g, a, rfl⟩ := groupsM_mem _ _ _ _ r hr
 have hn := nM_le g
 exact ⟨⟨by show 0 ≤ nM g; omega, by show nM g ≤ _; omega⟩, chunksM_len .., fun i hi => (chunksM_n g hl _ 0 a i (by rw [chunksM_len] at hi; exact hi)).g⟩
theorem num20_ok {x : Int} (h : Num20 x) : NumOk x := ⟨h.1, Int.lt_of_le_of_lt h.2 (by show (1048576 : Int) < 128 ^ 9; decide)⟩
theorem makeM_b (ns gs : List Int) {l : List Vl} (hl : ∀ v ∈ l, I64 v.n) : MtB (makeM ns gs l) := by
 have hg := makeM_g ns gs hl
 have h4 : (gs.take 4).length ≤ 4 := by rw [List.length_take]; omega
 refine ⟨make_ok ns, fun f hf => by
  obtain ⟨h1, h2, h3, h4⟩ := make_sb ns f hf
  exact ⟨⟨h1.1, by omega⟩, ⟨h2.1, by omega⟩, h3.1, by omega⟩, num20_ok hg.n, by have := hg.len; omega, fun r hr => ?_⟩
 have hr2 := hg.groups r hr
 refine ⟨num20_ok hr2.n, ?_, fun c hc => ?_⟩
 ·rw [hr2.len]; exact Nat.le_of_eq (List.length_map ..)
 ·obtain ⟨i, hi, rfl⟩ := List.mem_iff_getElem.1 hc
  have h := hr2.chunks i hi
  rw [show r.chunks.getD i default = r.chunks[i] from by rw [List.getD_eq_getElem?_getD, List.getElem?_eq_getElem hi]; rfl] at h
  refine ⟨num20_ok h.n1, num20_ok h.n2, h.crc, ?_, fun p hp => ?_, by have := h.len; omega⟩
  ·cases hk : r.chunks[i].known with
   | false => rw [h.st0 hk]; exact ⟨Int.le_refl _, by show (0 : Int) < 128 ^ 9; decide⟩
   | true => exact num20_ok (h.nulls hk)
  ·have := h.pages p hp
   exact ⟨num20_ok this.n1, num20_ok this.n2, num20_ok this.n3, num20_ok this.n4, num20_ok this.n5, num20_ok this.n6, this.crc⟩
theorem makeM_s (ns gs : List Int) {l : List Vl} (hl : ∀ v ∈ l, I64 v.n) : MtS (makeM ns gs l) := by
 have hg := makeM_g ns gs hl
 have hb := makeM_b ns gs hl
 have h0 := make_len ns
 have hk : (leavesF (makeF ns)).length ≤ (makeF ns).length := lvOut_len_le _ _ _
 refine ⟨by show (makeF ns).length ≤ 1000000; omega, by have := hg.len; omega, fun g hgm => ⟨?_, fun c hc => ?_⟩⟩
 ·have := (hb.groups g hgm).len
  have h1 : (leavesF (makeM ns gs l).s).length ≤ (makeF ns).length := hk
  omega
 ·have := ((hb.groups g hgm).chunks c hc).len
  omega
/-! How long its bytes are -/
theorem nuB_len : ∀ l : List Int, (nuB l).length ≤ 10 * l.length
 | [] => Nat.le_refl _
 | x :: l => by
   have h1 := varB_len x.toNat
   have h2 := nuB_len l
   rw [nuB, List.length_append, List.length_cons]; omega
theorem pgsB_len : ∀ l : List Pg, (pgsB l).length ≤ 64 * l.length
 | [] => Nat.le_refl _
 | p :: l => by
   have h1 := nuB_len [p.rows, p.cells, p.enc, p.rlen, p.dlen, p.vlen]
   have h2 := pgsB_len l
   rw [pgsB, pgB, List.length_append, List.length_append, leB_len, List.length_cons]
   simp only [List.length_cons, List.length_nil] at h1
   omega
theorem vlB_len {k : Int} {v : Vl} (h : v.s.length ≤ 100) : (vlB k v).length ≤ 110 := by
 unfold vlB
 split
 ·simp
 ·split
  ·rw [leB_len]; omega
  ·split
   ·rw [leB_len]; omega
   ·have h1 := nuB_len [(v.s.length : Int)]
    rw [List.length_append]
    simp only [List.length_cons, List.length_nil] at h1
    omega
theorem vlG_len {k : Int} {v : Vl} (h : VlG k v) : v.s.length ≤ 100 := by
 rcases h with ⟨_, _, h⟩ | ⟨_, _, h⟩ | ⟨_, _, h⟩ | ⟨_, _, h⟩
 ·rw [h]; simp
 ·rw [h]; simp
 ·rw [h]; simp
 ·exact h
theorem flB_len (b : Bool) : (flB b).length = 1 := rfl
theorem ckB_len {k : Int} {c : Ck} (h : CkG k c) (h40 : c.pages.length ≤ 40) : (ckB k c).length ≤ 2836 := by
 have h1 := nuB_len [c.words, c.size]
 have h2 := nuB_len [(c.pages.length : Int)]
 have h3 := pgsB_len c.pages
 simp only [List.length_cons, List.length_nil] at h1 h2
 have h4 : (if c.known = true then stB k c.st else []).length ≤ 232 := by
  split
  ·rename_i hk
   have h5 := nuB_len [c.st.nulls]
   simp only [List.length_cons, List.length_nil] at h5
   unfold stB
   have h6 : (if c.st.has = true then vlB k c.st.mn ++ vlB k c.st.mx else []).length ≤ 220 := by
    split
    ·rename_i hh
     obtain ⟨e1, e2⟩ := h.has1 hk hh
     have := vlB_len (k := k) (vlG_len e1)
     have := vlB_len (k := k) (vlG_len e2)
     rw [List.length_append]; omega
    ·simp
   rw [List.length_append, List.length_append, flB_len]; omega
  ·simp
 unfold ckB
 simp only [List.length_append, leB_len, flB_len]
 omega
theorem cksB_len : ∀ (ks : List Int) (cs : List Ck), (∀ i, i < ks.length → i < cs.length → (ckB (ks.getD i 0) (cs.getD i default)).length ≤ 2836) → (cksB ks cs).length ≤ 2836 * cs.length
 | [], [], _ => Nat.le_refl _
 | [], _ :: _, _ => Nat.zero_le _
 | _ :: _, [], _ => Nat.le_refl _
 | k :: ks, c :: cs, h => by
   have h0 := h 0 (by simp) (by simp)
   have h1 := cksB_len ks cs fun i h1 h2 => h (i + 1) (by simpa using h1) (by simpa using h2)
   have h0 : (ckB k c).length ≤ 2836 := h0
   rw [cksB, List.length_append, List.length_cons]; omega
theorem rwsB_len (ks : List Int) (n : Nat) : ∀ l : List Rw, (∀ r ∈ l, (rwB ks r).length ≤ n) → (rwsB ks l).length ≤ n * l.length
 | [], _ => Nat.zero_le _
 | r :: l, h => by
   have h0 := h r (List.mem_cons_self ..)
   have h1 := rwsB_len ks n l fun q hq => h q (List.mem_cons_of_mem _ hq)
   rw [rwsB, List.length_append, List.length_cons, Nat.mul_add, Nat.mul_one]; omega
theorem makeM_l (ns gs : List Int) {l : List Vl} (hl : ∀ v ∈ l, I64 v.n) : (mtB (makeM ns gs l)).length ≤ 500000 := by
 have hg := makeM_g ns gs hl
 have h4 : (gs.take 4).length ≤ 4 := by rw [List.length_take]; omega
 have h0 := make_len ns
 have hk : (leavesF (makeF ns)).length ≤ (makeF ns).length := lvOut_len_le _ _ _
 have hk2 : (kindsF (makeF ns)).length = (leavesF (makeF ns)).length := List.length_map ..
 have hr : (rwsB (kindsF (makeF ns)) (makeM ns gs l).groups).length ≤ 113460 * (makeM ns gs l).groups.length := by
  refine rwsB_len _ _ _ fun r hr => ?_
  obtain ⟨g, a, rfl⟩ := groupsM_mem _ _ _ _ r hr
  have h1 := nuB_len [nM g]
  simp only [List.length_cons, List.length_nil] at h1
  have h2 := cksB_len (kindsF (makeF ns)) (chunksM g l (kindsF (makeF ns)) 0 a).1 fun i h1 h2 => ckB_len (chunksM_n g hl _ 0 a i h1).g (chunksM_n g hl _ 0 a i h1).m.len
  rw [chunksM_len] at h2
  rw [rwB, List.length_append]
  show (nuB [nM g]).length + (cksB (kindsF (makeF ns)) (chunksM g l (kindsF (makeF ns)) 0 a).1).length ≤ _
  omega
 have hgl : (makeM ns gs l).groups.length ≤ 4 := by show (groupsM _ _ _ _).1.length ≤ 4; rw [groupsM_len]; omega
 have h1 := nuB_len [((sbF (makeM ns gs l).s).length : Int)]
 have h2 := make_sbl ns
 have h3 := nuB_len [(makeM ns gs l).n, ((makeM ns gs l).groups.length : Int)]
 simp only [List.length_cons, List.length_nil] at h1 h3
 have h5 : (sbF (makeM ns gs l).s).length ≤ 600 := h2
 have hr : (rwsB (kindsF (makeM ns gs l).s) (makeM ns gs l).groups).length ≤ 113460 * (makeM ns gs l).groups.length := hr
 unfold mtB
 simp only [List.length_append]
 omega
end Go.Proofs.Ytajieadpaeggcaa

end
section
set_option linter.unusedVariables false
set_option linter.unusedSimpArgs false
namespace Go.Proofs.Ytajieadpaeggcaa
open Go Go.Av
set_option maxRecDepth 100000
set_option maxHeartbeats 4000000
end Go.Proofs.Ytajieadpaeggcaa

end
section
set_option linter.unusedVariables false
set_option linter.unusedSimpArgs false
namespace Go.Proofs.Ytajieadpaeggcaa
open Go Go.Av
set_option maxRecDepth 100000
set_option maxHeartbeats 4000000
/-! A value -/
end Go.Proofs.Ytajieadpaeggcaa

end
section
set_option linter.unusedVariables false
set_option linter.unusedSimpArgs false
namespace Go.Proofs.Ytajieadpaeggcaa
open Go Go.Av
set_option maxRecDepth 100000
set_option maxHeartbeats 4000000
end Go.Proofs.Ytajieadpaeggcaa

end
section
set_option linter.unusedVariables false
set_option linter.unusedSimpArgs false
namespace Go.Proofs.Ytajieadpaeggcaa
open Go Go.Av
set_option maxRecDepth 100000
set_option maxHeartbeats 4000000
end Go.Proofs.Ytajieadpaeggcaa

end
section
set_option linter.unusedVariables false
set_option linter.unusedSimpArgs false
namespace Go.Proofs.Ytajieadpaeggcaa
open Go Go.Av
set_option maxRecDepth 100000
set_option maxHeartbeats 4000000
end Go.Proofs.Ytajieadpaeggcaa

end
section
set_option linter.unusedVariables false
set_option linter.unusedSimpArgs false
namespace Go.Proofs.Ytajieadpaeggcaa
open Go Go.Av
set_option maxRecDepth 100000
set_option maxHeartbeats 4000000
theorem rFs_t [Syms] (a b : List Fd) (hl : a.length ≤ 1000000) : fnT noneT noneT (fnTab fns) (tyTab tys) (plTab plt) 100 37 [vF a, vF b] [] 0 (fun v H _ => v = .bool (lsEq fdEq a b) ∧ H = []) := by
 by_cases h0 : a.length = b.length
 ·repeat' (first | (refine And.intro ?_ ?_) | (intro h; try first | exact dzq | replace h := cvq))
  all_goals (try exact czq)
  refine ⟨fun m s => ∃ i : Nat, (i ≤ a.length ∧ m = a.length - i ∧ lsEq fdEq a b = lsEq fdEq (a.drop i) (b.drop i)) ∧ s = ⟨[(0, vF a), (1, vF b), (5, .int .i64 i)], [], 0⟩, ⟨_, ⟨[(0, vF a), (1, vF b), (5, .int .i64 (0 : Nat))], [], 0⟩, reb_num [] rfl ⟨.refl _, .refl _, .refl _, trivial⟩ trivial, 0, ⟨by omega, rfl, rfl⟩, rfl⟩, ?_⟩
  rintro m s ⟨i, ⟨hi, rfl, he⟩, rfl⟩
  by_cases h1 : i < a.length
  ·have hd := lsEq_drop (l := a) (m := b) fdEq h1 (by omega)
   rw [← he] at hd
   cases hq : fdEq (a.getD i default) (b.getD i default)
   ·rw [hq, Bool.false_and] at hd
    have hx1 : (eqb (a.getD i default).name (b.getD i default).name && (decide ((a.getD i default).rep = (b.getD i default).rep) && (decide ((a.getD i default).kind = (b.getD i default).kind) && (decide ((a.getD i default).kids = (b.getD i default).kids) && true)))) = false := hq
    have hx2 := hx1
    have hx3 := hx1
    have hx4 := hx1
    rw [hd]
    repeat' (first | (refine And.intro ?_ ?_) | (intro h; try first | exact dzqi | replace h := cvqi))
    all_goals (try exact czq)
    all_goals first | exact ⟨_, reb_flat [4] rfl, _, rfl, rfl, rfl⟩ | skip
   ·rw [hq, Bool.true_and] at hd
    have hx1 : (eqb (a.getD i default).name (b.getD i default).name && (decide ((a.getD i default).rep = (b.getD i default).rep) && (decide ((a.getD i default).kind = (b.getD i default).kind) && (decide ((a.getD i default).kids = (b.getD i default).kids) && true)))) = true := hq
    have hx2 := hx1
    have hx3 := hx1
    have hx4 := hx1
    repeat' (first | (refine And.intro ?_ ?_) | (intro h; try first | exact dzqi | replace h := cvqi))
    all_goals (try exact czq)
    all_goals first | exact ⟨_, ⟨[(0, vF a), (1, vF b), (5, .int .i64 ((i + 1 : Nat) : Int))], [], 0⟩, reb_num [] rfl ⟨.refl _, .refl _, wk_int (by omega), trivial⟩ trivial, ⟨i + 1, ⟨by omega, rfl, hd⟩, rfl⟩, by omega⟩ | skip
  ·obtain rfl : i = a.length := by omega
   rw [he, lsEq_end _ h0]
   repeat' (first | (refine And.intro ?_ ?_) | (intro h; try first | exact dzq | replace h := cvq))
   all_goals (try exact czq)
   exact ⟨_, reb_flat [4] rfl, _, rfl, rfl, rfl⟩
 ·rw [lsEq_len _ h0]
  repeat' (first | (refine And.intro ?_ ?_) | (intro h; try first | exact dzq | replace h := cvq))
  all_goals (try exact czq)
  exact ⟨_, reb_flat [4] rfl, _, rfl, rfl, rfl⟩
theorem rFs_ok [Syms] : ImmOk Try.prog 37 S_eqFs := by
 rintro args K ⟨a, b, rfl, h, hk⟩
 exact ⟨rfl, _, rfl, hk, fnI tys_ok fns_ok noneT_det noneT_ok mixed (rFs_t a b h)⟩
/-! Chunks -/
noncomputable def plRm : Nat → Nat → Pl := plAdd [(38, 0), (17, 0), (17, 6)] (plTab plt)
abbrev ckT (c : Ck) : List AVal := [.int .i64 c.words, .int .i64 c.size, .int .u32 c.crc, vP c.pages, .bool c.known, .int .i64 c.st.nulls, .bool c.st.has, .int .i64 c.st.mn.n, .str c.st.mn.s, .int .i64 c.st.mx.n, .str c.st.mx.s]
def rsmS (ra rb : List AVal) : St := ⟨[(2, .ptr 0 0 0), (3, .ptr 2 0 0)], [(0, some (.cells [ra] false)), (2, some (.cells [rb] false))], 3⟩
def rsmI (ra rb : List AVal) (i : Nat) : St := ⟨[(2, .ptr 0 0 0), (3, .ptr 2 0 0), (5, .int .i64 i)], [(0, some (.cells [ra] false)), (2, some (.cells [rb] false))], 3⟩
theorem up3 [Syms] {na N : Nat} {e : Env} {H : Heap} {nx nx' : Nat} (h : nx ≤ nx') : Reb na N ⟨e, H, nx⟩ ⟨e, H, nx'⟩ :=
 ⟨fun x => Nat.le_trans x h, fun ι a w hS => ⟨ι, ⟨hS.defers, hS.size, hS.env, hS.heap, fun n L hn => ⟨Nat.lt_of_lt_of_le (hS.bound n L hn).1 h, (hS.bound n L hn).2⟩⟩, .refl ..⟩⟩
theorem rsm_reb [Syms] {N : Nat} {e : Env} {H : Heap} {ra rb ra' rb' : List AVal} (h2 : e.get 2 = .ptr 0 0 0) (h3 : e.get 3 = .ptr 1 0 0) (H0 : H.get 0 = some (.cells [ra'] false)) (H1 : H.get 1 = some (.cells [rb'] false)) (ha : WkVs ra' ra) (hb : WkVs rb' rb) (fa : ∀ x ∈ ra, x.flat = true) (fb : ∀ x ∈ rb, x.flat = true) : Reb 0 N ⟨e, H, 2⟩ (rsmS ra rb) :=
 (up3 (nx' := 3) (by decide)).trans (reb_num [0, 2, 1] (by exact rfl) ⟨by rw [h2]; exact .refl _, by rw [h3]; exact .refl _, trivial⟩ ⟨⟨by decide, _, H0, wkB_row ha fa⟩, ⟨by decide, _, H1, wkB_row hb fb⟩, trivial⟩)
theorem rsmI_reb [Syms] {N nx : Nat} {e : Env} {H : Heap} {i : Nat} {z : Int} {ra rb : List AVal} (h2 : e.get 2 = .ptr 0 0 0) (h3 : e.get 3 = .ptr 2 0 0) (h5 : e.get 5 = .int .i64 z) (hz : z = i) (H0 : H.get 0 = some (.cells [ra] false)) (H2 : H.get 2 = some (.cells [rb] false)) (fa : ∀ x ∈ ra, x.flat = true) (fb : ∀ x ∈ rb, x.flat = true) (hn : NumsOk 0 nx [0, 1, 2] = true) : Reb 0 N ⟨e, H, nx⟩ (rsmI ra rb i) := by
 subst hz
 exact reb_num [0, 1, 2] hn ⟨by rw [h2]; exact .refl _, by rw [h3]; exact .refl _, by rw [h5]; exact .refl _, trivial⟩ ⟨⟨by decide, _, H0, wkB_same (flat_cons fa flat_nil)⟩, ⟨by decide, _, H2, wkB_same (flat_cons fb flat_nil)⟩, trivial⟩
theorem fCt (c : Ck) : ∀ x ∈ ckT c, x.flat = true := fun x hx => by simp at hx; rcases hx with rfl | rfl | rfl | rfl | rfl | rfl | rfl | rfl | rfl | rfl | rfl <;> rfl
theorem rck_t [Syms] (a b : Ck) (hl : a.pages.length ≤ 1000000) : fnT noneT noneT (fnTab fns) (tyTab tys) plRm 100 38 [.agg (encC a), .agg (encC b)] [] 0 (fun v H _ => v = .bool (ckEq a b) ∧ H = []) := by
 repeat' (first | (refine And.intro ?_ ?_) | (intro h; try first | exact dzq | replace h := cvq))
 all_goals (try exact cz)
 refine ⟨rsmS (ckT a) (ckT b), rsm_reb rfl rfl rfl rfl ⟨.refl _, .refl _, .refl _, .tab rfl, .refl _, .refl _, .refl _, .refl _, .refl _, .refl _, .refl _, trivial⟩ ⟨.refl _, .refl _, .refl _, .tab rfl, .refl _, .refl _, .refl _, .refl _, .refl _, .refl _, .refl _, trivial⟩ (fCt a) (fCt b), ?_⟩
 have hq : ckEq a b = (decide (a.words = b.words) && decide (a.size = b.size) && decide (a.crc = b.crc) && lsEq pgEq a.pages b.pages && decide (a.known = b.known) && stEq a.st b.st) := rfl
 rw [hq]
 clear hq
 by_cases h1 : a.words = b.words
 case neg =>
  repeat' (first | (refine And.intro ?_ ?_) | (intro h; try first | exact dzq | replace h := cvq))
  all_goals (try exact czq)
  all_goals exact ⟨_, reb_flat [4] rfl, _, rfl, congrArg AVal.bool (by simp [*]), rfl⟩
 by_cases h2 : a.size = b.size
 case neg =>
  repeat' (first | (refine And.intro ?_ ?_) | (intro h; try first | exact dzq | replace h := cvq))
  all_goals (try exact czq)
  all_goals exact ⟨_, reb_flat [4] rfl, _, rfl, congrArg AVal.bool (by simp [*]), rfl⟩
 by_cases h3 : a.crc = b.crc
 case neg =>
  repeat' (first | (refine And.intro ?_ ?_) | (intro h; try first | exact dzq | replace h := cvq))
  all_goals (try exact czq)
  all_goals exact ⟨_, reb_flat [4] rfl, _, rfl, congrArg AVal.bool (by simp [*]), rfl⟩
 by_cases h4 : a.pages.length = b.pages.length
 case neg =>
  have h5 := lsEq_len pgEq h4
  repeat' (first | (refine And.intro ?_ ?_) | (intro h; try first | exact dzq | replace h := cvq))
  all_goals (try exact czq)
  all_goals exact ⟨_, reb_flat [4] rfl, _, rfl, congrArg AVal.bool (by simp [*]), rfl⟩
 by_cases h5 : a.known = b.known
 case neg =>
  have hx1 : (a.known = b.known) = False := eq_false h5
  have hx2 := hx1
  have hx3 := hx1
  have hx4 := hx1
  repeat' (first | (refine And.intro ?_ ?_) | (intro h; try first | exact dzqi | replace h := cvqi))
  all_goals (try exact czq)
  all_goals exact ⟨_, reb_flat [4] rfl, _, rfl, congrArg AVal.bool (by simp [*]), rfl⟩
 have hx1 : (a.known = b.known) = True := eq_true h5
 have hq : stEq a.st b.st = (decide (a.st.nulls = b.st.nulls) && true && (decide (a.st.has = b.st.has) && true && (decide (a.st.mn.n = b.st.mn.n) && (eqb a.st.mn.s b.st.mn.s && true) && (decide (a.st.mx.n = b.st.mx.n) && (eqb a.st.mx.s b.st.mx.s && true) && true)))) := rfl
 rw [decide_eq_true h1, decide_eq_true h2, decide_eq_true h3, decide_eq_true h5]
 cases h6 : stEq a.st b.st
 ·have hx2 := hq.symm.trans h6
  have hx3 := hx2
  have hx4 := hx2
  rw [Bool.and_false]
  clear hq
  repeat' (first | (refine And.intro ?_ ?_) | (intro h; try first | exact dzqi | replace h := cvqi))
  all_goals (try exact czq)
  all_goals first | exact absurd h5 (by assumption) | exact absurd (hx2.symm.trans (by assumption)) (by decide) | exact ⟨_, reb_flat [4] rfl, _, rfl, rfl, rfl⟩
 ·have hx2 := hq.symm.trans h6
  have hx3 := hx2
  have hx4 := hx2
  rw [Bool.and_true, Bool.and_true]
  clear hq
  repeat' (first | (refine And.intro ?_ ?_) | (intro h; try first | exact dzqi | replace h := cvqi))
  all_goals (try exact czq)
  all_goals first | exact absurd h5 (by assumption) | exact absurd (hx2.symm.trans (by assumption)) (by decide) | skip
  refine ⟨fun m s => ∃ i : Nat, (i ≤ a.pages.length ∧ m = a.pages.length - i ∧ lsEq pgEq a.pages b.pages = lsEq pgEq (a.pages.drop i) (b.pages.drop i)) ∧ s = rsmI (ckT a) (ckT b) i, ⟨_, rsmI (ckT a) (ckT b) 0, rsmI_reb rfl rfl rfl rfl rfl rfl (fCt a) (fCt b) (by exact rfl), 0, ⟨by omega, rfl, rfl⟩, rfl⟩, ?_⟩
  rintro m s ⟨i, ⟨hi, rfl, he⟩, rfl⟩
  clear hx1 hx2 hx3 hx4
  by_cases hj : i < a.pages.length
  ·have hd := lsEq_drop (l := a.pages) (m := b.pages) pgEq hj (by omega)
   rw [← he] at hd
   cases hq : pgEq (a.pages.getD i default) (b.pages.getD i default)
   ·rw [hq, Bool.false_and] at hd
    have hx1 : (decide ((a.pages.getD i default).rows = (b.pages.getD i default).rows) && (decide ((a.pages.getD i default).cells = (b.pages.getD i default).cells) && (decide ((a.pages.getD i default).enc = (b.pages.getD i default).enc) && (decide ((a.pages.getD i default).rlen = (b.pages.getD i default).rlen) && (decide ((a.pages.getD i default).dlen = (b.pages.getD i default).dlen) && (decide ((a.pages.getD i default).vlen = (b.pages.getD i default).vlen) && (decide ((a.pages.getD i default).crc = (b.pages.getD i default).crc) && true))))))) = false := hq
    have hx2 := hx1
    have hx3 := hx1
    have hx4 := hx1
    rw [hd]
    repeat' (first | (refine And.intro ?_ ?_) | (intro h; try first | exact dzqi | replace h := cvqi))
    all_goals (try exact czq)
    all_goals first | exact ⟨_, reb_flat [4] rfl, _, rfl, rfl, rfl⟩ | skip
   ·rw [hq, Bool.true_and] at hd
    have hx1 : (decide ((a.pages.getD i default).rows = (b.pages.getD i default).rows) && (decide ((a.pages.getD i default).cells = (b.pages.getD i default).cells) && (decide ((a.pages.getD i default).enc = (b.pages.getD i default).enc) && (decide ((a.pages.getD i default).rlen = (b.pages.getD i default).rlen) && (decide ((a.pages.getD i default).dlen = (b.pages.getD i default).dlen) && (decide ((a.pages.getD i default).vlen = (b.pages.getD i default).vlen) && (decide ((a.pages.getD i default).crc = (b.pages.getD i default).crc) && true))))))) = true := hq
    have hx2 := hx1
    have hx3 := hx1
    have hx4 := hx1
    repeat' (first | (refine And.intro ?_ ?_) | (intro h; try first | exact dzqi | replace h := cvqi))
    all_goals (try exact czq)
    all_goals exact ⟨_, rsmI (ckT a) (ckT b) (i + 1), rsmI_reb rfl rfl rfl (by omega) rfl rfl (fCt a) (fCt b) (by kernel_rfl), ⟨i + 1, ⟨by omega, rfl, hd⟩, rfl⟩, by omega⟩
  ·obtain rfl : i = a.pages.length := by omega
   rw [he, lsEq_end _ h4]
   repeat' (first | (refine And.intro ?_ ?_) | (intro h; try first | exact dzq | replace h := cvq))
   all_goals (try exact czq)
   exact ⟨_, reb_flat [4] rfl, _, rfl, rfl, rfl⟩
theorem rck_ok [Syms] : ImmOk Try.prog 38 S_ckSame := by
 rintro args K ⟨a, b, rfl, h, hk⟩
 exact ⟨rfl, _, rfl, hk, fnI tys_ok fns_ok noneT_det noneT_ok mixed (rck_t a b h)⟩
/-! Descriptions -/
abbrev cRm : CallT := pickT 37 (immT (seeW S_eqFs)) (pickT 38 (immT S_ckSame) noneT)
theorem cRm_det [Syms] : cRm.det Try.prog := pickT_imm rFs_ok.seeW (pickT_imm rck_ok noneT_det)
/-- Two boxes that are written no more. -/
theorem two_fz [Syms] {N k2 k3 n0 n1 nx : Nat} {es : Env} {e : Env} {H : Heap} {ra rb ra' rb' : List AVal} (hk : k3 ≠ k2) (h2 : e.get k2 = .ptr n0 0 0) (h3 : e.get k3 = .ptr n1 0 0) (hne : n1 ≠ n0) (H0 : H.get n0 = some (.cells [ra'] false)) (H1 : H.get n1 = some (.cells [rb'] false)) (ha : SeeL ra' ra) (hb : SeeL rb' rb) (fa : ∀ x ∈ ra', x.flat = true) (fb : ∀ x ∈ rb', x.flat = true) (e1 : FzE n0 [ra'] e es) (e2 : FzE n1 [rb'] ((k2, .vp ra 0) :: (k3, .ptr n1 0 0) :: es) es) : Reb 0 N ⟨e, H, nx⟩ ⟨(k2, .vp ra 0) :: (k3, .vp rb 0) :: es, [], nx⟩ := by
 have r1 : Reb 0 N ⟨e, H, nx⟩ ⟨(k2, .vp ra 0) :: (k3, .ptr n1 0 0) :: es, [(n1, some (.cells [rb'] false))], nx⟩ := by
  refine reb_freezeG (n := n0) (rows := [ra']) H0 (flat_cons fa flat_nil) ⟨?_, ?_, e1⟩ ⟨⟨hne, _, H1, .same _⟩, trivial⟩
  ·rw [h2]; exact .pt 0 0 ra' ra rfl ha
  ·rw [h3]; exact .same _
 refine r1.trans (reb_freezeG (n := n1) (rows := [rb']) ?_ (flat_cons fb flat_nil) ⟨?_, ?_, e2⟩ trivial)
 ·rw [Heap.get_cons, Nat.beq_refl]; rfl
 ·rw [Env.get_cons, Nat.beq_refl]; exact .same _
 ·rw [Env.get_cons, beq_ff hk, Env.get_cons, Nat.beq_refl]; exact .pt 0 0 rb' rb rfl hb
theorem sqm : (∀ m, (encM m).getD 0 .any = .vs 4 (m.s.map encF)) ∧ (∀ m, (encM m).getD 1 .any = .int .i64 m.n) ∧ (∀ m, (encM m).getD 2 .any = .vs 2 (m.groups.map encR)) ∧ (∀ m, (encM m).getD (0 + 0) .any = .vs 4 (m.s.map encF)) ∧ (∀ m, (encM m).getD (0 + 1) .any = .int .i64 m.n) ∧ (∀ m, (encM m).getD (0 + 2) .any = .vs 2 (m.groups.map encR)) ∧ (∀ l : List Rw, (l.map encR).length = l.length) ∧ (∀ l : List Ck, (l.map encC).length = l.length) :=
 ⟨fun _ => rfl, fun _ => rfl, fun _ => rfl, fun _ => rfl, fun _ => rfl, fun _ => rfl, fun _ => List.length_map .., fun _ => List.length_map ..⟩
def rmS (a b : Mt) : St := ⟨[(2, .vp (encM a) 0), (3, .vp (encM b) 0)], [], 2⟩
def rmI (a b : Mt) (i : Nat) : St := ⟨[(2, .vp (encM a) 0), (3, .vp (encM b) 0), (5, .int .i64 i)], [], 0⟩
def rmG (a b : Mt) (i : Nat) (g h : Rw) : St := ⟨[(6, .vp (encR g) 0), (7, .vp (encR h) 0), (2, .vp (encM a) 0), (3, .vp (encM b) 0), (5, .int .i64 i)], [], 0⟩
def rmJ (a b : Mt) (i : Nat) (g h : Rw) (j : Nat) : St := ⟨[(6, .vp (encR g) 0), (7, .vp (encR h) 0), (2, .vp (encM a) 0), (3, .vp (encM b) 0), (5, .int .i64 i), (8, .int .i64 j)], [], 0⟩
theorem rmt_t [Syms] (a b : Mt) (hms : MtS a) : fnT cRm cRm (fnTab fns) (tyTab tys) plRm 100 17 [.agg (encM a), .agg (encM b)] [] 0 (fun v H _ => v = .bool (mtEq a b) ∧ H = []) := by
 repeat' (first | (refine And.intro ?_ ?_) | (intro h; try first | exact dzq | replace h := cvq))
 all_goals (try exact cz)
 refine ⟨rmS a b, two_fz (ra' := encM a) (rb' := encM b) (n0 := 0) (n1 := 1) (by decide) rfl rfl (by decide) rfl rfl ⟨.same _, .same _, .same _, trivial⟩ ⟨.same _, .same _, .same _, trivial⟩ (eM a) (eM b) trivial trivial, ?_⟩
 have hq : mtEq a b = (lsEq fdEq a.s b.s && decide (a.n = b.n) && lsEq rwEq a.groups b.groups) := rfl
 rw [hq]
 clear hq
 obtain ⟨hs1, hs2, hs3⟩ := hms
 have hx1 := sqm
 have hx2 := hx1
 have hx3 := hx1
 have hx4 := hx1
 repeat' (first | (refine And.intro ?_ ?_) | (intro h; try first | exact dzqi | replace h := cvqi))
 all_goals (try exact czq)
 refine ⟨[vF a.s, vF b.s], ⟨.tab rfl, .tab rfl, trivial⟩, a.s, b.s, rfl, hs1, ?_⟩
 have hga : (a.groups.map encR).length = a.groups.length := List.length_map ..
 have hgb : (b.groups.map encR).length = b.groups.length := List.length_map ..
 cases h1 : lsEq fdEq a.s b.s
 ·rw [Bool.false_and, Bool.false_and]
  repeat' (first | (refine And.intro ?_ ?_) | (intro h; try first | exact dzqi | replace h := cvqi))
  all_goals (try exact czq)
  all_goals exact ⟨_, reb_flat [4] rfl, _, rfl, rfl, rfl⟩
 rw [Bool.true_and]
 by_cases h2 : a.n = b.n
 case neg =>
  rw [decide_eq_false h2, Bool.false_and]
  repeat' (first | (refine And.intro ?_ ?_) | (intro h; try first | exact dzqi | replace h := cvqi))
  all_goals (try exact czq)
  all_goals exact ⟨_, reb_flat [4] rfl, _, rfl, rfl, rfl⟩
 rw [decide_eq_true h2, Bool.true_and]
 by_cases h3 : a.groups.length = b.groups.length
 case neg =>
  rw [lsEq_len rwEq h3]
  repeat' (first | (refine And.intro ?_ ?_) | (intro h; try first | exact dzqi | replace h := cvqi))
  all_goals (try exact czq)
  all_goals exact ⟨_, reb_flat [4] rfl, _, rfl, rfl, rfl⟩
 repeat' (first | (refine And.intro ?_ ?_) | (intro h; try first | exact dzqi | replace h := cvqi))
 all_goals (try exact czq)
 refine ⟨fun m s => ∃ i : Nat, (i ≤ a.groups.length ∧ m = a.groups.length - i ∧ lsEq rwEq a.groups b.groups = lsEq rwEq (a.groups.drop i) (b.groups.drop i)) ∧ s = rmI a b i, ⟨_, rmI a b 0, reb_flat [2, 3, 5] rfl, 0, ⟨by omega, rfl, rfl⟩, rfl⟩, ?_⟩
 rintro m s ⟨i, ⟨hi, rfl, he⟩, rfl⟩
 by_cases hj : i < a.groups.length
 ·have hd := lsEq_drop (l := a.groups) (m := b.groups) rwEq hj (by omega)
  rw [← he] at hd
  repeat' (first | (refine And.intro ?_ ?_) | (intro h; try first | exact dzqi | replace h := cvqi))
  all_goals (try exact czq)
  refine ⟨rmG a b i (a.groups.getD i default) (b.groups.getD i default), ?_, ?_⟩
  ·have hra : (asR ((encM a).getD (0 + 2) .any)).getD ((i : Nat) : Int).toNat [] = encR (a.groups.getD i default) := by rw [Int.toNat_natCast]; exact row_at encR default hj
   have hrb : (asR ((encM b).getD (0 + 2) .any)).getD ((i : Nat) : Int).toNat [] = encR (b.groups.getD i default) := by rw [Int.toNat_natCast]; exact row_at encR default (by omega)
   repeat' (first | (refine And.intro ?_ ?_) | (intro h; try first | exact dzqi | replace h := cvqi))
   all_goals (try exact czq)
   all_goals (try ((with_reducible show (_ : Int) < _); first | (show ((i : Nat) : Int) < (((a.groups.map encR).length : Nat) : Int); omega) | (show ((i : Nat) : Int) < (((b.groups.map encR).length : Nat) : Int); omega)))
   all_goals (try first | (rw [hra]; rfl) | (rw [hrb]; rfl))
   all_goals refine Exists.intro () ?_
   all_goals first
    | refine (two_fz (k2 := 6) (k3 := 7) (es := [(2, .vp (encM a) 0), (3, .vp (encM b) 0), (5, .int .i64 i)]) (ra := encR (a.groups.getD i default)) (rb := encR (b.groups.getD i default)) (n0 := 0) (n1 := 1) (ra' := encR (a.groups.getD i default)) (rb' := encR (b.groups.getD i default)) (by decide) rfl rfl (by decide) (by simp only [hra]; rfl) (by simp only [hrb]; rfl) ⟨.same _, .same _, trivial⟩ ⟨.same _, .same _, trivial⟩ (eR _) (eR _) (by exact ⟨.same _, .same _, .same _, trivial⟩) (by exact ⟨.same _, .same _, .same _, trivial⟩)).trans (reb_flat [6, 7, 2, 3, 5] (by rfl))
    | refine (two_fz (k2 := 6) (k3 := 7) (es := [(2, .vp (encM a) 0), (3, .vp (encM b) 0), (5, .int .i64 i)]) (ra := encR (a.groups.getD i default)) (rb := encR (b.groups.getD i default)) (n0 := 1) (n1 := 0) (ra' := encR (a.groups.getD i default)) (rb' := encR (b.groups.getD i default)) (by decide) rfl rfl (by decide) (by simp only [hra]; rfl) (by simp only [hrb]; rfl) ⟨.same _, .same _, trivial⟩ ⟨.same _, .same _, trivial⟩ (eR _) (eR _) (by exact ⟨.same _, .same _, .same _, trivial⟩) (by exact ⟨.same _, .same _, .same _, trivial⟩)).trans (reb_flat [6, 7, 2, 3, 5] (by rfl))
  ·have hsg : RwS (a.groups.getD i default) := by
    rw [List.getD_eq_getElem?_getD, List.getElem?_eq_getElem hj]; exact hs3 _ (List.getElem_mem hj)
   have hgl9 := hsg.1
   generalize a.groups.getD i default = g at *
   generalize b.groups.getD i default = h' at *
   have hq : rwEq g h' = (decide (g.n = h'.n) && lsEq ckEq g.chunks h'.chunks) := rfl
   rw [hq] at hd
   clear hq
   have hca : (g.chunks.map encC).length = g.chunks.length := List.length_map ..
   have hcb : (h'.chunks.map encC).length = h'.chunks.length := List.length_map ..
   by_cases h4 : g.n = h'.n
   case neg =>
    rw [decide_eq_false h4, Bool.false_and, Bool.false_and] at hd
    rw [hd]
    repeat' (first | (refine And.intro ?_ ?_) | (intro h; try first | exact dzqi | replace h := cvqi))
    all_goals (try exact czq)
    all_goals exact ⟨_, reb_flat [4] rfl, _, rfl, rfl, rfl⟩
   rw [decide_eq_true h4, Bool.true_and] at hd
   by_cases h5 : g.chunks.length = h'.chunks.length
   case neg =>
    rw [lsEq_len ckEq h5, Bool.false_and] at hd
    rw [hd]
    repeat' (first | (refine And.intro ?_ ?_) | (intro h; try first | exact dzqi | replace h := cvqi))
    all_goals (try exact czq)
    all_goals exact ⟨_, reb_flat [4] rfl, _, rfl, rfl, rfl⟩
   repeat' (first | (refine And.intro ?_ ?_) | (intro h; try first | exact dzqi | replace h := cvqi))
   all_goals (try exact czq)
   refine ⟨fun m s => ∃ j : Nat, (j ≤ g.chunks.length ∧ m = g.chunks.length - j ∧ lsEq ckEq g.chunks h'.chunks = lsEq ckEq (g.chunks.drop j) (h'.chunks.drop j)) ∧ s = rmJ a b i g h' j, ⟨_, rmJ a b i g h' 0, reb_flat [6, 7, 2, 3, 5, 8] rfl, 0, ⟨by omega, rfl, rfl⟩, rfl⟩, ?_⟩
   rintro m s ⟨j, ⟨hjj, rfl, he2⟩, rfl⟩
   by_cases h6 : j < g.chunks.length
   ·have hd2 := lsEq_drop (l := g.chunks) (m := h'.chunks) ckEq h6 (by omega)
    rw [← he2] at hd2
    have hra : (asR ((encR g).getD (0 + 1) .any)).getD ((j : Nat) : Int).toNat [] = encC (g.chunks.getD j default) := by rw [Int.toNat_natCast]; exact row_at encC default h6
    have hrb : (asR ((encR h').getD (0 + 1) .any)).getD ((j : Nat) : Int).toNat [] = encC (h'.chunks.getD j default) := by rw [Int.toNat_natCast]; exact row_at encC default (by omega)
    have hcp : (g.chunks.getD j default).pages.length ≤ 1000000 := by
     rw [List.getD_eq_getElem?_getD, List.getElem?_eq_getElem h6]; exact hsg.2 _ (List.getElem_mem h6)
    repeat' (first | (refine And.intro ?_ ?_) | (intro h; try first | exact dzqi | replace h := cvqi))
    all_goals (try exact czq)
    all_goals (try ((with_reducible show (_ : Int) < _); first | (show ((j : Nat) : Int) < (((g.chunks.map encC).length : Nat) : Int); omega) | (show ((j : Nat) : Int) < (((h'.chunks.map encC).length : Nat) : Int); omega)))
    all_goals (try first | (rw [hra]; rfl) | (rw [hrb]; rfl))
    refine ⟨g.chunks.getD j default, h'.chunks.getD j default, by simp only [hra, hrb]; rfl, hcp, ?_⟩
    cases hk : ckEq (g.chunks.getD j default) (h'.chunks.getD j default)
    ·rw [hk, Bool.false_and] at hd2
     rw [hd2, Bool.false_and] at hd
     rw [hd]
     repeat' (first | (refine And.intro ?_ ?_) | (intro h; try first | exact dzqi | replace h := cvqi))
     all_goals (try exact czq)
     all_goals exact ⟨_, reb_flat [4] rfl, _, rfl, rfl, rfl⟩
    ·rw [hk, Bool.true_and] at hd2
     repeat' (first | (refine And.intro ?_ ?_) | (intro h; try first | exact dzqi | replace h := cvqi))
     all_goals (try exact czq)
     all_goals exact ⟨g.chunks.length - (j + 1), rmJ a b i g h' (j + 1), reb_num [] (by kernel_rfl) ⟨.refl _, .refl _, .refl _, .refl _, .refl _, wk_int (by omega), trivial⟩ trivial, ⟨j + 1, ⟨by omega, rfl, hd2⟩, rfl⟩, by omega⟩
   ·obtain rfl : j = g.chunks.length := by omega
    rw [he2, lsEq_end _ h5, Bool.true_and] at hd
    repeat' (first | (refine And.intro ?_ ?_) | (intro h; try first | exact dzqi | replace h := cvqi))
    all_goals (try exact czq)
    exact ⟨a.groups.length - (i + 1), rmI a b (i + 1), reb_num [] (by exact rfl) ⟨.refl _, .refl _, wk_int (by omega), trivial⟩ trivial, ⟨i + 1, ⟨by omega, rfl, hd⟩, rfl⟩, by omega⟩
 ·obtain rfl : i = a.groups.length := by omega
  rw [he, lsEq_end _ h3]
  repeat' (first | (refine And.intro ?_ ?_) | (intro h; try first | exact dzqi | replace h := cvqi))
  all_goals (try exact czq)
  exact ⟨_, reb_flat [4] rfl, _, rfl, rfl, rfl⟩
theorem rmt_ok [Syms] : ImmOk Try.prog 17 S_mtSame := by
 rintro args K ⟨a, b, rfl, h, hk⟩
 exact ⟨rfl, _, rfl, hk, fnI tys_ok fns_ok cRm_det cRm_det.ok mixed (rmt_t a b h)⟩
end Go.Proofs.Ytajieadpaeggcaa

end
section
set_option linter.unusedVariables false
set_option linter.unusedSimpArgs false
namespace Go.Proofs.Ytajieadpaeggcaa
open Go Go.Av
set_option maxRecDepth 100000
set_option maxHeartbeats 4000000
theorem bytesM (b : List UInt8) : areBytes (b.map encB) = true ∧ bytesOf (b.map encB) = b := by
 have := bytesT b
 rwa [tabR_map encB 0 b] at this
theorem seeL_refl : ∀ l : List AVal, SeeL l l
 | [] => trivial
 | a :: l => ⟨.same a, seeL_refl l⟩
end Go.Proofs.Ytajieadpaeggcaa

end
