/-
  Made descriptions, with records, may be written and read. Plain. A front of bytes that are read ends too early. Plain. No front of a file's is one, nor is it with more behind. The statement's function. The statements' arguments: numbers, bytes, values.
-/
import Derived.Test.YtajieadpaeggcaaL14
import Derived.Test.YtajieadpaeggcaaL13
import Derived.Test.YtajieadpaeggcaaSxOne
import Derived.Test.YtajieadpaeggcaaL11
set_option linter.unusedVariables false
set_option linter.unusedSimpArgs false
section
set_option linter.unusedVariables false
set_option linter.unusedSimpArgs false
namespace Go.Proofs.Ytajieadpaeggcaa
open Go Go.Av
theorem u32R (x : Int) : CrcOk (wr .u32 x) := by
 unfold CrcOk wr
 split
 ·rename_i h
  have h1 : (0 : Int) ≤ x := h.1
  have h2 : x ≤ (4294967295 : Int) := h.2
  omega
 ·show (0 : Int) ≤ (if (false && decide (x % (2 ^ 32 : Int) ≥ (2 ^ 31 : Int))) = true then x % (2 ^ 32 : Int) - (2 ^ 32 : Int) else x % (2 ^ 32 : Int)) ∧ (if (false && decide (x % (2 ^ 32 : Int) ≥ (2 ^ 31 : Int))) = true then x % (2 ^ 32 : Int) - (2 ^ 32 : Int) else x % (2 ^ 32 : Int)) < 4294967296
  simp; omega
theorem i32R (x : Int) : -2147483648 ≤ wr .i32 x ∧ wr .i32 x ≤ 2147483647 := by
 unfold wr
 split
 ·rename_i h
  have h1 : (-2147483648 : Int) ≤ x := h.1
  have h2 : x ≤ (2147483647 : Int) := h.2
  omega
 ·show (-2147483648 : Int) ≤ (if (true && decide (x % (2 ^ 32 : Int) ≥ (2 ^ 31 : Int))) = true then x % (2 ^ 32 : Int) - (2 ^ 32 : Int) else x % (2 ^ 32 : Int)) ∧ (if (true && decide (x % (2 ^ 32 : Int) ≥ (2 ^ 31 : Int))) = true then x % (2 ^ 32 : Int) - (2 ^ 32 : Int) else x % (2 ^ 32 : Int)) ≤ (2147483647 : Int)
  split <;> rename_i h3 <;> simp at h3 <;> omega
theorem pgM_g (g : Int) {r : Int} (h : 1 ≤ r ∧ r ≤ 20) : PgG (pgM g r) := by
 have h9 := wi_le (a := g) (n := 9) (by decide)
 have h2 := wi_le (a := g) (n := 2) (by decide)
 have h3 := wi_le (a := dv g 2) (n := 300) (by decide)
 have h4 := wi_le (a := dv g 5) (n := 300) (by decide)
 have h5 := wi_le (a := dv g 9) (n := 3000) (by decide)
 exact ⟨⟨by show 0 ≤ r; omega, by show r ≤ _; omega⟩, ⟨by show 0 ≤ r + wi g 9; omega, by show r + wi g 9 ≤ _; omega⟩, ⟨h2.1, by show wi g 2 ≤ _; omega⟩, ⟨h3.1, by show wi (dv g 2) 300 ≤ _; omega⟩, ⟨h4.1, by show wi (dv g 5) 300 ≤ _; omega⟩, ⟨h5.1, by show wi (dv g 9) 3000 ≤ _; omega⟩, u32R _⟩
theorem pagesM_mem (g : Int) : ∀ (f : Nat) (left : Int), ∀ p ∈ pagesM g f left, ∃ r, (1 ≤ r ∧ r ≤ 20) ∧ p = pgM g r
 | 0, _, p, h => nomatch h
 | f + 1, left, p, h => by
   rw [pagesM] at h
   split at h
   ·rename_i hl
    have := stpM_le (g := g) hl
    rcases List.mem_cons.1 h with rfl | h
    ·exact ⟨_, ⟨this.1, this.2.2⟩, rfl⟩
    ·exact pagesM_mem g f _ p h
   ·exact nomatch h
theorem pagesM_rows (g : Int) : ∀ (f : Nat) (left : Int), 0 ≤ left → left ≤ f → sumP (·.rows) (pagesM g f left) = left ∧ left ≤ sumP (·.cells) (pagesM g f left)
 | 0, left, h1, h2 => by
   have : left = 0 := by omega
   subst this; exact ⟨rfl, Int.le_refl _⟩
 | f + 1, left, h1, h2 => by
   by_cases hl : 0 < left
   ·have hs := stpM_le (g := g) hl
    obtain ⟨i1, i2⟩ := pagesM_rows g f (left - stpM g left) (by omega) (by omega)
    have h9 := wi_le (a := g) (n := 9) (by decide)
    rw [pagesM_step hl]
    refine ⟨?_, ?_⟩
    ·show stpM g left + sumP (·.rows) _ = left
     rw [i1]; omega
    ·show left ≤ stpM g left + wi g 9 + sumP (·.cells) _
     omega
   ·have : left = 0 := by omega
    subst this
    rw [pagesM_end hl]; exact ⟨rfl, Int.le_refl _⟩
theorem sumP_d2 (f : Pg → Int) (h : ∀ p, f (d2 p) = f p) : ∀ l : List Pg, sumP f (l.map d2) = sumP f l
 | [] => rfl
 | p :: l => by show f (d2 p) + sumP f (l.map d2) = _; rw [h, sumP_d2 f h l]; rfl
theorem d2_g {p : Pg} (h : PgG p) : PgG (d2 p) := ⟨h.n1, h.n2, ⟨by show (0 : Int) ≤ 2; decide, by show (2 : Int) ≤ 1048576; decide⟩, h.n4, h.n5, h.n6, h.crc⟩
/-- What a made chunk has. -/
structure CkM (g : Int) (c : Ck) : Prop where
 n1 : 0 ≤ c.words ∧ c.words ≤ 256
 n2 : 0 ≤ c.size ∧ c.size ≤ 9000
 crc : CrcOk c.crc
 len : c.pages.length ≤ 40
 pages : ∀ p ∈ c.pages, PgG p ∧ 0 < p.rows
 rows : sumP (·.rows) c.pages = nM g
 cells : nM g ≤ sumP (·.cells) c.pages
 dict : (∀ p ∈ c.pages, p.enc = 2) ∨ c.words = 0 ∧ c.size = 0
theorem chunk0_m (g : Int) (k : Nat) : CkM g (chunk0 g k) ∧ (chunk0 g k).st = default := by
 have hn := nM_le g
 have hr := pagesM_rows g 40 (nM g) (by omega) (by omega)
 have hm := pagesM_mem g 40 (nM g)
 have hl := pagesM_len g 40 (nM g)
 have h1 := wi_le (a := g) (n := 257) (by decide)
 have h2 := wi_le (a := dv g 13) (n := 9000) (by decide)
 have hg : ∀ p ∈ pagesM g 40 (nM g), PgG p ∧ 0 < p.rows := fun p hp => by
  obtain ⟨r, h, rfl⟩ := hm p hp
  exact ⟨pgM_g g h, show 0 < r by omega⟩
 unfold chunk0
 split
 ·refine ⟨⟨⟨h1.1, by show wi g 257 ≤ _; omega⟩, ⟨h2.1, by show wi (dv g 13) 9000 ≤ _; omega⟩, u32R _, by rw [List.length_map]; exact hl, fun p hp => ?_, (sumP_d2 (·.rows) (fun _ => rfl) _).trans hr.1, ?_, .inl fun p hp => ?_⟩, rfl⟩
  ·obtain ⟨q, hq, rfl⟩ := List.mem_map.1 hp
   exact ⟨d2_g (hg q hq).1, (hg q hq).2⟩
  ·show nM g ≤ sumP (·.cells) ((pagesM g 40 (nM g)).map d2)
   rw [sumP_d2 (·.cells) (fun _ => rfl)]; exact hr.2
  ·obtain ⟨q, hq, rfl⟩ := List.mem_map.1 hp; rfl
 ·exact ⟨⟨⟨Int.le_refl _, by show (0 : Int) ≤ 256; decide⟩, ⟨Int.le_refl _, by show (0 : Int) ≤ 9000; decide⟩, ⟨Int.le_refl _, by show (0 : Int) < 4294967296; decide⟩, hl, hg, hr.1, hr.2, .inr ⟨rfl, rfl⟩⟩, rfl⟩
theorem goodF_g (k : Int) {v : Vl} (h : I64 v.n) : VlG k (goodF k v) := by
 unfold goodF VlG
 split
 ·rename_i h1
  have := wi_le (a := v.n) (n := 2) (by decide)
  exact .inl ⟨h1, by show wi v.n 2 = 0 ∨ wi v.n 2 = 1; omega, rfl⟩
 ·split
  ·rename_i h1 h2; exact .inr (.inl ⟨h2, i32R _, rfl⟩)
  ·split
   ·rename_i h1 h2 h3; exact .inr (.inr (.inl ⟨h3, h, rfl⟩))
   ·rename_i h1 h2 h3; exact .inr (.inr (.inr ⟨⟨h1, h2, h3⟩, rfl, by show (v.s.take 100).length ≤ 100; rw [List.length_take]; omega⟩))
/-- A made chunk, and what is known of it. -/
structure CkN (g kd : Int) (c : Ck) : Prop where
 m : CkM g c
 st : c.st = default ∨ c.known = true ∧ (0 ≤ c.st.nulls ∧ c.st.nulls ≤ nM g) ∧ c.st.has = true ∧ c.st.mn = c.st.mx ∧ VlG kd c.st.mn
theorem chunkM_n (g : Int) (k : Nat) (kd : Int) {l : List Vl} (hl : ∀ v ∈ l, I64 v.n) (a : Nat) : CkN g kd (chunkM g k kd l a).1 := by
 have h0 := chunk0_m g k
 have hn := nM_le g
 unfold chunkM
 split
 ·rename_i h
  have hw := wi_le (a := g) (n := nM g + 1) (by omega)
  refine ⟨⟨h0.1.n1, h0.1.n2, h0.1.crc, h0.1.len, h0.1.pages, h0.1.rows, h0.1.cells, h0.1.dict⟩, .inr ⟨h.1, ⟨hw.1, by show wi g (nM g + 1) ≤ _; omega⟩, rfl, rfl, ?_⟩⟩
  refine goodF_g kd ?_
  have hm := Nat.mod_lt a h.2
  rw [List.getD_eq_getElem?_getD, List.getElem?_eq_getElem hm]
  exact hl _ (List.getElem_mem hm)
 ·exact ⟨h0.1, .inl h0.2⟩
theorem chunksM_n (g : Int) {l : List Vl} (hl : ∀ v ∈ l, I64 v.n) : ∀ (ks : List Int) (k a i : Nat), i < ks.length → CkN g (ks.getD i 0) ((chunksM g l ks k a).1.getD i default)
 | [], k, a, i, h => by simp at h
 | kd :: ks, k, a, 0, _ => chunkM_n g k kd hl a
 | kd :: ks, k, a, i + 1, h => chunksM_n g hl ks (k + 1) _ i (by simpa using h)
theorem groupsM_mem (ks : List Int) (l : List Vl) : ∀ (gs : List Int) (a : Nat), ∀ r ∈ (groupsM ks l gs a).1, ∃ g a', r = ⟨nM g, (chunksM g l ks 0 a').1⟩
 | [], a, r, h => nomatch h
 | g :: gs, a, r, h => by
   rw [groupsM] at h
   rcases List.mem_cons.1 h with rfl | h
   ·exact ⟨g, a, rfl⟩
   ·exact groupsM_mem ks l gs _ r h
theorem groupsM_len (ks : List Int) (l : List Vl) : ∀ (gs : List Int) (a : Nat), (groupsM ks l gs a).1.length = gs.length
 | [], a => rfl
 | g :: gs, a => by rw [groupsM, List.length_cons, groupsM_len ks l gs, List.length_cons]
theorem groupsM_sum (ks : List Int) (l : List Vl) : ∀ (gs : List Int) (a : Nat), (gs.length : Int) ≤ sumR (groupsM ks l gs a).1 ∧ sumR (groupsM ks l gs a).1 ≤ 40 * (gs.length : Int)
 | [], a => ⟨Int.le_refl 0, Int.le_refl 0⟩
 | g :: gs, a => by
   have ih := groupsM_sum ks l gs (chunksM g l ks 0 a).2
   have := nM_le g
   rw [groupsM, List.length_cons]
   show _ ≤ nM g + sumR _ ∧ nM g + sumR _ ≤ _
   omega
theorem CkN.g {g kd : Int} {c : Ck} (h : CkN g kd c) : CkG kd c := by
 have hn := nM_le g
 obtain ⟨hm, hs⟩ := h
 refine ⟨⟨hm.n1.1, by have := hm.n1.2; omega⟩, ⟨hm.n2.1, by have := hm.n2.2; omega⟩, hm.crc, by have := hm.len; omega, fun p hp => (hm.pages p hp).1, fun hk => ?_, fun hk => ?_, fun hk hh => ?_, fun hk hh => ?_⟩
 ·rcases hs with h | ⟨h, _⟩
  ·exact h
  ·rw [hk] at h; cases h
 ·rcases hs with h | ⟨_, h, _⟩
  ·rw [h]; exact ⟨Int.le_refl _, by show (0 : Int) ≤ 1048576; decide⟩
  ·exact ⟨h.1, by omega⟩
 ·rcases hs with h | ⟨_, _, h, _⟩
  ·rw [h]; exact ⟨rfl, rfl⟩
  ·rw [hh] at h; cases h
 ·rcases hs with h | ⟨_, _, _, h1, h2⟩
  ·rw [h] at hh; cases hh
  ·exact ⟨h2, h1 ▸ h2⟩
theorem bytesLess_self : ∀ s : List UInt8, Op.bytesLess s s = false
 | [] => rfl
 | a :: s => by
   have := bytesLess_self s
   unfold Op.bytesLess
   simp [this]
theorem cmpV_self (kd : Int) (v : Vl) : 0 ≤ cmpV kd v v := by
 unfold cmpV
 split
 ·unfold cmpB
  rw [bytesLess_self, eqb_self]; decide
 ·unfold cmpI
  rw [if_neg (Int.lt_irrefl _), if_neg (Int.lt_irrefl _)]; decide
theorem CkN.w {g kd : Int} {c : Ck} (h : CkN g kd c) : soundF kd (nM g) c = true := by
 obtain ⟨hm, hs⟩ := h
 have hn := nM_le g
 have h1 : c.pages.all (fun p => decide (p.rows ≠ 0)) = true := List.all_eq_true.2 fun p hp => decide_eq_true (by have := (hm.pages p hp).2; omega)
 have h2 : (c.pages.all (fun p => decide (p.enc = 2)) || decide (c.words = 0 ∧ c.size = 0)) = true := by
  rcases hm.dict with h | h
  ·rw [List.all_eq_true.2 fun p hp => decide_eq_true (h p hp)]; rfl
  ·rw [decide_eq_true h, Bool.or_true]
 have h3 : (decide (c.st.nulls ≤ sumP (·.cells) c.pages) && decide (0 ≤ cmpV kd c.st.mx c.st.mn)) = true := by
  have hc := hm.cells
  rcases hs with h | ⟨_, h, _, h4, _⟩
  ·rw [h, decide_eq_true (show (default : Sta).nulls ≤ _ from by show (0 : Int) ≤ _; omega), decide_eq_true (show 0 ≤ cmpV kd (default : Sta).mx (default : Sta).mn from cmpV_self kd _)]; rfl
  ·rw [h4, decide_eq_true (by omega), decide_eq_true (cmpV_self kd _)]; rfl
 unfold soundF
 rw [h1, h2, h3, decide_eq_true hm.rows, decide_eq_true hm.n1.2]
 simp
theorem soundsF_at (n : Int) : ∀ (ks : List Int) (cs : List Ck), (∀ i, i < ks.length → i < cs.length → soundF (ks.getD i 0) n (cs.getD i default) = true) → soundsF n ks cs = true
 | [], [], _ => rfl
 | [], _ :: _, _ => rfl
 | _ :: _, [], _ => rfl
 | k :: ks, c :: cs, h => by
   have h0 := h 0 (by simp) (by simp)
   rw [soundsF, show soundF k n c = true from h0, soundsF_at n ks cs fun i h1 h2 => h (i + 1) (by simpa using h1) (by simpa using h2)]; rfl
theorem makeM_w (ns gs : List Int) {l : List Vl} (hl : ∀ v ∈ l, I64 v.n) : wholeF (makeM ns gs l) = true := by
 have hs := groupsM_sum (kindsF (makeF ns)) l (gs.take 4) 0
 have h4 : (gs.take 4).length ≤ 4 := by rw [List.length_take]; omega
 show (((groupsM (kindsF (makeF ns)) l (gs.take 4) 0).1.all fun g => decide (g.n ≠ 0) && soundsF g.n (kindsF (makeF ns)) g.chunks) && decide (sumR (groupsM (kindsF (makeF ns)) l (gs.take 4) 0).1 = sumR (groupsM (kindsF (makeF ns)) l (gs.take 4) 0).1 ∧ sumR (groupsM (kindsF (makeF ns)) l (gs.take 4) 0).1 ≤ 200)) = true
 rw [decide_eq_true ⟨rfl, by omega⟩, Bool.and_true]
 refine List.all_eq_true.2 fun r hr => ?_
 obtain ⟨g, a, rfl⟩ := groupsM_mem _ _ _ _ r hr
 have hn := nM_le g
 rw [decide_eq_true (show nM g ≠ 0 by omega), soundsF_at (nM g) _ (chunksM g l (kindsF (makeF ns)) 0 a).1 fun i h1 h2 => (chunksM_n g hl _ 0 a i h1).w]
 rfl
theorem makeM_g (ns gs : List Int) {l : List Vl} (hl : ∀ v ∈ l, I64 v.n) : MtG (makeM ns gs l) := by
 have hs := groupsM_sum (kindsF (makeF ns)) l (gs.take 4) 0
 have h4 : (gs.take 4).length ≤ 4 := by rw [List.length_take]; omega
 refine ⟨make_sb ns, by have := make_len ns; show (makeF ns).length ≤ 40; omega, make_check ns, by have := make_sbl ns; show (sbF (makeF ns)).length ≤ 2000; omega, ⟨by show 0 ≤ sumR (groupsM (kindsF (makeF ns)) l (gs.take 4) 0).1; omega, by show sumR (groupsM (kindsF (makeF ns)) l (gs.take 4) 0).1 ≤ _; omega⟩, by show (groupsM (kindsF (makeF ns)) l (gs.take 4) 0).1.length ≤ 200; rw [groupsM_len]; omega, fun r hr => ?_⟩
 obtain ⟨g, a, rfl⟩ := groupsM_mem _ _ _ _ r hr
 have hn := nM_le g
 exact ⟨⟨by show 0 ≤ nM g; omega, by show nM g ≤ _; omega⟩, chunksM_len .., fun i hi => (chunksM_n g hl _ 0 a i (by rw [chunksM_len] at hi; exact hi)).g⟩
theorem num20_ok {x : Int} (h : Num20 x) : NumOk x := ⟨h.1, Int.lt_of_le_of_lt h.2 (by show (1048576 : Int) < 128 ^ 9; decide)⟩
theorem makeM_b (ns gs : List Int) {l : List Vl} (hl : ∀ v ∈ l, I64 v.n) : MtB (makeM ns gs l) := by
 have hg := makeM_g ns gs hl
 have h4 : (gs.take 4).length ≤ 4 := by rw [List.length_take]; omega
 refine ⟨make_ok ns, fun f hf => by
  obtain ⟨h1, h2, h3, h4⟩ := make_sb ns f hf
  exact ⟨⟨h1.1, by omega⟩, ⟨h2.1, by omega⟩, h3.1, by omega⟩, num20_ok hg.n, by have := hg.len; omega, fun r hr => ?_⟩
 have hr2 := hg.groups r hr
 refine ⟨num20_ok hr2.n, ?_, fun c hc => ?_⟩
 ·rw [hr2.len]; exact Nat.le_of_eq (List.length_map ..)
 ·obtain ⟨i, hi, rfl⟩ := List.mem_iff_getElem.1 hc
  have h := hr2.chunks i hi
  rw [show r.chunks.getD i default = r.chunks[i] from by rw [List.getD_eq_getElem?_getD, List.getElem?_eq_getElem hi]; rfl] at h
  refine ⟨num20_ok h.n1, num20_ok h.n2, h.crc, ?_, fun p hp => ?_, by have := h.len; omega⟩
  ·cases hk : r.chunks[i].known with
   | false => rw [h.st0 hk]; exact ⟨Int.le_refl _, by show (0 : Int) < 128 ^ 9; decide⟩
   | true => exact num20_ok (h.nulls hk)
  ·have := h.pages p hp
   exact ⟨num20_ok this.n1, num20_ok this.n2, num20_ok this.n3, num20_ok this.n4, num20_ok this.n5, num20_ok this.n6, this.crc⟩
/-! How long its bytes are -/
theorem nuB_len : ∀ l : List Int, (nuB l).length ≤ 10 * l.length
 | [] => Nat.le_refl _
 | x :: l => by
   have h1 := varB_len x.toNat
   have h2 := nuB_len l
   rw [nuB, List.length_append, List.length_cons]; omega
theorem pgsB_len : ∀ l : List Pg, (pgsB l).length ≤ 64 * l.length
 | [] => Nat.le_refl _
 | p :: l => by
   have h1 := nuB_len [p.rows, p.cells, p.enc, p.rlen, p.dlen, p.vlen]
   have h2 := pgsB_len l
   rw [pgsB, pgB, List.length_append, List.length_append, leB_len, List.length_cons]
   simp only [List.length_cons, List.length_nil] at h1
   omega
theorem vlB_len {k : Int} {v : Vl} (h : v.s.length ≤ 100) : (vlB k v).length ≤ 110 := by
 unfold vlB
 split
 ·simp
 ·split
  ·rw [leB_len]; omega
  ·split
   ·rw [leB_len]; omega
   ·have h1 := nuB_len [(v.s.length : Int)]
    rw [List.length_append]
    simp only [List.length_cons, List.length_nil] at h1
    omega
theorem vlG_len {k : Int} {v : Vl} (h : VlG k v) : v.s.length ≤ 100 := by
 rcases h with ⟨_, _, h⟩ | ⟨_, _, h⟩ | ⟨_, _, h⟩ | ⟨_, _, h⟩
 ·rw [h]; simp
 ·rw [h]; simp
 ·rw [h]; simp
 ·exact h
theorem flB_len (b : Bool) : (flB b).length = 1 := rfl
theorem ckB_len {k : Int} {c : Ck} (h : CkG k c) (h40 : c.pages.length ≤ 40) : (ckB k c).length ≤ 2836 := by
 have h1 := nuB_len [c.words, c.size]
 have h2 := nuB_len [(c.pages.length : Int)]
 have h3 := pgsB_len c.pages
 simp only [List.length_cons, List.length_nil] at h1 h2
 have h4 : (if c.known = true then stB k c.st else []).length ≤ 232 := by
  split
  ·rename_i hk
   have h5 := nuB_len [c.st.nulls]
   simp only [List.length_cons, List.length_nil] at h5
   unfold stB
   have h6 : (if c.st.has = true then vlB k c.st.mn ++ vlB k c.st.mx else []).length ≤ 220 := by
    split
    ·rename_i hh
     obtain ⟨e1, e2⟩ := h.has1 hk hh
     have := vlB_len (k := k) (vlG_len e1)
     have := vlB_len (k := k) (vlG_len e2)
     rw [List.length_append]; omega
    ·simp
   rw [List.length_append, List.length_append, flB_len]; omega
  ·simp
 unfold ckB
 simp only [List.length_append, leB_len, flB_len]
 omega
theorem cksB_len : ∀ (ks : List Int) (cs : List Ck), (∀ i, i < ks.length → i < cs.length → (ckB (ks.getD i 0) (cs.getD i default)).length ≤ 2836) → (cksB ks cs).length ≤ 2836 * cs.length
 | [], [], _ => Nat.le_refl _
 | [], _ :: _, _ => Nat.zero_le _
 | _ :: _, [], _ => Nat.le_refl _
 | k :: ks, c :: cs, h => by
   have h0 := h 0 (by simp) (by simp)
   have h1 := cksB_len ks cs fun i h1 h2 => h (i + 1) (by simpa using h1) (by simpa using h2)
   have h0 : (ckB k c).length ≤ 2836 := h0
   rw [cksB, List.length_append, List.length_cons]; omega
theorem rwsB_len (ks : List Int) (n : Nat) : ∀ l : List Rw, (∀ r ∈ l, (rwB ks r).length ≤ n) → (rwsB ks l).length ≤ n * l.length
 | [], _ => Nat.zero_le _
 | r :: l, h => by
   have h0 := h r (List.mem_cons_self ..)
   have h1 := rwsB_len ks n l fun q hq => h q (List.mem_cons_of_mem _ hq)
   rw [rwsB, List.length_append, List.length_cons, Nat.mul_add, Nat.mul_one]; omega
theorem makeM_l (ns gs : List Int) {l : List Vl} (hl : ∀ v ∈ l, I64 v.n) : (mtB (makeM ns gs l)).length ≤ 500000 := by
 have hg := makeM_g ns gs hl
 have h4 : (gs.take 4).length ≤ 4 := by rw [List.length_take]; omega
 have h0 := make_len ns
 have hk : (leavesF (makeF ns)).length ≤ (makeF ns).length := lvOut_len_le _ _ _
 have hk2 : (kindsF (makeF ns)).length = (leavesF (makeF ns)).length := List.length_map ..
 have hr : (rwsB (kindsF (makeF ns)) (makeM ns gs l).groups).length ≤ 113460 * (makeM ns gs l).groups.length := by
  refine rwsB_len _ _ _ fun r hr => ?_
  obtain ⟨g, a, rfl⟩ := groupsM_mem _ _ _ _ r hr
  have h1 := nuB_len [nM g]
  simp only [List.length_cons, List.length_nil] at h1
  have h2 := cksB_len (kindsF (makeF ns)) (chunksM g l (kindsF (makeF ns)) 0 a).1 fun i h1 h2 => ckB_len (chunksM_n g hl _ 0 a i h1).g (chunksM_n g hl _ 0 a i h1).m.len
  rw [chunksM_len] at h2
  rw [rwB, List.length_append]
  show (nuB [nM g]).length + (cksB (kindsF (makeF ns)) (chunksM g l (kindsF (makeF ns)) 0 a).1).length ≤ _
  omega
 have hgl : (makeM ns gs l).groups.length ≤ 4 := by show (groupsM _ _ _ _).1.length ≤ 4; rw [groupsM_len]; omega
 have h1 := nuB_len [((sbF (makeM ns gs l).s).length : Int)]
 have h2 := make_sbl ns
 have h3 := nuB_len [(makeM ns gs l).n, ((makeM ns gs l).groups.length : Int)]
 simp only [List.length_cons, List.length_nil] at h1 h3
 have h5 : (sbF (makeM ns gs l).s).length ≤ 600 := h2
 have hr : (rwsB (kindsF (makeM ns gs l).s) (makeM ns gs l).groups).length ≤ 113460 * (makeM ns gs l).groups.length := hr
 unfold mtB
 simp only [List.length_append]
 omega
end Go.Proofs.Ytajieadpaeggcaa

end
section
set_option linter.unusedVariables false
set_option linter.unusedSimpArgs false
namespace Go.Proofs.Ytajieadpaeggcaa
open Go Go.Av
/-- A reader goes wrong for good, and at a front it reads the same, or lacks bytes. -/
structure Rd {α : Type} (R : BR → α × BR) : Prop where
 stick : ∀ r : BR, r.e ≠ 0 → (R r).2.e = r.e
 front : ∀ (b t : List UInt8) (v : α) (r : List UInt8), R ⟨b ++ t, 0⟩ = (v, ⟨r, 0⟩) → (∃ r', r = r' ++ t ∧ R ⟨b, 0⟩ = (v, ⟨r', 0⟩)) ∨ (R ⟨b, 0⟩).2.e = 8
def retR {α : Type} (v : α) : BR → α × BR := fun r => (v, r)
def bindR {α β : Type} (R : BR → α × BR) (S : α → BR → β × BR) : BR → β × BR := fun r => S (R r).1 (R r).2
def guardR {α : Type} (d : α) (R : BR → α × BR) : BR → α × BR := fun r => if r.e ≠ 0 then (d, r) else R r
theorem ret_rd {α : Type} (v : α) : Rd (retR v) := ⟨fun _ _ => rfl, fun b t v' r h => .inl ⟨b, by unfold retR at h; injection h with h1 h2; injection h2 with h2 h3; exact h2.symm, by unfold retR at h ⊢; injection h with h1 h2; rw [h1]⟩⟩
theorem bind_rd {α β : Type} {R : BR → α × BR} {S : α → BR → β × BR} (h1 : Rd R) (h2 : ∀ v, Rd (S v)) : Rd (bindR R S) := by
 refine ⟨fun r hr => ?_, fun b t v r h => ?_⟩
 ·have e := h1.stick r hr
  show (S (R r).1 (R r).2).2.e = r.e
  rw [(h2 _).stick _ (by rw [e]; exact hr), e]
 ·have h : S (R ⟨b ++ t, 0⟩).1 (R ⟨b ++ t, 0⟩).2 = (v, ⟨r, 0⟩) := h
  have h0 : (R ⟨b ++ t, 0⟩).2.e = 0 := by
   rcases Classical.em ((R ⟨b ++ t, 0⟩).2.e = 0) with k | k
   ·exact k
   ·have := (h2 (R ⟨b ++ t, 0⟩).1).stick _ k
    rw [h] at this; exact absurd this.symm k
  generalize hq : R ⟨b ++ t, 0⟩ = q at *
  obtain ⟨v1, b1, e1⟩ := q
  have h0 : e1 = 0 := h0
  subst h0
  rcases h1.front b t v1 b1 hq with ⟨r', rfl, k⟩ | k
  ·rcases (h2 v1).front r' t v r h with ⟨r2, k1, k2⟩ | k2
   ·exact .inl ⟨r2, k1, by show S (R ⟨b, 0⟩).1 (R ⟨b, 0⟩).2 = _; rw [k]; exact k2⟩
   ·exact .inr (by show (S (R ⟨b, 0⟩).1 (R ⟨b, 0⟩).2).2.e = 8; rw [k]; exact k2)
  ·refine .inr ?_
   show (S (R ⟨b, 0⟩).1 (R ⟨b, 0⟩).2).2.e = 8
   rw [(h2 _).stick _ (by rw [k]; decide), k]
theorem guard_rd {α : Type} (d : α) {R : BR → α × BR} (h : Rd R) : Rd (guardR d R) := by
 refine ⟨fun r hr => by unfold guardR; rw [if_pos hr], fun b t v r hh => ?_⟩
 have e : ∀ c : List UInt8, guardR d R ⟨c, 0⟩ = R ⟨c, 0⟩ := fun c => if_neg (fun k => k rfl)
 rw [e] at hh ⊢
 exact h.front b t v r hh
theorem fail_rd {α : Type} (v : α) (x : Int) : Rd (fun r => (v, failR r x)) := by
 refine ⟨fun r hr => by show (failR r x).e = r.e; unfold failR; rw [if_neg hr], fun b t v' r h => ?_⟩
 have e : ∀ c : List UInt8, failR ⟨c, 0⟩ x = ⟨c, x⟩ := fun c => if_pos rfl
 simp only [e] at h ⊢
 injection h with h1 h2
 injection h2 with h2 h3
 subst h1 h2 h3
 exact .inl ⟨b, rfl, rfl⟩
theorem take_rd (n : Nat) : Rd (takeR n) := by
 refine ⟨fun r hr => ?_, fun b t v r h => ?_⟩
 ·have e : (if r.b.length < n then failR r 8 else r) = r := by
   split
   ·unfold failR; rw [if_neg hr]
   ·rfl
  unfold takeR
  rw [e, if_pos hr]
 ·by_cases hl : b.length < n
  ·refine .inr ?_
   unfold takeR
   rw [if_pos (show (⟨b, 0⟩ : BR).b.length < n from hl), show failR ⟨b, 0⟩ 8 = ⟨b, 8⟩ from rfl, if_pos (show (8 : Int) ≠ 0 by decide)]
  ·have e : ∀ c : List UInt8, ¬ c.length < n → takeR n ⟨c, 0⟩ = (c.take n, ⟨c.drop n, 0⟩) := fun c hc => by
    unfold takeR
    rw [if_neg (show ¬ (⟨c, 0⟩ : BR).b.length < n from hc), if_neg (fun k => k rfl)]
   rw [e _ (by rw [List.length_append]; omega)] at h
   rw [e _ hl]
   injection h with h1 h2
   injection h2 with h2 h3
   refine .inl ⟨b.drop n, ?_, ?_⟩
   ·rw [← h2, List.drop_append_of_le_length (by omega)]
   ·rw [← h1, List.take_append_of_le_length (by omega)]
theorem getV_front : ∀ (b t : List UInt8) (k v : Nat), (getV (b ++ t) k v).2.2 = 0 → (getV b k v = getV (b ++ t) k v ∧ (getV b k v).2.1 ≤ k + b.length) ∨ (getV b k v).2.2 = 8
 | [], t, k, v, _ => .inr rfl
 | x :: b, t, k, v, h => by
   rw [List.cons_append, getV] at h
   rw [List.cons_append, getV, getV]
   split at h
   ·cases h
   ·rename_i h1
    rw [if_neg h1]
    split at h
    ·rename_i h2
     rw [if_pos h2]
     split at h
     ·cases h
     ·rename_i h3
      rw [if_neg h3]
      exact .inl ⟨by rw [if_neg h1, if_pos h2], by show k + 1 ≤ _; rw [List.length_cons]; omega⟩
    ·rename_i h2
     rw [if_neg h2]
     rcases getV_front b t (k + 1) _ h with ⟨h4, h5⟩ | h4
     ·refine .inl ⟨by rw [if_neg h1, if_neg h2]; exact h4, ?_⟩
      rw [List.length_cons]; omega
     ·exact .inr h4
theorem num_rd (most : Nat) (w : Int) (hw : w ≠ 0) : Rd (numR most w) := by
 refine ⟨fun r hr => by unfold numR; rw [if_pos hr], fun b t v r h => ?_⟩
 have e : ∀ c : List UInt8, numR most w ⟨c, 0⟩ = if (takeR (getV c 0 0).2.1 (numR1 most w ⟨c, 0⟩)).2.e ≠ 0 then (0, (takeR (getV c 0 0).2.1 (numR1 most w ⟨c, 0⟩)).2) else ((getV c 0 0).1, (takeR (getV c 0 0).2.1 (numR1 most w ⟨c, 0⟩)).2) := fun c => if_neg (fun k => k rfl)
 have hbad : ∀ (c : List UInt8) (x : Int), x ≠ 0 → numR1 most w ⟨c, 0⟩ = ⟨c, x⟩ → (numR most w ⟨c, 0⟩).2.e = x := by
  intro c x hx hc
  rw [e, hc]
  have := (take_rd (getV c 0 0).2.1).stick ⟨c, x⟩ hx
  rw [if_pos (by rw [this]; exact hx)]; exact this
 have hg : (getV (b ++ t) 0 0).2.2 = 0 := by
  rcases Classical.em ((getV (b ++ t) 0 0).2.2 = 0) with k | k
  ·exact k
  ·have h1 : numR1 most w ⟨b ++ t, 0⟩ = ⟨b ++ t, (getV (b ++ t) 0 0).2.2⟩ := by
    unfold numR1
    rw [if_neg (fun hh => k hh.1)]; rfl
   have := hbad _ _ k h1
   rw [h] at this; exact absurd this.symm k
 have hm : ¬ most < (getV (b ++ t) 0 0).1 := by
  intro k
  have h1 : numR1 most w ⟨b ++ t, 0⟩ = ⟨b ++ t, w⟩ := by
   unfold numR1
   rw [if_pos ⟨hg, k⟩]
   show failR (failR ⟨b ++ t, 0⟩ (getV (b ++ t) 0 0).2.2) w = _
   rw [hg]; rfl
  have := hbad _ _ hw h1
  rw [h] at this; exact absurd this.symm hw
 have hok : ∀ c : List UInt8, getV c 0 0 = getV (b ++ t) 0 0 → numR1 most w ⟨c, 0⟩ = ⟨c, 0⟩ := by
  intro c hc
  unfold numR1
  rw [show getV (⟨c, 0⟩ : BR).b 0 0 = getV (b ++ t) 0 0 from hc, if_neg (fun hh => hm hh.2), hg]; rfl
 rcases getV_front b t 0 0 hg with ⟨k1, k2⟩ | k
 ·rw [e, hok _ rfl] at h
  rw [e, hok _ k1, k1]
  rw [k1] at k2
  generalize getV (b ++ t) 0 0 = q at *
  have hst : ∀ c : List UInt8, q.2.1 ≤ c.length → takeR q.2.1 ⟨c, 0⟩ = (c.take q.2.1, ⟨c.drop q.2.1, 0⟩) := fun c hc => by
   unfold takeR
   rw [if_neg (show ¬ (⟨c, 0⟩ : BR).b.length < q.2.1 from Nat.not_lt.2 hc), if_neg (fun k => k rfl)]
  rw [hst _ (by rw [List.length_append]; omega), if_neg (fun k => k rfl)] at h
  rw [hst _ (by omega), if_neg (fun k => k rfl)]
  injection h with h1 h2
  injection h2 with h2 h3
  exact .inl ⟨b.drop q.2.1, by rw [← h2, List.drop_append_of_le_length (by omega)], by rw [h1]⟩
 ·refine .inr (hbad b 8 (by decide) ?_)
  unfold numR1
  rw [if_neg (fun hh => by rw [show (getV (⟨b, 0⟩ : BR).b 0 0).2.2 = 8 from k] at hh; exact absurd hh.1 (by decide)), show (getV (⟨b, 0⟩ : BR).b 0 0).2.2 = 8 from k]; rfl
theorem fix_rd (n : Nat) : Rd (fixR n) := bind_rd (R := takeR n) (S := fun v => retR (leV v)) (take_rd n) fun v => ret_rd _
theorem plain_rd : Rd plainR := num_rd 1048576 14 (by decide)
theorem truth_rd : Rd truthR := by
 have : truthR = bindR (fixR 1) fun v r => if 1 < v then (0, failR r 10) else (v, r) := by
  funext r; rfl
 rw [this]
 refine bind_rd (fix_rd 1) fun v => ?_
 by_cases h : 1 < v
 ·simp only [if_pos h]; exact fail_rd 0 10
 ·simp only [if_neg h]; exact ret_rd v
theorem val_rd (k : Int) : Rd (valR k) := by
 by_cases h1 : k = 1
 ·subst h1
  exact bind_rd (R := truthR) (S := fun v => retR (⟨(v : Nat), []⟩ : Vl)) truth_rd fun v => ret_rd _
 by_cases h2 : k = 2
 ·subst h2
  exact bind_rd (R := fixR 4) (S := fun v => retR (⟨wr .i32 (v : Nat), []⟩ : Vl)) (fix_rd 4) fun v => ret_rd _
 by_cases h3 : k = 3
 ·subst h3
  exact bind_rd (R := fixR 8) (S := fun v => retR (⟨wr .i64 (v : Nat), []⟩ : Vl)) (fix_rd 8) fun v => ret_rd _
 have : valR k = bindR (numR 100 5) fun n => bindR (takeR n) fun t => retR (⟨0, t⟩ : Vl) := by
  funext r; exact valR_4 ⟨h1, h2, h3⟩ r
 rw [this]
 exact bind_rd (num_rd _ _ (by decide)) fun n => bind_rd (take_rd n) fun t => ret_rd _
theorem page_rd : Rd pageR :=
 bind_rd (R := plainR) (S := fun a => bindR plainR fun b => bindR plainR fun c => bindR plainR fun d => bindR plainR fun e => bindR plainR fun f => bindR (fixR 4) fun g => retR (⟨a, b, c, d, e, f, g⟩ : Pg)) plain_rd fun a => bind_rd plain_rd fun b => bind_rd plain_rd fun c => bind_rd plain_rd fun d => bind_rd plain_rd fun e => bind_rd plain_rd fun f => bind_rd (fix_rd 4) fun g => ret_rd _
theorem pages_rd : ∀ (k : Nat) (s : List Pg), Rd fun r => pagesR k r s
 | 0, s => ret_rd s
 | k + 1, s => guard_rd s (bind_rd (R := pageR) (S := fun p r => pagesR k r (s ++ [p])) page_rd fun p => pages_rd k _)
theorem ck0_rd : Rd ckR0 :=
 bind_rd (R := plainR) (S := fun a => bindR plainR fun b => bindR (fixR 4) fun c => retR (a, b, c)) plain_rd fun a => bind_rd plain_rd fun b => bind_rd (fix_rd 4) fun c => ret_rd _
theorem know_rd (k : Int) : Rd (knowR k) := by
 have : knowR k = bindR truthR fun t => if t ≠ 1 then retR (false, default) else bindR plainR fun n => bindR truthR fun h => if h ≠ 1 then retR (true, (⟨n, false, default, default⟩ : Sta)) else bindR (valR k) fun a => bindR (valR k) fun b => retR (true, (⟨n, true, a, b⟩ : Sta)) := by
  funext r
  unfold knowR bindR
  dsimp only
  split
  ·rfl
  ·dsimp only
   split <;> rfl
 rw [this]
 refine bind_rd truth_rd fun t => ?_
 by_cases h : t ≠ 1
 ·rw [if_pos h]; exact ret_rd _
 ·rw [if_neg h]
  refine bind_rd plain_rd fun n => bind_rd truth_rd fun t2 => ?_
  by_cases h : t2 ≠ 1
  ·rw [if_pos h]; exact ret_rd _
  ·rw [if_neg h]
   exact bind_rd (val_rd k) fun a => bind_rd (val_rd k) fun b => ret_rd _
theorem chunk_rd (k : Int) : Rd (chunkR k) := by
 have e : chunkR k = bindR ckR0 (fun a => bindR (numR 200 4) fun n => bindR (fun r => pagesR n r []) fun p => bindR (knowR k) fun q => retR (⟨a.1, a.2.1, a.2.2, p, q.1, q.2⟩ : Ck)) := by
  funext r; simp only [chunkR, bindR, retR]
 rw [e]
 exact bind_rd (R := ckR0) (S := fun a => bindR (numR 200 4) fun n => bindR (fun r => pagesR n r []) fun p => bindR (knowR k) fun q => retR (⟨a.1, a.2.1, a.2.2, p, q.1, q.2⟩ : Ck)) ck0_rd fun a => bind_rd (num_rd _ _ (by decide)) fun n => bind_rd (pages_rd n []) fun p => bind_rd (know_rd k) fun q => ret_rd _
theorem chunks_rd : ∀ (ks : List Int) (s : List Ck), Rd fun r => chunksR ks r s
 | [], s => ret_rd s
 | k :: ks, s => guard_rd s (bind_rd (R := chunkR k) (S := fun p r => chunksR ks r (s ++ [p])) (chunk_rd k) fun p => chunks_rd ks _)
theorem group_rd (ks : List Int) : Rd (groupR ks) :=
 bind_rd (R := plainR) (S := fun a => bindR (fun r => chunksR ks r []) fun c => retR (⟨a, c⟩ : Rw)) plain_rd fun a => bind_rd (chunks_rd ks []) fun c => ret_rd _
theorem groups_rd (ks : List Int) : ∀ (k : Nat) (s : List Rw), Rd fun r => groupsR ks k r s
 | 0, s => ret_rd s
 | k + 1, s => guard_rd s (bind_rd (R := groupR ks) (S := fun p r => groupsR ks k r (s ++ [p])) (group_rd ks) fun p => groups_rd ks k _)
theorem meta_rd : Rd metaR :=
 bind_rd (R := numR 2000 5) (S := fun n => bindR (takeR n) fun t => guardR mt0 (bindR (fun r => ((), failR r (parseSF t).2)) fun _ => bindR plainR fun n => bindR (numR 200 4) fun k => bindR (fun r => groupsR (kindsF (parseSF t).1) k r []) fun g => retR (⟨(parseSF t).1, n, g⟩ : Mt))) (num_rd _ _ (by decide)) fun n => bind_rd (take_rd n) fun t => guard_rd mt0 (bind_rd (fail_rd () _) fun _ => bind_rd plain_rd fun n => bind_rd (num_rd _ _ (by decide)) fun k => bind_rd (groups_rd _ k []) fun g => ret_rd _)
/-- A front of what is written is none. -/
theorem parseMF_front {m : Mt} (h : MtG m) {b t : List UInt8} (ht : t ≠ []) (hb : b ++ t = mtB m) : parseMF b = (mt0, 8) := by
 have h0 := metaR_app h []
 rw [List.append_nil, ← hb] at h0
 show finMF (metaR ⟨b, 0⟩) = _
 rcases meta_rd.front b t m [] h0 with ⟨r', h1, _⟩ | h1
 ·exact absurd (List.append_eq_nil_iff.1 h1.symm).2 ht
 ·generalize metaR ⟨b, 0⟩ = q at *
  obtain ⟨m2, b2, e2⟩ := q
  have h1 : e2 = 8 := h1
  subst h1
  exact finMF_bad (by decide)
end Go.Proofs.Ytajieadpaeggcaa

end
section
set_option linter.unusedVariables false
set_option linter.unusedSimpArgs false
namespace Go.Proofs.Ytajieadpaeggcaa
open Go Go.Av
set_option maxRecDepth 100000
set_option maxHeartbeats 4000000
abbrev cLf [Syms] : CallT := pickT 10 (immT S_known19) (pickT 11 (immT S_makeM) (pickT 19 (ownT S_fbytes) (pickT 13 (valT G_wi) (pickT 15 (rebT (pickT 15 (specT S_fparse) noneT)) noneT))))
theorem cLf_ok [Syms] : cLf.ok Try.prog := pickT_imm_ok known19_ok (pickT_imm_ok makeM_ok (pickT_own_ok fbytes_ok (pickT_val_ok wi19_ok (pickT_ok (rebT_ok (pickT_spec fparse_ok noneT_ok)) noneT_ok))))
noncomputable def plLf : Nat → Nat → Pl := plAdd [(6, 5), (6, 6), (6, 7)] (plTab plt)
theorem reb_bytes [Syms] {nx n len : Nat} {c : Option Nat} {H H3 : Heap} {rows : List (List AVal)} {b : List UInt8} (hb : H.get n = some (.cells rows false)) (hr : rows = b.map encB) (hl : len = b.length) (hp : 0 < b.length) (hh : FzH n (b.map encB) H H3) :
 Reb nx 0 ⟨envL 0 [.slice n 0 len 1 c], H, nx⟩ ⟨envL 0 [.vs 1 (b.map encB)], H3, nx⟩ := by
 subst hr hl
 refine reb_args hb (fB b) ⟨?_, trivial⟩ hh
 have := FzV.sl (n := n) (rows := b.map encB) 0 b.length 1 c hp (by simp)
 rwa [List.drop_zero, List.take_of_length_le (by simp)] at this
theorem lf_seal [Syms] {N nx K len : Nat} {e : Env} {H : Heap} {b more : List UInt8} {at_ : Int} {rows : List (List AVal)} (h11 : e.get 11 = .slice K 0 len 1 none) (h3 : e.get 3 = .int .i64 at_) (h4 : e.get 4 = vB more) (H1 : H.get K = some (.cells rows false)) (hr : rows = b.map encB) (hl : len = b.length) (hn : NumsOk 0 nx [] = true) :
 Reb 0 N ⟨e, H, nx⟩ ⟨[(11, .vs 1 (b.map encB)), (3, .int .i64 at_), (4, vB more)], [], 0⟩ := by
 subst hr hl
 have h1 : Reb 0 N ⟨e, H, nx⟩ ⟨[(11, vB b), (3, .int .i64 at_), (4, vB more)], [], nx⟩ := reb_own_keep (enc := encB) 0 (l := b) [(3, .int .i64 at_), (4, vB more)] [] h11 H1 (fB b) (List.take_of_length_le (by simp)) (by simp) (fun p hp => by simp at hp; rcases hp with rfl | rfl <;> exact ⟨(by intro h; cases h), by assumption⟩) (fun n c h => by rw [Heap.get_nil] at h; cases h)
 exact h1.trans (reb_num [] hn ⟨.un rfl, .refl _, .refl _, trivial⟩ trivial)
theorem lfronts_t [Syms] (ns gs : List Int) (l : List Vl) (at_ : Int) (more : List UInt8) (hn : ns.length ≤ 9223372036854775807) (hgl : gs.length ≤ 9223372036854775807) (hll : l.length ≤ 9223372036854775807) (hm : more.length ≤ 9223372036854775807) (hg : ∀ g ∈ gs, I64 g) (hl : ∀ v ∈ l, I64 v.n) :
 fnT noneT cLf (fnTab fns) (tyTab tys) plLf 100 6 [vI ns, vI gs, vV l, .int .i64 at_, vB more] [] 0 (fun v H _ => v = .bool true ∧ H = []) := by
 by_cases h0 : more.length = 0
 ·repeat' (first | (refine And.intro ?_ ?_) | (intro h; try first | exact dz | replace h := cv))
  all_goals (try exact cz)
  all_goals exact ⟨_, reb_flat [10] rfl, _, rfl, rfl, rfl⟩
 by_cases h1 : 30 < more.length
 ·repeat' (first | (refine And.intro ?_ ?_) | (intro h; try first | exact dz | replace h := cv))
  all_goals (try exact cz)
  all_goals exact ⟨_, reb_flat [10] rfl, _, rfl, rfl, rfl⟩
 have hq := makeM_g ns gs hl
 have hb := makeM_b ns gs hl
 have hw := makeM_w ns gs hl
 have hlen := makeM_l ns gs hl
 repeat' (first | (refine And.intro ?_ ?_) | (intro h; try first | exact dz | replace h := cv))
 all_goals (try exact cz)
 refine ⟨ns, gs, l, rfl, ⟨hn, hgl, hll, hg⟩, ?_⟩
 generalize makeM ns gs l = m at *
 have hcall2 : ∀ K : List UInt8 → Prop, K (mtB m) → S_fbytes [.agg (encM m)] K := fun K hk => ⟨m, rfl, ⟨hb, by omega⟩, hk⟩
 have hpos : 0 < (mtB m).length := by
  have h2 : 0 < (varB (sbF m.s).length).length := putV_pos 9 (sbF m.s).length
  unfold mtB
  rw [nuB, nuB, List.append_nil, Int.toNat_natCast]
  simp only [List.length_append]; omega
 have hfront : ∀ k, k < (mtB m).length → parseMF ((mtB m).take k) = (mt0, 8) := fun k hk => parseMF_front hq (t := (mtB m).drop k) (fun h => by have := congrArg List.length h; rw [List.length_drop] at this; simp at this; omega) (List.take_append_drop ..)
 have hmore : parseMF (mtB m ++ more) = (mt0, 9) := parseMF_more hq (fun h => by rw [h] at h0; exact h0 rfl)
 generalize mtB m = b at *
 repeat' (first | (refine And.intro ?_ ?_) | (intro h; try first | exact dz | replace h := cv))
 all_goals (try exact cz)
 refine ⟨[.agg (encM m)], ⟨.imm _ rfl, trivial⟩, ?_⟩
 refine hcall2 _ ?_
 repeat' (first | (refine And.intro ?_ ?_) | (intro h; try first | exact dz | replace h := cv))
 all_goals (try exact cz)
 refine ⟨⟨[(11, .vs 1 (b.map encB)), (3, .int .i64 at_), (4, vB more)], [], 0⟩, lf_seal (K := 0) rfl rfl rfl rfl rfl rfl (by exact rfl), ?_⟩
 have hwi := wi_le (a := at_) (n := b.length) (by omega)
 have hx1 : (List.map encB b).length = b.length := List.length_map ..
 have hx2 := hx1
 have hx3 := hx1
 have hx4 := hx1
 repeat' (first | (refine And.intro ?_ ?_) | (intro h; try first | exact dzi | replace h := cvi))
 all_goals (try exact cz)
 refine ⟨at_, b.length, by rw [hx1], by omega, ?_⟩
 obtain ⟨k, hk⟩ : ∃ k : Nat, wi at_ b.length = k := ⟨(wi at_ b.length).toNat, by omega⟩
 rw [hk] at hwi ⊢
 repeat' (first | (refine And.intro ?_ ?_) | (intro h; try first | exact dzi | replace h := cvi))
 all_goals (try exact cz)
 refine ⟨_, _, .refl _ _ _, rfl, ?_⟩
 refine ⟨[], [vB (b.take k)], [], rfl, ⟨.tab (by rw [List.drop_zero, Nat.sub_zero, Int.toNat_natCast, List.map_take]), trivial⟩, trivial, b.take k, rfl, rfl, rfl, by rw [List.length_take]; omega, ?_⟩
 rw [hfront k (by omega)]
 clear hfront
 repeat' (first | (refine And.intro ?_ ?_) | (intro h; try first | exact dzi | replace h := cvi))
 all_goals (try exact cz)
 refine ⟨⟨[(4, .vs 1 (more.map encB)), (11, .vs 1 (b.map encB)), (12, .ptr 0 0 0), (13, .int .i64 8)], [(0, some (.cells [encM mt0] false))], 1⟩, reb_num [2] (by exact rfl) ⟨.un rfl, .refl _, .refl _, .refl _, trivial⟩ ⟨⟨by decide, _, rfl, wkB_row (row := encM mt0) ⟨.refl _, .refl _, .refl _, trivial⟩ (eM _)⟩, trivial⟩, ?_⟩
 have hx1 : (List.map encB more).length = more.length := List.length_map ..
 repeat' (first | (refine And.intro ?_ ?_) | (intro h; try first | exact dzi | replace h := cvi))
 all_goals (try exact cz)
 all_goals (try exact allLen_map (enc := encB) (z := 1) (fun _ => rfl) _)
 all_goals (try ((with_reducible show (_ : Nat) ≤ _); (try dsimp only); simp only [List.length_map, List.length_append, List.take_nil, List.drop_nil, List.length_nil, List.drop_zero]; omega))
 have hbm : (b ++ more).length = b.length + more.length := List.length_append
 refine ⟨[.vs 1 ((b ++ more).map encB)], [(0, some (.cells [encM mt0] false))], reb_bytes (n := 3) rfl (by simp [List.take_of_length_le]) (by simp) (by omega) ⟨⟨by decide, _, rfl, .same _⟩, trivial⟩, rfl, ?_⟩
 refine ⟨[], [vB (b ++ more)], [], rfl, ⟨.tab rfl, trivial⟩, trivial, b ++ more, rfl, rfl, rfl, by omega, ?_⟩
 rw [hmore]
 clear hmore
 repeat' (first | (refine And.intro ?_ ?_) | (intro h; try first | exact dzi | replace h := cvi))
 all_goals (try exact cz)
 refine ⟨⟨[(12, .ptr 0 0 0), (13, .int .i64 8), (15, .int .i64 9)], [(0, some (.cells [encM mt0] false))], 1⟩, reb_num [0] (by exact rfl) ⟨.refl _, .refl _, .refl _, trivial⟩ ⟨⟨by decide, _, rfl, .refl _⟩, trivial⟩, ?_⟩
 have hx1 : (encM mt0).getD 1 .any = .int .i64 0 := rfl
 have hx2 : (encM mt0).getD (0 + 1) .any = .int .i64 0 := rfl
 have hx3 : (encM mt0).getD 2 .any = .vs 2 [] := rfl
 have hx4 : (encM mt0).getD (0 + 2) .any = .vs 2 [] := rfl
 repeat' (first | (refine And.intro ?_ ?_) | (intro h; try first | exact dzi | replace h := cvi))
 all_goals (try exact cz)
 exact ⟨_, reb_flat [10] rfl, _, rfl, rfl, rfl⟩
theorem lfronts_sem [Syms] (ns gs : List Int) (l : List Vl) (at_ : Int) (more : List UInt8) (hn : ns.length ≤ 9223372036854775807) (_ : ∀ g ∈ ns, I64 g) (hgl : gs.length ≤ 9223372036854775807) (hg : ∀ g ∈ gs, I64 g) (hll : l.length ≤ 9223372036854775807) (hl : ∀ v ∈ l, I64 v.n) (_ : I64 at_) (hm : more.length ≤ 9223372036854775807) :
 FnSem Try.prog 6 [vI ns, vI gs, vV l, .int .i64 at_, vB more] [] 0 (fun v H _ => v = .bool true ∧ H = []) :=
 fnT_sound tys_ok fns_ok noneT_det cLf_ok mixed (lfronts_t ns gs l at_ more hn hgl hll hm hg hl)
end Go.Proofs.Ytajieadpaeggcaa

end
section
set_option linter.unusedVariables false
set_option linter.unusedSimpArgs false
namespace Go.Proofs.Ytajieadpaeggcaa
open Go Go.Av
abbrev kI : Shp := .slice (.int .i64)
abbrev kB : Shp := .slice (.int .u8)
abbrev kV : Shp := .slice (.struct (.pair (.int .i64) (.pair .str .unit)))
theorem arg_ints [Syms] {ι : Inj} {x : AVal} {v : Value} (h : kI.ok [x]) (hr : RelV ι x v) : ∃ l : List Int, RelV ι (vI l) v ∧ l.length ≤ 9223372036854775807 ∧ ∀ a ∈ l, I64 a :=
 Shp.slice_of (enc := encI) (G := I64) 0 (fun r h => by obtain ⟨z, rfl, hz⟩ := h; exact ⟨z, rfl, wf_i64 hz⟩) h hr
theorem arg_bytes [Syms] {ι : Inj} {x : AVal} {v : Value} (h : kB.ok [x]) (hr : RelV ι x v) : ∃ l : List UInt8, RelV ι (vB l) v ∧ l.length ≤ 9223372036854775807 := by
 obtain ⟨l, h1, h2, _⟩ := Shp.slice_of (enc := encB) (G := fun _ => True) 0 (fun r h => by
  obtain ⟨z, rfl, hz⟩ := h
  have := bounds_u8 hz
  refine ⟨UInt8.ofNat z.toNat, ?_, trivial⟩
  show _ = [AVal.int .u8 (((UInt8.ofNat z.toNat).toNat : Nat) : Int)]
  rw [ofNat_lt (by omega), Int.toNat_of_nonneg this.1]) h hr
 exact ⟨l, h1, h2⟩
theorem arg_vals [Syms] {ι : Inj} {x : AVal} {v : Value} (h : kV.ok [x]) (hr : RelV ι x v) : ∃ l : List Vl, RelV ι (vV l) v ∧ l.length ≤ 9223372036854775807 ∧ ∀ a ∈ l, I64 a.n :=
 Shp.slice_of (enc := encV) (G := fun a => I64 a.n) default (fun r h => by
  obtain ⟨r1, r2, rfl, ⟨z, rfl, hz⟩, r3, r4, rfl, ⟨s, rfl, hs⟩, rfl⟩ := h
  exact ⟨⟨z, s⟩, rfl, wf_i64 hz⟩) h hr
theorem arg_int [Syms] {ι : Inj} {x : AVal} {v : Value} (h : (Shp.int .i64).ok [x]) (hr : RelV ι x v) : ∃ z : Int, RelV ι (.int .i64 z) v ∧ I64 z := by
 obtain ⟨z, h1, hz⟩ := h
 cases h1
 exact ⟨z, hr, wf_i64 hz⟩
end Go.Proofs.Ytajieadpaeggcaa

end
