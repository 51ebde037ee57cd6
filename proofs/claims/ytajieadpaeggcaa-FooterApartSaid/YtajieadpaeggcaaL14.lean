/-
  What a file says of itself, written and read, is the same. Plain. Whether two files say the same. The program's. Whether two files say the same, whole. The program's. The document's 'Check'. Plain. The program's 'Check' and the document's answer the same. Plain. Shapes as text: words, and what they say. Plain. A shape's text. Plain. What 'Make' makes: trees, laid out. Plain. What 'Make' makes is printed. Plain.
-/
import Derived.Test.YtajieadpaeggcaaL11
import Derived.Test.YtajieadpaeggcaaL9
import Derived.Test.YtajieadpaeggcaaSxOne
import Derived.Test.YtajieadpaeggcaaL3
import Derived.Test.YtajieadpaeggcaaL1
set_option linter.unusedVariables false
set_option linter.unusedSimpArgs false
section
set_option linter.unusedVariables false
set_option linter.unusedSimpArgs false
namespace Go.Proofs.Ytajieadpaeggcaa
open Go Go.Av
def Num20 (x : Int) : Prop := 0 ≤ x ∧ x ≤ 1048576
theorem plainR_app {x : Int} (h : Num20 x) (r : List UInt8) : plainR ⟨nuB [x] ++ r, 0⟩ = (x.toNat, ⟨r, 0⟩) := by
 obtain ⟨h1, h2⟩ := h
 have := numR_app (n := x.toNat) (most := 1048576) 14 r (by omega) (by decide)
 unfold plainR
 rw [nuB, nuB, List.append_nil]
 exact this
theorem numN_app {n most : Nat} (w : Int) (r : List UInt8) (h : n ≤ most) (hm : most < 128 ^ 8) : numR most w ⟨nuB [(n : Int)] ++ r, 0⟩ = (n, ⟨r, 0⟩) := by
 have := numR_app (n := n) (most := most) w r h hm
 rw [nuB, nuB, List.append_nil, Int.toNat_natCast]
 exact this
theorem leV_mod : ∀ (n v : Nat), leV (leB n v) = v % 256 ^ n
 | 0, v => by rw [leB, leV, Nat.pow_zero, Nat.mod_one]
 | n + 1, v => by
   have ih := leV_mod n (v / 256)
   rw [leB, leV, ih, ofNat_lt (Nat.mod_lt _ (by decide)), Nat.pow_succ, Nat.mul_comm (256 ^ n) 256, Nat.mod_mul]
theorem fixV_app (n v : Nat) (r : List UInt8) : fixR n ⟨leB n v ++ r, 0⟩ = (v % 256 ^ n, ⟨r, 0⟩) := by
 have := takeR_app (leB n v) r
 rw [leB_len] at this
 unfold fixR
 rw [this, leV_mod]
theorem truthR_app (b : Bool) (r : List UInt8) : truthR ⟨flB b ++ r, 0⟩ = (if b = true then 1 else 0, ⟨r, 0⟩) := by
 have h : flB b = leB 1 (if b = true then 1 else 0) := by cases b <;> rfl
 have := fixV_app 1 (if b = true then 1 else 0) r
 unfold truthR
 rw [h, this]
 cases b <;> rfl
structure PgG (p : Pg) : Prop where
 n1 : Num20 p.rows
 n2 : Num20 p.cells
 n3 : Num20 p.enc
 n4 : Num20 p.rlen
 n5 : Num20 p.dlen
 n6 : Num20 p.vlen
 crc : CrcOk p.crc
theorem nuB_cons (x : Int) (l : List Int) : nuB (x :: l) = nuB [x] ++ nuB l := by rw [nuB, nuB, nuB, List.append_nil]
theorem fixC_app {x : Int} (h : CrcOk x) (r : List UInt8) : fixR 4 ⟨leB 4 x.toNat ++ r, 0⟩ = (x.toNat, ⟨r, 0⟩) := by
 rw [fixV_app, Nat.mod_eq_of_lt (by have := h.2; have := h.1; omega)]
theorem pageR_app {p : Pg} (h : PgG p) (r : List UInt8) : pageR ⟨pgB p ++ r, 0⟩ = (p, ⟨r, 0⟩) := by
 obtain ⟨h1, h2, h3, h4, h5, h6, h7⟩ := h
 unfold pageR pgB
 rw [nuB_cons, nuB_cons p.cells, nuB_cons p.enc, nuB_cons p.rlen, nuB_cons p.dlen]
 simp only [List.append_assoc]
 rw [plainR_app h1]
 simp only
 rw [plainR_app h2]
 simp only
 rw [plainR_app h3]
 simp only
 rw [plainR_app h4]
 simp only
 rw [plainR_app h5]
 simp only
 rw [plainR_app h6]
 simp only
 rw [fixC_app h7]
 simp only [Int.toNat_of_nonneg h1.1, Int.toNat_of_nonneg h2.1, Int.toNat_of_nonneg h3.1, Int.toNat_of_nonneg h4.1, Int.toNat_of_nonneg h5.1, Int.toNat_of_nonneg h6.1, Int.toNat_of_nonneg h7.1]
theorem pagesR_app : ∀ (l s : List Pg) (r : List UInt8), (∀ p ∈ l, PgG p) → pagesR l.length ⟨pgsB l ++ r, 0⟩ s = (s ++ l, ⟨r, 0⟩)
 | [], s, r, _ => by rw [List.append_nil]; rfl
 | p :: l, s, r, h => by
   have hp := pageR_app (h p (List.mem_cons_self ..)) (pgsB l ++ r)
   rw [List.length_cons, pagesR, pgsB, List.append_assoc, hp, if_neg (by simp), pagesR_app l _ r fun g hg => h g (List.mem_cons_of_mem _ hg)]
   simp
def VlG (k : Int) (v : Vl) : Prop := (k = 1 ∧ (v.n = 0 ∨ v.n = 1) ∧ v.s = []) ∨ (k = 2 ∧ (-2147483648 ≤ v.n ∧ v.n ≤ 2147483647) ∧ v.s = []) ∨ (k = 3 ∧ (-9223372036854775808 ≤ v.n ∧ v.n ≤ 9223372036854775807) ∧ v.s = []) ∨ ((k ≠ 1 ∧ k ≠ 2 ∧ k ≠ 3) ∧ v.n = 0 ∧ v.s.length ≤ 100)
theorem wrU64 (x : Int) (h : -9223372036854775808 ≤ x ∧ x ≤ 9223372036854775807) : (wr .u64 x).toNat = (x % 18446744073709551616).toNat := by
 unfold wr
 split
 ·rename_i h1
  have h2 : (0 : Int) ≤ x := h1.1
  omega
 ·show (if (false && decide (x % (2 ^ 64 : Int) ≥ (2 ^ 63 : Int))) = true then x % (2 ^ 64 : Int) - (2 ^ 64 : Int) else x % (2 ^ 64 : Int)).toNat = _
  simp
theorem wrI64b (x : Int) (h : -9223372036854775808 ≤ x ∧ x ≤ 9223372036854775807) : wr .i64 ((x % 18446744073709551616).toNat : Nat) = x := by
 unfold wr
 split
 ·rename_i h1
  have h2 : (((x % 18446744073709551616).toNat : Nat) : Int) ≤ 9223372036854775807 := h1.2
  omega
 ·rename_i h1
  have h2 : ¬ (((x % 18446744073709551616).toNat : Nat) : Int) ≤ 9223372036854775807 := fun hh => h1 ⟨by show (-9223372036854775808 : Int) ≤ _; omega, hh⟩
  show (if (true && decide ((((x % 18446744073709551616).toNat : Nat) : Int) % (2 ^ 64 : Int) ≥ (2 ^ 63 : Int))) = true then (((x % 18446744073709551616).toNat : Nat) : Int) % (2 ^ 64 : Int) - (2 ^ 64 : Int) else (((x % 18446744073709551616).toNat : Nat) : Int) % (2 ^ 64 : Int)) = x
  split <;> rename_i h3
  ·omega
  ·simp at h3
   omega
theorem wrI32b (x : Int) (h : -2147483648 ≤ x ∧ x ≤ 2147483647) : wr .i32 (((x % 18446744073709551616).toNat % 256 ^ 4 : Nat) : Int) = x := by
 unfold wr
 split
 ·rename_i h1
  have h2 : (((x % 18446744073709551616).toNat % 256 ^ 4 : Nat) : Int) ≤ 2147483647 := h1.2
  omega
 ·rename_i h1
  have h2 : ¬ (((x % 18446744073709551616).toNat % 256 ^ 4 : Nat) : Int) ≤ 2147483647 := fun hh => h1 ⟨by show (-2147483648 : Int) ≤ _; omega, hh⟩
  show (if (true && decide ((((x % 18446744073709551616).toNat % 256 ^ 4 : Nat) : Int) % (2 ^ 32 : Int) ≥ (2 ^ 31 : Int))) = true then (((x % 18446744073709551616).toNat % 256 ^ 4 : Nat) : Int) % (2 ^ 32 : Int) - (2 ^ 32 : Int) else (((x % 18446744073709551616).toNat % 256 ^ 4 : Nat) : Int) % (2 ^ 32 : Int)) = x
  split <;> rename_i h3
  ·omega
  ·simp at h3
   omega
theorem valR_app {k : Int} {v : Vl} (h : VlG k v) (r : List UInt8) : valR k ⟨vlB k v ++ r, 0⟩ = (v, ⟨r, 0⟩) := by
 obtain ⟨n, s⟩ := v
 rcases h with ⟨rfl, h1, h2⟩ | ⟨rfl, h1, h2⟩ | ⟨rfl, h1, h2⟩ | ⟨h0, h1, h2⟩
 ·have h2 : s = [] := h2
  subst h2
  have h1 : n = 0 ∨ n = 1 := h1
  rcases h1 with rfl | rfl
  ·rw [valR_1]
   have := truthR_app false r
   rw [show vlB 1 ⟨0, []⟩ = flB false from rfl, this]
   rfl
  ·rw [valR_1]
   have := truthR_app true r
   rw [show vlB 1 ⟨1, []⟩ = flB true from rfl, this]
   rfl
 ·have h2 : s = [] := h2
  subst h2
  have h1 : -2147483648 ≤ n ∧ n ≤ 2147483647 := h1
  rw [valR_2, show vlB 2 ⟨n, []⟩ = leB 4 (wr .u64 n).toNat from rfl, fixV_app, wrU64 n (by omega)]
  simp only [wrI32b n h1]
 ·have h2 : s = [] := h2
  subst h2
  have h1 : -9223372036854775808 ≤ n ∧ n ≤ 9223372036854775807 := h1
  rw [valR_3, show vlB 3 ⟨n, []⟩ = leB 8 (wr .u64 n).toNat from rfl, fixV_app, wrU64 n h1, Nat.mod_eq_of_lt (by omega)]
  simp only [wrI64b n h1]
 ·have h1 : n = 0 := h1
  subst h1
  have h2 : s.length ≤ 100 := h2
  have hv : vlB k ⟨0, s⟩ = nuB [(s.length : Int)] ++ s := by unfold vlB; rw [if_neg h0.1, if_neg h0.2.1, if_neg h0.2.2]
  rw [valR_4 h0, hv, List.append_assoc, numN_app (most := 100) 5 _ h2 (by decide)]
  simp only [takeR_app]
structure CkG (k : Int) (c : Ck) : Prop where
 n1 : Num20 c.words
 n2 : Num20 c.size
 crc : CrcOk c.crc
 len : c.pages.length ≤ 200
 pages : ∀ p ∈ c.pages, PgG p
 st0 : c.known = false → c.st = default
 nulls : c.known = true → Num20 c.st.nulls
 has0 : c.known = true → c.st.has = false → c.st.mn = default ∧ c.st.mx = default
 has1 : c.known = true → c.st.has = true → VlG k c.st.mn ∧ VlG k c.st.mx
theorem chunkR_app {k : Int} {c : Ck} (h : CkG k c) (r : List UInt8) : chunkR k ⟨ckB k c ++ r, 0⟩ = (c, ⟨r, 0⟩) := by
 obtain ⟨w, sz, cr, pg, kn, st⟩ := c
 obtain ⟨h1, h2, h3, h4, h5, h6, h7, h8, h9⟩ := h
 simp only at h1 h2 h3 h4 h5 h6 h7 h8 h9
 unfold chunkR ckR0 ckB
 rw [nuB_cons]
 simp only [List.append_assoc]
 rw [plainR_app h1]
 simp only
 rw [plainR_app h2]
 simp only
 rw [fixC_app h3]
 simp only
 rw [numN_app (most := 200) 4 _ h4 (by decide)]
 simp only
 rw [pagesR_app pg [] _ h5]
 simp only [List.nil_append]
 have hk : knowR k ⟨flB kn ++ ((if kn = true then stB k st else []) ++ r), 0⟩ = ((kn, st), ⟨r, 0⟩) := by
  unfold knowR
  rw [truthR_app]
  cases kn
  ·rw [h6 rfl]
   simp
  ·simp only [if_true]
   have h7 := h7 rfl
   have h8 := h8 rfl
   have h9 := h9 rfl
   obtain ⟨nu, ha, mn, mx⟩ := st
   simp only at h7 h8 h9
   have h7n : 0 ≤ nu := h7.1
   unfold stB
   simp only [List.append_assoc]
   rw [plainR_app h7]
   simp only
   rw [truthR_app]
   cases ha
   ·obtain ⟨e1, e2⟩ := h8 rfl
    subst e1 e2
    simp <;> omega
   ·obtain ⟨e1, e2⟩ := h9 rfl
    simp only [if_true, List.append_assoc]
    rw [valR_app e1]
    simp only
    rw [valR_app e2]
    simp <;> omega
 rw [hk]
 simp only [Int.toNat_of_nonneg h1.1, Int.toNat_of_nonneg h2.1, Int.toNat_of_nonneg h3.1]
theorem chunksR_app : ∀ (ks : List Int) (cs s : List Ck) (r : List UInt8), cs.length = ks.length → (∀ i, i < cs.length → CkG (ks.getD i 0) (cs.getD i default)) → chunksR ks ⟨cksB ks cs ++ r, 0⟩ s = (s ++ cs, ⟨r, 0⟩)
 | [], [], s, r, _, _ => by rw [List.append_nil]; rfl
 | [], _ :: _, s, r, h, _ => by simp at h
 | _ :: _, [], s, r, h, _ => by simp at h
 | k :: ks, c :: cs, s, r, hl, h => by
   have hc := chunkR_app (h 0 (by simp)) (cksB ks cs ++ r)
   have e1 : (k :: ks).getD 0 0 = k := rfl
   have e2 : (c :: cs).getD 0 default = c := rfl
   rw [e1, e2] at hc
   rw [chunksR, cksB, List.append_assoc, hc, if_neg (by simp), chunksR_app ks cs _ r (by simpa using hl) fun i hi => h (i + 1) (by simpa using hi)]
   simp
structure RwG (ks : List Int) (g : Rw) : Prop where
 n : Num20 g.n
 len : g.chunks.length = ks.length
 chunks : ∀ i, i < g.chunks.length → CkG (ks.getD i 0) (g.chunks.getD i default)
theorem groupR_app {ks : List Int} {g : Rw} (h : RwG ks g) (r : List UInt8) : groupR ks ⟨rwB ks g ++ r, 0⟩ = (g, ⟨r, 0⟩) := by
 obtain ⟨n, cs⟩ := g
 obtain ⟨h1, h2, h3⟩ := h
 simp only at h1 h2 h3
 unfold groupR rwB
 simp only [List.append_assoc]
 rw [plainR_app h1]
 simp only
 rw [chunksR_app ks cs [] r h2 h3]
 simp only [Int.toNat_of_nonneg h1.1, List.nil_append]
theorem groupsR_app (ks : List Int) : ∀ (l s : List Rw) (r : List UInt8), (∀ g ∈ l, RwG ks g) → groupsR ks l.length ⟨rwsB ks l ++ r, 0⟩ s = (s ++ l, ⟨r, 0⟩)
 | [], s, r, _ => by rw [List.append_nil]; rfl
 | p :: l, s, r, h => by
   have hp := groupR_app (h p (List.mem_cons_self ..)) (rwsB ks l ++ r)
   rw [List.length_cons, groupsR, rwsB, List.append_assoc, hp, if_neg (by simp), groupsR_app ks l _ r fun g hg => h g (List.mem_cons_of_mem _ hg)]
   simp
structure MtG (m : Mt) : Prop where
 sb : ∀ f ∈ m.s, SbOk f
 s40 : m.s.length ≤ 40
 chk : checkF m.s = 0
 sl : (sbF m.s).length ≤ 2000
 n : Num20 m.n
 len : m.groups.length ≤ 200
 groups : ∀ g ∈ m.groups, RwG (kindsF m.s) g
theorem metaR_app {m : Mt} (h : MtG m) (r : List UInt8) : metaR ⟨mtB m ++ r, 0⟩ = (m, ⟨r, 0⟩) := by
 obtain ⟨s, n, gs⟩ := m
 obtain ⟨h1, h2, h3, h4, h5, h6, h7⟩ := h
 simp only at h1 h2 h3 h4 h5 h6 h7
 unfold metaR mtB
 rw [nuB_cons n]
 simp only [List.append_assoc]
 rw [numN_app (most := 2000) 5 _ h4 (by decide)]
 simp only [takeR_app]
 rw [if_neg (by simp), parseSF_sbF h1 h2 h3]
 simp only
 rw [show failR ⟨nuB [n] ++ (nuB [(gs.length : Int)] ++ (rwsB (kindsF s) gs ++ r)), 0⟩ 0 = ⟨nuB [n] ++ (nuB [(gs.length : Int)] ++ (rwsB (kindsF s) gs ++ r)), 0⟩ from rfl, plainR_app h5]
 simp only
 rw [numN_app (most := 200) 4 _ h6 (by decide)]
 simp only
 rw [groupsR_app (kindsF s) gs [] r h7]
 simp only [Int.toNat_of_nonneg h5.1, List.nil_append]
/-- What is written is read. -/
theorem parseMF_mtB {m : Mt} (h : MtG m) (hw : wholeF m = true) : parseMF (mtB m) = (m, 0) := by
 have := metaR_app h []
 rw [List.append_nil] at this
 show finMF (metaR ⟨mtB m, 0⟩) = _
 rw [this, finMF_end, if_neg (by rw [hw]; decide)]
end Go.Proofs.Ytajieadpaeggcaa

end
section
set_option linter.unusedVariables false
set_option linter.unusedSimpArgs false
namespace Go.Proofs.Ytajieadpaeggcaa
open Go Go.Av
set_option maxRecDepth 100000
set_option maxHeartbeats 4000000
def lsEq {α : Type} (f : α → α → Bool) : List α → List α → Bool
 | [], [] => true
 | a :: l, b :: m => f a b && lsEq f l m
 | _, _ => false
def fdEq (a b : Fd) : Bool := eqb a.name b.name && (decide (a.rep = b.rep) && (decide (a.kind = b.kind) && (decide (a.kids = b.kids) && true)))
def pgEq (a b : Pg) : Bool := decide (a.rows = b.rows) && (decide (a.cells = b.cells) && (decide (a.enc = b.enc) && (decide (a.rlen = b.rlen) && (decide (a.dlen = b.dlen) && (decide (a.vlen = b.vlen) && (decide (a.crc = b.crc) && true))))))
def vlEq (a b : Vl) : Bool := decide (a.n = b.n) && (eqb a.s b.s && true)
def stEq (a b : Sta) : Bool := (decide (a.nulls = b.nulls) && true) && ((decide (a.has = b.has) && true) && (vlEq a.mn b.mn && (vlEq a.mx b.mx && true)))
def ckEq (a b : Ck) : Bool := decide (a.words = b.words) && decide (a.size = b.size) && decide (a.crc = b.crc) && lsEq pgEq a.pages b.pages && decide (a.known = b.known) && stEq a.st b.st
def rwEq (a b : Rw) : Bool := decide (a.n = b.n) && lsEq ckEq a.chunks b.chunks
def mtEq (a b : Mt) : Bool := lsEq fdEq a.s b.s && decide (a.n = b.n) && lsEq rwEq a.groups b.groups
theorem lsEq_drop {α : Type} [Inhabited α] (f : α → α → Bool) {l m : List α} {i : Nat} (h : i < l.length) (h2 : i < m.length) : lsEq f (l.drop i) (m.drop i) = (f (l.getD i default) (m.getD i default) && lsEq f (l.drop (i + 1)) (m.drop (i + 1))) := by
 rw [List.drop_eq_getElem_cons h, List.drop_eq_getElem_cons h2, lsEq]
 simp [h, h2]
theorem lsEq_len {α : Type} (f : α → α → Bool) : ∀ {l m : List α}, l.length ≠ m.length → lsEq f l m = false
 | [], [], h => absurd rfl h
 | [], _ :: _, _ => rfl
 | _ :: _, [], _ => rfl
 | a :: l, b :: m, h => by rw [lsEq, lsEq_len f (by simpa using h)]; simp
theorem lsEq_end {α : Type} (f : α → α → Bool) {l m : List α} (h : l.length = m.length) : lsEq f (l.drop l.length) (m.drop l.length) = true := by
 rw [List.drop_length, h, List.drop_length]; rfl
theorem eqFs_t [Syms] (a b : List Fd) (hl : a.length ≤ 1000000) : fnT noneT noneT (fnTab fns) (tyTab tys) (plTab plt) 100 68 [vF a, vF b] [] 0 (fun v H _ => v = .bool (lsEq fdEq a b) ∧ H = []) := by
 by_cases h0 : a.length = b.length
 ·repeat' (first | (refine And.intro ?_ ?_) | (intro h; try first | exact dzq | replace h := cvq))
  all_goals (try exact czq)
  refine ⟨fun m s => ∃ i : Nat, (i ≤ a.length ∧ m = a.length - i ∧ lsEq fdEq a b = lsEq fdEq (a.drop i) (b.drop i)) ∧ s = ⟨[(0, vF a), (1, vF b), (12, .int .i64 a.length), (13, .int .i64 i)], [], 0⟩, ⟨_, ⟨[(0, vF a), (1, vF b), (12, .int .i64 a.length), (13, .int .i64 (0 : Nat))], [], 0⟩, reb_num [] rfl ⟨.refl _, .refl _, .refl _, .refl _, trivial⟩ trivial, 0, ⟨by omega, rfl, rfl⟩, rfl⟩, ?_⟩
  rintro m s ⟨i, ⟨hi, rfl, he⟩, rfl⟩
  by_cases h1 : i < a.length
  ·have hd := lsEq_drop (l := a) (m := b) fdEq h1 (by omega)
   rw [← he] at hd
   cases hq : fdEq (a.getD i default) (b.getD i default)
   ·rw [hq, Bool.false_and] at hd
    have hx1 : (eqb (a.getD i default).name (b.getD i default).name && (decide ((a.getD i default).rep = (b.getD i default).rep) && (decide ((a.getD i default).kind = (b.getD i default).kind) && (decide ((a.getD i default).kids = (b.getD i default).kids) && true)))) = false := hq
    have hx2 := hx1
    have hx3 := hx1
    have hx4 := hx1
    rw [hd]
    repeat' (first | (refine And.intro ?_ ?_) | (intro h; try first | exact dzqi | replace h := cvqi))
    all_goals (try exact czq)
    all_goals first | exact ⟨_, reb_flat [4] rfl, _, rfl, rfl, rfl⟩ | skip
   ·rw [hq, Bool.true_and] at hd
    have hx1 : (eqb (a.getD i default).name (b.getD i default).name && (decide ((a.getD i default).rep = (b.getD i default).rep) && (decide ((a.getD i default).kind = (b.getD i default).kind) && (decide ((a.getD i default).kids = (b.getD i default).kids) && true)))) = true := hq
    have hx2 := hx1
    have hx3 := hx1
    have hx4 := hx1
    repeat' (first | (refine And.intro ?_ ?_) | (intro h; try first | exact dzqi | replace h := cvqi))
    all_goals (try exact czq)
    all_goals first | exact ⟨_, ⟨[(0, vF a), (1, vF b), (12, .int .i64 a.length), (13, .int .i64 ((i + 1 : Nat) : Int))], [], 0⟩, reb_num [] rfl ⟨.refl _, .refl _, .refl _, wk_int (by omega), trivial⟩ trivial, ⟨i + 1, ⟨by omega, rfl, hd⟩, rfl⟩, by omega⟩ | skip
  ·obtain rfl : i = a.length := by omega
   rw [he, lsEq_end _ h0]
   repeat' (first | (refine And.intro ?_ ?_) | (intro h; try first | exact dzq | replace h := cvq))
   all_goals (try exact czq)
   exact ⟨_, reb_flat [4] rfl, _, rfl, rfl, rfl⟩
 ·rw [lsEq_len _ h0]
  repeat' (first | (refine And.intro ?_ ?_) | (intro h; try first | exact dzq | replace h := cvq))
  all_goals (try exact czq)
  exact ⟨_, reb_flat [4] rfl, _, rfl, rfl, rfl⟩
def S_eqFs : SpecI := fun args K => ∃ a b, args = [vF a, vF b] ∧ a.length ≤ 1000000 ∧ K (.bool (lsEq fdEq a b))
theorem eqFs_ok [Syms] : ImmOk Try.prog 68 S_eqFs := by
 rintro args K ⟨a, b, rfl, h, hk⟩
 exact ⟨rfl, _, rfl, hk, fnI tys_ok fns_ok noneT_det noneT_ok mixed (eqFs_t a b h)⟩
theorem eqPs_t [Syms] (a b : List Pg) (hl : a.length ≤ 1000000) : fnT noneT noneT (fnTab fns) (tyTab tys) (plTab plt) 100 92 [vP a, vP b] [] 0 (fun v H _ => v = .bool (lsEq pgEq a b) ∧ H = []) := by
 by_cases h0 : a.length = b.length
 ·repeat' (first | (refine And.intro ?_ ?_) | (intro h; try first | exact dzq | replace h := cvq))
  all_goals (try exact czq)
  refine ⟨fun m s => ∃ i : Nat, (i ≤ a.length ∧ m = a.length - i ∧ lsEq pgEq a b = lsEq pgEq (a.drop i) (b.drop i)) ∧ s = ⟨[(0, vP a), (1, vP b), (12, .int .i64 a.length), (13, .int .i64 i)], [], 0⟩, ⟨_, ⟨[(0, vP a), (1, vP b), (12, .int .i64 a.length), (13, .int .i64 (0 : Nat))], [], 0⟩, reb_num [] rfl ⟨.refl _, .refl _, .refl _, .refl _, trivial⟩ trivial, 0, ⟨by omega, rfl, rfl⟩, rfl⟩, ?_⟩
  rintro m s ⟨i, ⟨hi, rfl, he⟩, rfl⟩
  by_cases h1 : i < a.length
  ·have hd := lsEq_drop (l := a) (m := b) pgEq h1 (by omega)
   rw [← he] at hd
   cases hq : pgEq (a.getD i default) (b.getD i default)
   ·rw [hq, Bool.false_and] at hd
    have hx1 : (decide ((a.getD i default).rows = (b.getD i default).rows) && (decide ((a.getD i default).cells = (b.getD i default).cells) && (decide ((a.getD i default).enc = (b.getD i default).enc) && (decide ((a.getD i default).rlen = (b.getD i default).rlen) && (decide ((a.getD i default).dlen = (b.getD i default).dlen) && (decide ((a.getD i default).vlen = (b.getD i default).vlen) && (decide ((a.getD i default).crc = (b.getD i default).crc) && true))))))) = false := hq
    have hx2 := hx1
    have hx3 := hx1
    have hx4 := hx1
    rw [hd]
    repeat' (first | (refine And.intro ?_ ?_) | (intro h; try first | exact dzqi | replace h := cvqi))
    all_goals (try exact czq)
    all_goals first | exact ⟨_, reb_flat [4] rfl, _, rfl, rfl, rfl⟩ | skip
   ·rw [hq, Bool.true_and] at hd
    have hx1 : (decide ((a.getD i default).rows = (b.getD i default).rows) && (decide ((a.getD i default).cells = (b.getD i default).cells) && (decide ((a.getD i default).enc = (b.getD i default).enc) && (decide ((a.getD i default).rlen = (b.getD i default).rlen) && (decide ((a.getD i default).dlen = (b.getD i default).dlen) && (decide ((a.getD i default).vlen = (b.getD i default).vlen) && (decide ((a.getD i default).crc = (b.getD i default).crc) && true))))))) = true := hq
    have hx2 := hx1
    have hx3 := hx1
    have hx4 := hx1
    repeat' (first | (refine And.intro ?_ ?_) | (intro h; try first | exact dzqi | replace h := cvqi))
    all_goals (try exact czq)
    all_goals first | exact ⟨_, ⟨[(0, vP a), (1, vP b), (12, .int .i64 a.length), (13, .int .i64 ((i + 1 : Nat) : Int))], [], 0⟩, reb_num [] rfl ⟨.refl _, .refl _, .refl _, wk_int (by omega), trivial⟩ trivial, ⟨i + 1, ⟨by omega, rfl, hd⟩, rfl⟩, by omega⟩ | skip
  ·obtain rfl : i = a.length := by omega
   rw [he, lsEq_end _ h0]
   repeat' (first | (refine And.intro ?_ ?_) | (intro h; try first | exact dzq | replace h := cvq))
   all_goals (try exact czq)
   exact ⟨_, reb_flat [4] rfl, _, rfl, rfl, rfl⟩
 ·rw [lsEq_len _ h0]
  repeat' (first | (refine And.intro ?_ ?_) | (intro h; try first | exact dzq | replace h := cvq))
  all_goals (try exact czq)
  exact ⟨_, reb_flat [4] rfl, _, rfl, rfl, rfl⟩
def S_eqPs : SpecI := fun args K => ∃ a b, args = [vP a, vP b] ∧ a.length ≤ 1000000 ∧ K (.bool (lsEq pgEq a b))
theorem eqPs_ok [Syms] : ImmOk Try.prog 92 S_eqPs := by
 rintro args K ⟨a, b, rfl, h, hk⟩
 exact ⟨rfl, _, rfl, hk, fnI tys_ok fns_ok noneT_det noneT_ok mixed (eqPs_t a b h)⟩
end Go.Proofs.Ytajieadpaeggcaa

end
section
set_option linter.unusedVariables false
set_option linter.unusedSimpArgs false
namespace Go.Proofs.Ytajieadpaeggcaa
open Go Go.Av
set_option maxRecDepth 100000
set_option maxHeartbeats 4000000
def encS (s : Sta) : List AVal := [.int .i64 s.nulls, .bool s.has, .int .i64 s.mn.n, .str s.mn.s, .int .i64 s.mx.n, .str s.mx.s]
theorem stSame_t [Syms] (a b : Sta) : fnT noneT noneT (fnTab fns) (tyTab tys) (plTab plt) 100 93 [.agg (encS a), .agg (encS b)] [] 0 (fun v H _ => v = .bool (stEq a b) ∧ H = []) := by
 repeat' (first | (refine And.intro ?_ ?_) | (intro h; try first | exact dzq | replace h := cvq))
 all_goals (try exact cz)
 exact ⟨_, reb_flat [4] rfl, _, rfl, rfl, rfl⟩
def S_stSame : SpecI := fun args K => ∃ a b, args = [.agg (encS a), .agg (encS b)] ∧ K (.bool (stEq a b))
theorem stSame_ok [Syms] : ImmOk Try.prog 93 S_stSame := by
 rintro args K ⟨a, b, rfl, hk⟩
 exact ⟨rfl, _, rfl, hk, fnI tys_ok fns_ok noneT_det noneT_ok mixed (stSame_t a b)⟩
abbrev cSc : CallT := pickT 92 (immT (seeW S_eqPs)) (pickT 93 (immT S_stSame) noneT)
theorem cSc_ok [Syms] : cSc.ok Try.prog := pickT_imm_ok eqPs_ok.seeW (pickT_imm_ok stSame_ok noneT_ok)
noncomputable def plSm : Nat → Nat → Pl := plAdd [(70, 0), (41, 0), (18, 0)] (plTab plt)
def smS (ra rb : List AVal) : St := ⟨[(2, .ptr 0 0 0), (3, .ptr 1 0 0)], [(0, some (.cells [ra] false)), (1, some (.cells [rb] false))], 2⟩
theorem sm_reb [Syms] {N nx : Nat} {e : Env} {H : Heap} {ra rb ra' rb' : List AVal} (h2 : e.get 2 = .ptr 0 0 0) (h3 : e.get 3 = .ptr 1 0 0) (H0 : H.get 0 = some (.cells [ra'] false)) (H1 : H.get 1 = some (.cells [rb'] false)) (ha : ra' = ra) (hb : rb' = rb) (fa : ∀ x ∈ ra, x.flat = true) (fb : ∀ x ∈ rb, x.flat = true) (hn : NumsOk 0 nx [0, 1] = true) : Reb 0 N ⟨e, H, nx⟩ (smS ra rb) := by
 subst ha hb
 exact reb_num [0, 1] hn ⟨by rw [h2]; exact .refl _, by rw [h3]; exact .refl _, trivial⟩ ⟨⟨Nat.succ_pos _, _, H0, wkB_same (flat_cons fa flat_nil)⟩, ⟨Nat.lt_succ_self _, _, H1, wkB_same (flat_cons fb flat_nil)⟩, trivial⟩
theorem ckSame_t [Syms] (a b : Ck) (hl : a.pages.length ≤ 1000000) : fnT noneT cSc (fnTab fns) (tyTab tys) plSm 100 70 [.agg (encC a), .agg (encC b)] [] 0 (fun v H _ => v = .bool (ckEq a b) ∧ H = []) := by
 repeat' (first | (refine And.intro ?_ ?_) | (intro h; try first | exact dzq | replace h := cvq))
 all_goals (try exact cz)
 refine ⟨smS (encC a) (encC b), sm_reb rfl rfl rfl rfl rfl rfl (eC a) (eC b) rfl, ?_⟩
 have hq : ckEq a b = (decide (a.words = b.words) && decide (a.size = b.size) && decide (a.crc = b.crc) && lsEq pgEq a.pages b.pages && decide (a.known = b.known) && stEq a.st b.st) := rfl
 rw [hq]
 clear hq
 by_cases h1 : a.words = b.words
 ·by_cases h2 : a.size = b.size
  ·by_cases h3 : a.crc = b.crc
   ·repeat' (first | (refine And.intro ?_ ?_) | (intro h; try first | exact dzq | replace h := cvq))
    all_goals (try exact cz)
    all_goals refine ⟨[vP a.pages, vP b.pages], ⟨.tab rfl, .tab rfl, trivial⟩, a.pages, b.pages, rfl, hl, ?_⟩
    cases h4 : lsEq pgEq a.pages b.pages
    ·repeat' (first | (refine And.intro ?_ ?_) | (intro h; try first | exact dzq | replace h := cvq))
     all_goals (try exact cz)
     all_goals exact ⟨_, reb_flat [4] rfl, _, rfl, congrArg AVal.bool (by simp [*]), rfl⟩
    ·by_cases h5 : a.known = b.known
     ·have hx1 : (a.known = b.known) = True := eq_true h5
      have hx2 := hx1
      have hx3 := hx1
      have hx4 := hx1
      repeat' (first | (refine And.intro ?_ ?_) | (intro h; try first | exact dzqi | replace h := cvqi))
      all_goals (try exact cz)
      all_goals refine ⟨a.st, b.st, rfl, ?_⟩
      repeat' (first | (refine And.intro ?_ ?_) | (intro h; try first | exact dzqi | replace h := cvqi))
      all_goals (try exact cz)
      all_goals exact ⟨_, reb_flat [4] rfl, _, rfl, congrArg AVal.bool (by simp [*]), rfl⟩
     ·have hx1 : (a.known = b.known) = False := eq_false h5
      have hx2 := hx1
      have hx3 := hx1
      have hx4 := hx1
      repeat' (first | (refine And.intro ?_ ?_) | (intro h; try first | exact dzqi | replace h := cvqi))
      all_goals (try exact cz)
      all_goals exact ⟨_, reb_flat [4] rfl, _, rfl, congrArg AVal.bool (by simp [*]), rfl⟩
   ·repeat' (first | (refine And.intro ?_ ?_) | (intro h; try first | exact dzq | replace h := cvq))
    all_goals (try exact cz)
    all_goals exact ⟨_, reb_flat [4] rfl, _, rfl, congrArg AVal.bool (by simp [*]), rfl⟩
  ·repeat' (first | (refine And.intro ?_ ?_) | (intro h; try first | exact dzq | replace h := cvq))
   all_goals (try exact cz)
   all_goals exact ⟨_, reb_flat [4] rfl, _, rfl, congrArg AVal.bool (by simp [*]), rfl⟩
 ·repeat' (first | (refine And.intro ?_ ?_) | (intro h; try first | exact dzq | replace h := cvq))
  all_goals (try exact cz)
  all_goals exact ⟨_, reb_flat [4] rfl, _, rfl, congrArg AVal.bool (by simp [*]), rfl⟩
def S_ckSame : SpecI := fun args K => ∃ a b, args = [.agg (encC a), .agg (encC b)] ∧ a.pages.length ≤ 1000000 ∧ K (.bool (ckEq a b))
theorem ckSame_ok [Syms] : ImmOk Try.prog 70 S_ckSame := by
 rintro args K ⟨a, b, rfl, h, hk⟩
 exact ⟨rfl, _, rfl, hk, fnI tys_ok fns_ok noneT_det cSc_ok mixed (ckSame_t a b h)⟩
abbrev ccksSame : CallT := pickT 70 (immT S_ckSame) noneT
theorem ccksSame_ok [Syms] : ccksSame.ok Try.prog := pickT_imm_ok ckSame_ok noneT_ok
theorem cksSame_t [Syms] (a b : List Ck) (hl : a.length ≤ 1000000) (hh : ∀ x ∈ a, x.pages.length ≤ 1000000) : fnT noneT ccksSame (fnTab fns) (tyTab tys) (plTab plt) 100 69 [vC a, vC b, .func 70 []] [] 0 (fun v H _ => v = .bool (lsEq ckEq a b) ∧ H = []) := by
 by_cases h0 : a.length = b.length
 ·repeat' (first | (refine And.intro ?_ ?_) | (intro h; try first | exact dzq | replace h := cvq))
  all_goals (try exact czq)
  refine ⟨fun m s => ∃ i : Nat, (i ≤ a.length ∧ m = a.length - i ∧ lsEq ckEq a b = lsEq ckEq (a.drop i) (b.drop i)) ∧ s = ⟨[(1, vC b), (2, .func 70 []), (15, vC a), (16, .int .i64 a.length), (17, .int .i64 i)], [], 0⟩, ⟨_, ⟨[(1, vC b), (2, .func 70 []), (15, vC a), (16, .int .i64 a.length), (17, .int .i64 (0 : Nat))], [], 0⟩, reb_num [] rfl ⟨.refl _, .refl _, .refl _, .refl _, .refl _, trivial⟩ trivial, 0, ⟨by omega, rfl, rfl⟩, rfl⟩, ?_⟩
  rintro m s ⟨i, ⟨hi, rfl, he⟩, rfl⟩
  by_cases h1 : i < a.length
  ·have hd := lsEq_drop (l := a) (m := b) ckEq h1 (by omega)
   rw [← he] at hd
   have hai : (a.getD i default).pages.length ≤ 1000000 := by
    rw [List.getD_eq_getElem?_getD, List.getElem?_eq_getElem h1]; exact hh _ (List.getElem_mem h1)
   repeat' (first | (refine And.intro ?_ ?_) | (intro h; try first | exact dzq | replace h := cvq))
   all_goals (try exact czq)
   refine ⟨a.getD i default, b.getD i default, rfl, hai, ?_⟩
   cases hq : ckEq (a.getD i default) (b.getD i default)
   ·rw [hq, Bool.false_and] at hd
    rw [hd]
    repeat' (first | (refine And.intro ?_ ?_) | (intro h; try first | exact dzq | replace h := cvq))
    all_goals (try exact czq)
    all_goals exact ⟨_, reb_flat [6] rfl, _, rfl, rfl, rfl⟩
   ·rw [hq, Bool.true_and] at hd
    repeat' (first | (refine And.intro ?_ ?_) | (intro h; try first | exact dzq | replace h := cvq))
    all_goals (try exact czq)
    all_goals exact ⟨_, ⟨[(1, vC b), (2, .func 70 []), (15, vC a), (16, .int .i64 a.length), (17, .int .i64 ((i + 1 : Nat) : Int))], [], 0⟩, reb_num [] rfl ⟨.refl _, .refl _, .refl _, .refl _, wk_int (by omega), trivial⟩ trivial, ⟨i + 1, ⟨by omega, rfl, hd⟩, rfl⟩, by omega⟩
  ·obtain rfl : i = a.length := by omega
   rw [he, lsEq_end _ h0]
   repeat' (first | (refine And.intro ?_ ?_) | (intro h; try first | exact dzq | replace h := cvq))
   all_goals (try exact czq)
   exact ⟨_, reb_flat [6] rfl, _, rfl, rfl, rfl⟩
 ·rw [lsEq_len _ h0]
  repeat' (first | (refine And.intro ?_ ?_) | (intro h; try first | exact dzq | replace h := cvq))
  all_goals (try exact czq)
  exact ⟨_, reb_flat [6] rfl, _, rfl, rfl, rfl⟩
def S_cksSame : SpecI := fun args K => ∃ a b, args = [vC a, vC b, .func 70 []] ∧ (a.length ≤ 1000000 ∧ ∀ x ∈ a, x.pages.length ≤ 1000000) ∧ K (.bool (lsEq ckEq a b))
theorem cksSame_ok [Syms] : ImmOk Try.prog 69 S_cksSame := by
 rintro args K ⟨a, b, rfl, ⟨h1, h2⟩, hk⟩
 exact ⟨rfl, _, rfl, hk, fnI tys_ok fns_ok noneT_det ccksSame_ok mixed (cksSame_t a b h1 h2)⟩
abbrev cSr : CallT := pickT 69 (immT (seeW S_cksSame)) noneT
theorem cSr_ok [Syms] : cSr.ok Try.prog := pickT_imm_ok cksSame_ok.seeW noneT_ok
def RwS (x : Rw) : Prop := x.chunks.length ≤ 1000000 ∧ ∀ c ∈ x.chunks, c.pages.length ≤ 1000000
theorem rwSame_t [Syms] (a b : Rw) (hl : RwS a) : fnT noneT cSr (fnTab fns) (tyTab tys) plSm 100 41 [.agg (encR a), .agg (encR b)] [] 0 (fun v H _ => v = .bool (rwEq a b) ∧ H = []) := by
 repeat' (first | (refine And.intro ?_ ?_) | (intro h; try first | exact dzq | replace h := cvq))
 all_goals (try exact cz)
 refine ⟨smS (encR a) (encR b), sm_reb rfl rfl rfl rfl rfl rfl (eR a) (eR b) rfl, ?_⟩
 have hq : rwEq a b = (decide (a.n = b.n) && lsEq ckEq a.chunks b.chunks) := rfl
 rw [hq]
 clear hq
 by_cases h1 : a.n = b.n
 ·repeat' (first | (refine And.intro ?_ ?_) | (intro h; try first | exact dzq | replace h := cvq))
  all_goals (try exact cz)
  all_goals refine ⟨[vC a.chunks, vC b.chunks, .func 70 []], ⟨.tab rfl, .tab rfl, .refl _, trivial⟩, a.chunks, b.chunks, rfl, hl, ?_⟩
  repeat' (first | (refine And.intro ?_ ?_) | (intro h; try first | exact dzq | replace h := cvq))
  all_goals (try exact cz)
  all_goals exact ⟨_, reb_flat [4] rfl, _, rfl, congrArg AVal.bool (by simp [*]), rfl⟩
 ·repeat' (first | (refine And.intro ?_ ?_) | (intro h; try first | exact dzq | replace h := cvq))
  all_goals (try exact cz)
  all_goals exact ⟨_, reb_flat [4] rfl, _, rfl, congrArg AVal.bool (by simp [*]), rfl⟩
def S_rwSame : SpecI := fun args K => ∃ a b, args = [.agg (encR a), .agg (encR b)] ∧ RwS a ∧ K (.bool (rwEq a b))
theorem rwSame_ok [Syms] : ImmOk Try.prog 41 S_rwSame := by
 rintro args K ⟨a, b, rfl, h, hk⟩
 exact ⟨rfl, _, rfl, hk, fnI tys_ok fns_ok noneT_det cSr_ok mixed (rwSame_t a b h)⟩
abbrev crwsSame : CallT := pickT 41 (immT S_rwSame) noneT
theorem crwsSame_ok [Syms] : crwsSame.ok Try.prog := pickT_imm_ok rwSame_ok noneT_ok
theorem rwsSame_t [Syms] (a b : List Rw) (hl : a.length ≤ 1000000) (hh : ∀ x ∈ a, RwS x) : fnT noneT crwsSame (fnTab fns) (tyTab tys) (plTab plt) 100 40 [vR a, vR b, .func 41 []] [] 0 (fun v H _ => v = .bool (lsEq rwEq a b) ∧ H = []) := by
 by_cases h0 : a.length = b.length
 ·repeat' (first | (refine And.intro ?_ ?_) | (intro h; try first | exact dzq | replace h := cvq))
  all_goals (try exact czq)
  refine ⟨fun m s => ∃ i : Nat, (i ≤ a.length ∧ m = a.length - i ∧ lsEq rwEq a b = lsEq rwEq (a.drop i) (b.drop i)) ∧ s = ⟨[(1, vR b), (2, .func 41 []), (15, vR a), (16, .int .i64 a.length), (17, .int .i64 i)], [], 0⟩, ⟨_, ⟨[(1, vR b), (2, .func 41 []), (15, vR a), (16, .int .i64 a.length), (17, .int .i64 (0 : Nat))], [], 0⟩, reb_num [] rfl ⟨.refl _, .refl _, .refl _, .refl _, .refl _, trivial⟩ trivial, 0, ⟨by omega, rfl, rfl⟩, rfl⟩, ?_⟩
  rintro m s ⟨i, ⟨hi, rfl, he⟩, rfl⟩
  by_cases h1 : i < a.length
  ·have hd := lsEq_drop (l := a) (m := b) rwEq h1 (by omega)
   rw [← he] at hd
   have hai : RwS (a.getD i default) := by
    rw [List.getD_eq_getElem?_getD, List.getElem?_eq_getElem h1]; exact hh _ (List.getElem_mem h1)
   repeat' (first | (refine And.intro ?_ ?_) | (intro h; try first | exact dzq | replace h := cvq))
   all_goals (try exact czq)
   refine ⟨a.getD i default, b.getD i default, rfl, hai, ?_⟩
   cases hq : rwEq (a.getD i default) (b.getD i default)
   ·rw [hq, Bool.false_and] at hd
    rw [hd]
    repeat' (first | (refine And.intro ?_ ?_) | (intro h; try first | exact dzq | replace h := cvq))
    all_goals (try exact czq)
    all_goals exact ⟨_, reb_flat [6] rfl, _, rfl, rfl, rfl⟩
   ·rw [hq, Bool.true_and] at hd
    repeat' (first | (refine And.intro ?_ ?_) | (intro h; try first | exact dzq | replace h := cvq))
    all_goals (try exact czq)
    all_goals exact ⟨_, ⟨[(1, vR b), (2, .func 41 []), (15, vR a), (16, .int .i64 a.length), (17, .int .i64 ((i + 1 : Nat) : Int))], [], 0⟩, reb_num [] rfl ⟨.refl _, .refl _, .refl _, .refl _, wk_int (by omega), trivial⟩ trivial, ⟨i + 1, ⟨by omega, rfl, hd⟩, rfl⟩, by omega⟩
  ·obtain rfl : i = a.length := by omega
   rw [he, lsEq_end _ h0]
   repeat' (first | (refine And.intro ?_ ?_) | (intro h; try first | exact dzq | replace h := cvq))
   all_goals (try exact czq)
   exact ⟨_, reb_flat [6] rfl, _, rfl, rfl, rfl⟩
 ·rw [lsEq_len _ h0]
  repeat' (first | (refine And.intro ?_ ?_) | (intro h; try first | exact dzq | replace h := cvq))
  all_goals (try exact czq)
  exact ⟨_, reb_flat [6] rfl, _, rfl, rfl, rfl⟩
def S_rwsSame : SpecI := fun args K => ∃ a b, args = [vR a, vR b, .func 41 []] ∧ (a.length ≤ 1000000 ∧ ∀ x ∈ a, RwS x) ∧ K (.bool (lsEq rwEq a b))
theorem rwsSame_ok [Syms] : ImmOk Try.prog 40 S_rwsSame := by
 rintro args K ⟨a, b, rfl, ⟨h1, h2⟩, hk⟩
 exact ⟨rfl, _, rfl, hk, fnI tys_ok fns_ok noneT_det crwsSame_ok mixed (rwsSame_t a b h1 h2)⟩
theorem sSame_t [Syms] (a b : List Fd) (hl : a.length ≤ 1000000) : fnT noneT (pickT 68 (immT S_eqFs) noneT) (fnTab fns) (tyTab tys) (plTab plt) 100 39 [vF a, vF b] [] 0 (fun v H _ => v = .bool (lsEq fdEq a b) ∧ H = []) := by
 refine ⟨a, b, rfl, hl, ?_⟩
 repeat' (first | (refine And.intro ?_ ?_) | (intro h; try first | exact dzq | replace h := cvq))
 all_goals (try exact cz)
 exact ⟨_, reb_flat [4] rfl, _, rfl, rfl, rfl⟩
def S_sSame : SpecI := fun args K => ∃ a b, args = [vF a, vF b] ∧ a.length ≤ 1000000 ∧ K (.bool (lsEq fdEq a b))
theorem sSame_ok [Syms] : ImmOk Try.prog 39 S_sSame := by
 rintro args K ⟨a, b, rfl, h, hk⟩
 exact ⟨rfl, _, rfl, hk, fnI tys_ok fns_ok noneT_det (pickT_imm_ok eqFs_ok noneT_ok) mixed (sSame_t a b h)⟩
abbrev cSm : CallT := pickT 39 (immT (seeW S_sSame)) (pickT 40 (immT (seeW S_rwsSame)) noneT)
theorem cSm_ok [Syms] : cSm.ok Try.prog := pickT_imm_ok sSame_ok.seeW (pickT_imm_ok rwsSame_ok.seeW noneT_ok)
structure MtS (m : Mt) : Prop where
 s : m.s.length ≤ 1000000
 len : m.groups.length ≤ 1000000
 groups : ∀ g ∈ m.groups, RwS g
theorem mtSame_t [Syms] (a b : Mt) (hms : MtS a) : fnT noneT cSm (fnTab fns) (tyTab tys) plSm 100 18 [.agg (encM a), .agg (encM b)] [] 0 (fun v H _ => v = .bool (mtEq a b) ∧ H = []) := by
 repeat' (first | (refine And.intro ?_ ?_) | (intro h; try first | exact dzq | replace h := cvq))
 all_goals (try exact cz)
 refine ⟨smS (encM a) (encM b), sm_reb rfl rfl rfl rfl rfl rfl (eM a) (eM b) rfl, ?_⟩
 have hq : mtEq a b = (lsEq fdEq a.s b.s && decide (a.n = b.n) && lsEq rwEq a.groups b.groups) := rfl
 rw [hq]
 clear hq
 have hx1 : ∀ m : Mt, (encM m).getD 1 .any = .int .i64 m.n := fun _ => rfl
 have hx2 : ∀ m : Mt, (encM m).getD (0 + 1) .any = .int .i64 m.n := fun _ => rfl
 have hx3 := hx1
 have hx4 := hx1
 repeat' (first | (refine And.intro ?_ ?_) | (intro h; try first | exact dzqi | replace h := cvqi))
 all_goals (try exact cz)
 refine ⟨[vF a.s, vF b.s], ⟨.tab rfl, .tab rfl, trivial⟩, a.s, b.s, rfl, hms.s, ?_⟩
 cases h4 : lsEq fdEq a.s b.s
 ·repeat' (first | (refine And.intro ?_ ?_) | (intro h; try first | exact dzqi | replace h := cvqi))
  all_goals (try exact cz)
  all_goals exact ⟨_, reb_flat [4] rfl, _, rfl, congrArg AVal.bool (by simp [*]), rfl⟩
 ·by_cases h1 : a.n = b.n
  ·repeat' (first | (refine And.intro ?_ ?_) | (intro h; try first | exact dzqi | replace h := cvqi))
   all_goals (try exact cz)
   all_goals refine ⟨[vR a.groups, vR b.groups, .func 41 []], ⟨.tab rfl, .tab rfl, .refl _, trivial⟩, a.groups, b.groups, rfl, ⟨hms.len, hms.groups⟩, ?_⟩
   repeat' (first | (refine And.intro ?_ ?_) | (intro h; try first | exact dzqi | replace h := cvqi))
   all_goals (try exact cz)
   all_goals exact ⟨_, reb_flat [4] rfl, _, rfl, congrArg AVal.bool (by simp [*]), rfl⟩
  ·repeat' (first | (refine And.intro ?_ ?_) | (intro h; try first | exact dzqi | replace h := cvqi))
   all_goals (try exact cz)
   all_goals exact ⟨_, reb_flat [4] rfl, _, rfl, congrArg AVal.bool (by simp [*]), rfl⟩
def S_mtSame : SpecI := fun args K => ∃ a b, args = [.agg (encM a), .agg (encM b)] ∧ MtS a ∧ K (.bool (mtEq a b))
theorem mtSame_ok [Syms] : ImmOk Try.prog 18 S_mtSame := by
 rintro args K ⟨a, b, rfl, h, hk⟩
 exact ⟨rfl, _, rfl, hk, fnI tys_ok fns_ok noneT_det cSm_ok mixed (mtSame_t a b h)⟩
end Go.Proofs.Ytajieadpaeggcaa

end
section
set_option linter.unusedVariables false
set_option linter.unusedSimpArgs false
namespace Go.Proofs.Ytajieadpaeggcaa
open Go Go.Av
end Go.Proofs.Ytajieadpaeggcaa

end
section
set_option linter.unusedVariables false
set_option linter.unusedSimpArgs false
namespace Go.Proofs.Ytajieadpaeggcaa
open Go Go.Av
end Go.Proofs.Ytajieadpaeggcaa

end
section
set_option linter.unusedVariables false
set_option linter.unusedSimpArgs false
namespace Go.Proofs.Ytajieadpaeggcaa
open Go Go.Av
abbrev Wd := List UInt8
def markF (c : UInt8) : Bool := decide (c.toNat = 123) || decide (c.toNat = 125) || decide (c.toNat = 59)
/-- A word: signs of names alone, or a mark. -/
def wordOk (w : Wd) : Prop := w ≠ [] ∧ ((∀ c ∈ w, signF c = true) ∨ ∃ c, w = [c] ∧ markF c = true)
/-! ### Reading -/
def kwReps : List Wd := [[114, 101, 113, 117, 105, 114, 101, 100], [111, 112, 116, 105, 111, 110, 97, 108], [114, 101, 112, 101, 97, 116, 101, 100]]
def kwKinds : List Wd := [[103, 114, 111, 117, 112], [98, 111, 111, 108], [105, 110, 116, 51, 50], [105, 110, 116, 54, 52], [98, 121, 116, 101, 115]]
def kwMsg : Wd := [109, 101, 115, 115, 97, 103, 101]
def nameT (w : Wd) : Bool := match w with
 | [] => false
 | c :: _ => letterF c && decide (w.length ≤ 12)
theorem nameT_eq {w : Wd} (h : wordOk w) : nameT w = nameF w := by
 cases w with
 | nil => exact absurd rfl h.1
 | cons c t =>
   show (letterF c && decide ((c :: t).length ≤ 12)) = (decide (1 ≤ (c :: t).length) && decide ((c :: t).length ≤ 12) && letterF c && (c :: t).all signF)
   rw [decide_eq_true (show 1 ≤ (c :: t).length by simp)]
   rcases h.2 with h | ⟨d, hd, hm⟩
   ·rw [List.all_eq_true.2 h]
    cases letterF c <;> cases decide ((c :: t).length ≤ 12) <;> rfl
   ·cases hd
    have : letterF c = false := by
     cases hl : letterF c with
     | false => rfl
     | true =>
       simp only [letterF, markF, Bool.and_eq_true, Bool.or_eq_true, decide_eq_true_eq] at hl hm
       omega
    rw [this]; simp
structure PS where
 ws : List Wd
 fs : List Fd
 e : Int
 deriving Inhabited
end Go.Proofs.Ytajieadpaeggcaa

end
section
set_option linter.unusedVariables false
set_option linter.unusedSimpArgs false
namespace Go.Proofs.Ytajieadpaeggcaa
open Go Go.Av
def blanksT (d : Nat) : List UInt8 := List.replicate (2 * d) 32
def frontT (d : Nat) (f : Fd) : List UInt8 := if d = 0 then kwMsg ++ [32] else blanksT d ++ kwReps.getD f.rep.toNat [] ++ [32] ++ kwKinds.getD f.kind.toNat [] ++ [32]
def leafT (d : Nat) (f : Fd) : List UInt8 := frontT d f ++ f.name ++ [59, 10]
def openT (d : Nat) (f : Fd) : List UInt8 := frontT d f ++ f.name ++ [32, 123, 10]
def closeT (d : Nat) : List UInt8 := blanksT d ++ [125, 10]
/-- k fields from i on, of a depth, are printed so; behind them lies j. -/
inductive PrT (s : List Fd) : Nat → Nat → Nat → Nat → List UInt8 → Nat → Prop
 | nil {n i d : Nat} : PrT s n 0 i d [] i
 | leaf {n k i d j : Nat} {t : List UInt8} (hi : i < s.length) (hk : (s.getD i default).kind ≠ 0) (h : PrT s n k (i + 1) d t j) : PrT s n (k + 1) i d (leafT d (s.getD i default) ++ t) j
 | group {n k m i i1 d j : Nat} {t1 t2 : List UInt8} (hi : i < s.length) (hk : (s.getD i default).kind = 0) (hm : (s.getD i default).kids = m) (h1 : PrT s n m (i + 1) (d + 1) t1 i1) (h2 : PrT s (n + 1) k i1 d t2 j) :
    PrT s (n + 1) (k + 1) i d (openT d (s.getD i default) ++ t1 ++ closeT d ++ t2) j
theorem PrT.split {s : List Fd} {n k i d j : Nat} {t : List UInt8} (h : PrT s n (k + 1) i d t j) : ∃ t1 i1 t2, PrT s n 1 i d t1 i1 ∧ PrT s n k i1 d t2 j ∧ t = t1 ++ t2 := by
 cases h with
 | leaf hi hk h => exact ⟨_, _, _, .leaf hi hk .nil, h, by simp⟩
 | group hi hk hm h1 h2 => exact ⟨_, _, _, .group hi hk hm h1 .nil, h2, by simp⟩
theorem PrT.one {s : List Fd} {n i d j : Nat} {t : List UInt8} (h : PrT s n 1 i d t j) : i < s.length ∧
 (((s.getD i default).kind ≠ 0 ∧ t = leafT d (s.getD i default) ∧ j = i + 1) ∨
   (∃ n' m t1, (s.getD i default).kind = 0 ∧ n = n' + 1 ∧ (s.getD i default).kids = (m : Nat) ∧ PrT s n' m (i + 1) (d + 1) t1 j ∧ t = openT d (s.getD i default) ++ t1 ++ closeT d)) := by
 cases h with
 | leaf hi hk h =>
   cases h with
   | nil => exact ⟨hi, .inl ⟨hk, by simp, rfl⟩⟩
 | group hi hk hm h1 h2 =>
   cases h2 with
   | nil => exact ⟨hi, .inr ⟨_, _, _, hk, rfl, hm, h1, by simp⟩⟩
theorem PrT.pos {s : List Fd} {n k i d j : Nat} {t : List UInt8} (h : PrT s n k i d t j) : i ≤ j := by
 induction h with
 | nil => exact Nat.le_refl _
 | leaf _ _ _ ih => omega
 | group _ _ _ _ _ ih1 ih2 => omega
/-- What a shape has that is printed. -/
structure PrOk (s : List Fd) : Prop where
 len : s.length < 1000
 rep : ∀ i, i < s.length → 0 ≤ (s.getD i default).rep ∧ (s.getD i default).rep ≤ 2
 kind : ∀ i, i < s.length → 0 ≤ (s.getD i default).kind ∧ (s.getD i default).kind ≤ 4
end Go.Proofs.Ytajieadpaeggcaa

end
section
set_option linter.unusedVariables false
set_option linter.unusedSimpArgs false
namespace Go.Proofs.Ytajieadpaeggcaa
open Go Go.Av
/-- A field as it may be. -/
structure FOk (f : Fd) : Prop where
 rep : 0 ≤ f.rep ∧ f.rep ≤ 2
 kind : 0 ≤ f.kind ∧ f.kind ≤ 4
 name : nameT f.name = true
 sign : ∀ c ∈ f.name, signF c = true
/-- Fields that are so many trees, of a depth. -/
inductive Fo : Nat → Nat → List Fd → Prop
 | nil {d : Nat} : Fo d 0 []
 | leaf {d k : Nat} {f : Fd} {l : List Fd} (hd : d ≤ 8) (hf : FOk f) (hk : f.kind ≠ 0) (h0 : f.kids = 0) (h : Fo d k l) : Fo d (k + 1) (f :: l)
 | group {d k m : Nat} {f : Fd} {l1 l2 : List Fd} (hd : d ≤ 8) (hf : FOk f) (hk : f.kind = 0) (hm : f.kids = (m : Nat)) (hp : 0 < m) (h1 : Fo (d + 1) m l1) (h2 : Fo d k l2) : Fo d (k + 1) (f :: (l1 ++ l2))
theorem Fo.snoc {d k : Nat} {l x : List Fd} (h : Fo d k l) (hx : Fo d 1 x) : Fo d (k + 1) (l ++ x) := by
 induction h with
 | nil => exact hx
 | leaf hd hf hk h0 _ ih => exact .leaf hd hf hk h0 (ih hx)
 | group hd hf hk hm hp h1 _ _ ih =>
   rw [List.cons_append, List.append_assoc]
   exact .group hd hf hk hm hp h1 (ih hx)
/-- Groups that are open, the innermost ahead: each one's fields so far. -/
inductive Sp : List Int → List Fd → Prop
 | root {f : Fd} {l : List Fd} {k : Nat} (hf : FOk f) (hk : f.kind = 0) (hr : f.rep = 0) (hm : f.kids = (k : Nat)) (h : Fo 1 k l) : Sp [0] (f :: l)
 | push {a : Int} {t : List Int} {fs : List Fd} {f : Fd} {l : List Fd} {k : Nat} (h : Sp (a :: t) fs) (hd : t.length + 1 ≤ 8) (hf : FOk f) (hk : f.kind = 0) (hm : f.kids = (k : Nat)) (hl : Fo (t.length + 2) k l) :
    Sp ((fs.length : Int) :: a :: t) (incK fs a.toNat ++ f :: l)
theorem Sp.ne {op : List Int} {fs : List Fd} (h : Sp op fs) : ∃ a t, op = a :: t ∧ fs ≠ [] := by
 cases h with
 | root => exact ⟨_, _, rfl, by simp⟩
 | push => exact ⟨_, _, rfl, by simp⟩
theorem Sp.top {a : Int} {t : List Int} {fs : List Fd} (h : Sp (a :: t) fs) : a.toNat < fs.length ∧ 0 ≤ a ∧ ∃ k : Nat, (fs.getD a.toNat default).kids = (k : Nat) := by
 cases h with
 | root hf hk hr hm h => exact ⟨by simp, by omega, _, hm⟩
 | push h hd hf hk hm hl =>
   rename_i k
   refine ⟨by simp [incK_length], by omega, k, ?_⟩
   rw [Int.toNat_natCast, List.getD_eq_getElem?_getD, List.getElem?_append_right (by rw [incK_length]; exact Nat.le_refl _), incK_length, Nat.sub_self]
   exact hm
theorem inc_at {fs : List Fd} {f : Fd} {l : List Fd} {n : Nat} (h : n = fs.length) : incK (fs ++ f :: l) n = fs ++ { f with kids := f.kids + 1 } :: l := by
 subst h
 unfold incK
 have e : (fs ++ f :: l).getD fs.length default = f := by
  rw [List.getD_eq_getElem?_getD, List.getElem?_append_right (Nat.le_refl _), Nat.sub_self]; rfl
 rw [e]
 simp only [List.set_append, Nat.lt_irrefl, if_false, Nat.sub_self, List.set_cons_zero]
/-- One tree more in the innermost group. -/
theorem Sp.add {a : Int} {t : List Int} {fs x : List Fd} (h : Sp (a :: t) fs) (hx : Fo (t.length + 1) 1 x) : Sp (a :: t) (incK fs a.toNat ++ x) := by
 generalize hop : a :: t = op at h
 cases h with
 | root hf hk hr hm h =>
   cases hop
   rename_i f l k
   have e : incK (f :: l) (0 : Int).toNat = { f with kids := f.kids + 1 } :: l := inc_at (fs := []) rfl
   rw [e]
   exact .root (f := { f with kids := f.kids + 1 }) (k := k + 1) ⟨hf.rep, hf.kind, hf.name, hf.sign⟩ hk hr (by show f.kids + 1 = _; rw [hm]; rfl) (h.snoc hx)
 | push h hd hf hk hm hl =>
   cases hop
   rename_i a' t' fs' f l k
   rw [inc_at (by rw [incK_length, Int.toNat_natCast]), List.append_assoc]
   exact .push (f := { f with kids := f.kids + 1 }) (k := k + 1) h hd ⟨hf.rep, hf.kind, hf.name, hf.sign⟩ hk (by show f.kids + 1 = _; rw [hm]; rfl) (hl.snoc hx)
theorem Sp.pop {b a : Int} {t : List Int} {fs : List Fd} (h : Sp (b :: a :: t) fs) (hk : 0 < (fs.getD b.toNat default).kids) : Sp (a :: t) fs ∧ 0 < (fs.getD a.toNat default).kids := by
 generalize hop : b :: a :: t = op at h
 cases h with
 | root => cases hop
 | push h hd hf hk' hm hl =>
   cases hop
   rename_i fs' f l k
   rw [Int.toNat_natCast, List.getD_eq_getElem?_getD, List.getElem?_append_right (by rw [incK_length]; exact Nat.le_refl _), incK_length, Nat.sub_self] at hk
   have hk : 0 < f.kids := hk
   obtain ⟨h1, h2, k', h3⟩ := h.top
   refine ⟨h.add ?_, ?_⟩
   ·have := Fo.group (d := t.length + 1) (k := 0) (m := k) hd hf hk' hm (by omega) hl .nil
    rwa [List.append_nil] at this
   ·have e : (incK fs' a.toNat ++ f :: l).getD a.toNat default = { fs'.getD a.toNat default with kids := (fs'.getD a.toNat default).kids + 1 } := by
     rw [List.getD_eq_getElem?_getD, List.getElem?_append_left (by rw [incK_length]; exact h1), incK, List.getElem?_set_self (by exact h1)]; rfl
    rw [e]
    show 0 < (fs'.getD a.toNat default).kids + 1
    omega
theorem Sp.pops {fs : List Fd} : ∀ (k : Nat) (op : List Int), Sp op fs → Sp (popM fs k op) fs ∧ (popM fs k op).length ≤ op.length
 | 0, op, h => ⟨h, Nat.le_refl _⟩
 | k + 1, [], h => ⟨h, Nat.le_refl _⟩
 | k + 1, [a], h => ⟨h, Nat.le_refl _⟩
 | k + 1, a :: b :: t, h => by
   rw [popM]
   split
   ·rename_i hk
    obtain ⟨h1, h2⟩ := Sp.pops k (b :: t) (h.pop hk).1
    exact ⟨h1, by simp at h2 ⊢; omega⟩
   ·exact ⟨h, Nat.le_refl _⟩
theorem Sp.close : ∀ (op : List Int) (fs : List Fd), Sp op fs → 0 < (fs.getD (topM op).toNat default).kids → ∃ (f : Fd) (l : List Fd) (k : Nat), fs = f :: l ∧ FOk f ∧ f.kind = 0 ∧ f.rep = 0 ∧ f.kids = (k : Nat) ∧ 0 < k ∧ Fo 1 k l
 | [], fs, h, _ => by cases h
 | [a], fs, h, hk => by
   generalize hop : [a] = op at h
   cases h with
   | root hf hkk hr hm h =>
     rename_i f l k
     have hk : 0 < f.kids := by cases hop; exact hk
     exact ⟨_, _, _, rfl, hf, hkk, hr, hm, by omega, h⟩
   | push => cases hop
 | b :: a :: t, fs, h, hk => by
   obtain ⟨h1, h2⟩ := h.pop hk
   exact Sp.close (a :: t) fs h1 h2
theorem nm_ok : ∀ i, i < 12 → nameT (nmM i) = true ∧ ∀ c ∈ nmM i, signF c = true := by decide
theorem fld_ok (op : List Int) {i : Nat} (hi : i < 12) (x : Int) : FOk (fldM op i x) ∧ (fldM op i x).kids = 0 := by
 have h1 := wi_range (a := wr .i64 (x.tdiv 8)) (n := 3) (by omega)
 have h2 := wi_range (a := x) (n := 8) (by omega)
 obtain ⟨h3, h4⟩ := nm_ok i hi
 refine ⟨⟨⟨h1.1, by show wi _ 3 ≤ 2; omega⟩, ?_, h3, h4⟩, rfl⟩
 show 0 ≤ kindM op x ∧ kindM op x ≤ 4
 unfold kindM
 have h5 := Int.tmod_lt_of_pos (wi x 8) (show (0 : Int) < 5 by decide)
 have h6 := Int.tmod_nonneg 5 h2.1
 split <;> omega
theorem kind_deep {op : List Int} {x : Int} (h : kindM op x = 0) : op.length ≤ 4 := by
 unfold kindM at h
 split at h
 ·omega
 ·rename_i hn
  exact Nat.le_of_not_lt fun hl => hn ⟨hl, h⟩
/-- One field more: the groups that are open stay so. -/
theorem Sp.step {fs : List Fd} {op : List Int} {i : Nat} {x : Int} (h : Sp op fs) (hl : op.length ≤ 5) (hi : i < 12) : Sp (stepM fs op i x).2 (stepM fs op i x).1 ∧ (stepM fs op i x).2.length ≤ 5 := by
 obtain ⟨h1, h2⟩ := Sp.pops (wi (wr .i64 (x.tdiv 64)) 3).toNat op h
 unfold stepM
 simp only
 generalize popM fs (wi (wr .i64 (x.tdiv 64)) 3).toNat op = o at *
 obtain ⟨a, t, rfl, hne⟩ := h1.ne
 obtain ⟨hf, hk0⟩ := fld_ok (a :: t) hi x
 have ht : topM (a :: t) = a := rfl
 rw [ht]
 split
 ·rename_i hk
  have h4 := kind_deep (show kindM (a :: t) x = 0 from hk)
  simp at h4 h2
  exact ⟨.push (k := 0) h1 (by omega) hf hk (by rw [hk0]; rfl) .nil, by simp; omega⟩
 ·rename_i hk
  simp at h2
  exact ⟨h1.add (.leaf (by omega) hf hk hk0 .nil), by simp; omega⟩
theorem run_sp {ns : List Int} : ∀ (n i : Nat) (fs : List Fd) (op : List Int), Sp op fs → op.length ≤ 5 → Sp (runM ns n i fs op).2 (runM ns n i fs op).1 ∧ (runM ns n i fs op).2.length ≤ 5
 | 0, i, fs, op, h, hl => ⟨h, hl⟩
 | n + 1, i, fs, op, h, hl => by
   rw [runM]
   split
   ·rename_i hi
    have hs := Sp.step (x := ns.getD i 0) h hl hi.2
    exact run_sp n (i + 1) _ _ hs.1 hs.2
   ·exact ⟨h, hl⟩
/-- What 'Make' makes is one tree. -/
theorem make_fo (ns : List Int) : ∃ (f : Fd) (l : List Fd) (k : Nat), makeF ns = f :: l ∧ FOk f ∧ f.kind = 0 ∧ f.rep = 0 ∧ f.kids = (k : Nat) ∧ 0 < k ∧ Fo 1 k l := by
 have h0 : Sp [0] fs0 := .root (k := 0) ⟨by decide, by decide, by decide, by decide⟩ rfl rfl rfl .nil
 have h := run_sp (ns := ns) 12 0 fs0 [0] h0 (by decide)
 rw [makeF]
 generalize (runM ns 12 0 [⟨[109], 0, 0, 0⟩] [0]) = r at *
 have hl5 : (r.2).length ≤ 5 := h.2
 have h : Sp r.2 r.1 := h.1
 rw [endM]
 obtain ⟨a, t, ho, hne⟩ := h.ne
 rw [ho] at h
 obtain ⟨h1, h2, k, h3⟩ := h.top
 have ht : topM r.2 = a := by rw [ho]; rfl
 rw [ht]
 split
 ·rename_i hk
  have hz : FOk ⟨[122], 0, 4, 0⟩ := ⟨by decide, by decide, by decide, by decide⟩
  have hd : t.length + 1 ≤ 8 := by rw [ho] at hl5; simp at hl5; omega
  have ha := h.add (.leaf (f := ⟨[122], 0, 4, 0⟩) hd hz (by decide) rfl .nil)
  refine Sp.close (a :: t) _ ha ?_
  show 0 < ((incK r.1 a.toNat ++ [_]).getD a.toNat default).kids
  rw [List.getD_eq_getElem?_getD, List.getElem?_append_left (by rw [incK_length]; exact h1), incK, List.getElem?_set_self (by exact h1)]
  show 0 < (r.1.getD a.toNat default).kids + 1
  omega
 ·rename_i hk
  refine Sp.close (a :: t) _ h ?_
  show 0 < (r.1.getD a.toNat default).kids
  omega
end Go.Proofs.Ytajieadpaeggcaa

end
section
set_option linter.unusedVariables false
set_option linter.unusedSimpArgs false
namespace Go.Proofs.Ytajieadpaeggcaa
open Go Go.Av
theorem Fo.all {d k : Nat} {l : List Fd} (h : Fo d k l) : ∀ f ∈ l, FOk f := by
 induction h with
 | nil => intro f hf; cases hf
 | leaf hd hf hk h0 h ih =>
   intro f h
   rcases List.mem_cons.1 h with rfl | h
   ·exact hf
   ·exact ih f h
 | group hd hf hk hm hp h1 h2 ih1 ih2 =>
   intro f h
   rcases List.mem_cons.1 h with rfl | h
   ·exact hf
   ·rcases List.mem_append.1 h with h | h
    ·exact ih1 f h
    ·exact ih2 f h
/-- A shape that is printed. -/
structure PrS (s : List Fd) (t : List UInt8) : Prop where
 pr : PrT s 9 1 0 0 t s.length
 ok : PrOk s
 len : t.length ≤ 64 * s.length
theorem step_len (fs : List Fd) (op : List Int) (i : Nat) (x : Int) : (stepM fs op i x).1.length = fs.length + 1 := by
 simp [stepM, incK_length]
theorem run_len {ns : List Int} : ∀ (n i : Nat) (fs : List Fd) (op : List Int), (runM ns n i fs op).1.length ≤ fs.length + n
 | 0, _, _, _ => Nat.le_refl _
 | n + 1, i, fs, op => by
   rw [runM]
   split
   ·have := run_len (ns := ns) n (i + 1) (stepM fs op i (ns.getD i 0)).1 (stepM fs op i (ns.getD i 0)).2
    rw [step_len] at this
    show (runM ns n (i + 1) (stepM fs op i (ns.getD i 0)).1 (stepM fs op i (ns.getD i 0)).2).1.length ≤ _
    omega
   ·show fs.length ≤ _; omega
theorem make_len (ns : List Int) : (makeF ns).length ≤ 14 := by
 have h := run_len (ns := ns) 12 0 [⟨[109], 0, 0, 0⟩] [0]
 rw [makeF]
 generalize (runM ns 12 0 [⟨[109], 0, 0, 0⟩] [0]) = r at *
 have h : r.1.length ≤ 13 := h
 show (endM r.1 r.2).length ≤ 14
 unfold endM
 split
 ·simp [incK_length]; omega
 ·omega
end Go.Proofs.Ytajieadpaeggcaa

end
