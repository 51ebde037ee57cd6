/-
  What a file says of itself, written and read, is the same. Plain. Whether two files say the same. The program's. Whether two files say the same, whole. The program's. The document's 'Check'. Plain. The program's 'Check' and the document's answer the same. Plain. Shapes as text: words, and what they say. Plain. A shape's text. Plain. What 'Make' makes: trees, laid out. Plain. What 'Make' makes is printed. Plain. What 'Make' makes may be: nothing is wrong with it. Plain. Made descriptions may be written and read. Plain.
-/
import Derived.Test.YtajieadpaeggcaaL11
import Derived.Test.YtajieadpaeggcaaL9
import Derived.Test.YtajieadpaeggcaaSxOne
import Derived.Test.YtajieadpaeggcaaL3
import Derived.Test.YtajieadpaeggcaaL1
set_option linter.unusedVariables false
set_option linter.unusedSimpArgs false
section
set_option linter.unusedVariables false
set_option linter.unusedSimpArgs false
namespace Go.Proofs.Ytajieadpaeggcaa
open Go Go.Av
def Num20 (x : Int) : Prop := 0 ≤ x ∧ x ≤ 1048576
theorem plainR_app {x : Int} (h : Num20 x) (r : List UInt8) : plainR ⟨nuB [x] ++ r, 0⟩ = (x.toNat, ⟨r, 0⟩) := by
 obtain ⟨h1, h2⟩ := h
 have := numR_app (n := x.toNat) (most := 1048576) 14 r (by omega) (by decide)
 unfold plainR
 rw [nuB, nuB, List.append_nil]
 exact this
theorem numN_app {n most : Nat} (w : Int) (r : List UInt8) (h : n ≤ most) (hm : most < 128 ^ 8) : numR most w ⟨nuB [(n : Int)] ++ r, 0⟩ = (n, ⟨r, 0⟩) := by
 have := numR_app (n := n) (most := most) w r h hm
 rw [nuB, nuB, List.append_nil, Int.toNat_natCast]
 exact this
theorem leV_mod : ∀ (n v : Nat), leV (leB n v) = v % 256 ^ n
 | 0, v => by rw [leB, leV, Nat.pow_zero, Nat.mod_one]
 | n + 1, v => by
   have ih := leV_mod n (v / 256)
   rw [leB, leV, ih, ofNat_lt (Nat.mod_lt _ (by decide)), Nat.pow_succ, Nat.mul_comm (256 ^ n) 256, Nat.mod_mul]
theorem fixV_app (n v : Nat) (r : List UInt8) : fixR n ⟨leB n v ++ r, 0⟩ = (v % 256 ^ n, ⟨r, 0⟩) := by
 have := takeR_app (leB n v) r
 rw [leB_len] at this
 unfold fixR
 rw [this, leV_mod]
theorem truthR_app (b : Bool) (r : List UInt8) : truthR ⟨flB b ++ r, 0⟩ = (if b = true then 1 else 0, ⟨r, 0⟩) := by
 have h : flB b = leB 1 (if b = true then 1 else 0) := by cases b <;> rfl
 have := fixV_app 1 (if b = true then 1 else 0) r
 unfold truthR
 rw [h, this]
 cases b <;> rfl
structure PgG (p : Pg) : Prop where
 n1 : Num20 p.rows
 n2 : Num20 p.cells
 n3 : Num20 p.enc
 n4 : Num20 p.rlen
 n5 : Num20 p.dlen
 n6 : Num20 p.vlen
 crc : CrcOk p.crc
theorem nuB_cons (x : Int) (l : List Int) : nuB (x :: l) = nuB [x] ++ nuB l := by rw [nuB, nuB, nuB, List.append_nil]
theorem fixC_app {x : Int} (h : CrcOk x) (r : List UInt8) : fixR 4 ⟨leB 4 x.toNat ++ r, 0⟩ = (x.toNat, ⟨r, 0⟩) := by
 rw [fixV_app, Nat.mod_eq_of_lt (by have := h.2; have := h.1; omega)]
theorem pageR_app {p : Pg} (h : PgG p) (r : List UInt8) : pageR ⟨pgB p ++ r, 0⟩ = (p, ⟨r, 0⟩) := by
 obtain ⟨h1, h2, h3, h4, h5, h6, h7⟩ := h
 unfold pageR pgB
 rw [nuB_cons, nuB_cons p.cells, nuB_cons p.enc, nuB_cons p.rlen, nuB_cons p.dlen]
 simp only [List.append_assoc]
 rw [plainR_app h1]
 simp only
 rw [plainR_app h2]
 simp only
 rw [plainR_app h3]
 simp only
 rw [plainR_app h4]
 simp only
 rw [plainR_app h5]
 simp only
 rw [plainR_app h6]
 simp only
 rw [fixC_app h7]
 simp only [Int.toNat_of_nonneg h1.1, Int.toNat_of_nonneg h2.1, Int.toNat_of_nonneg h3.1, Int.toNat_of_nonneg h4.1, Int.toNat_of_nonneg h5.1, Int.toNat_of_nonneg h6.1, Int.toNat_of_nonneg h7.1]
theorem pagesR_app : ∀ (l s : List Pg) (r : List UInt8), (∀ p ∈ l, PgG p) → pagesR l.length ⟨pgsB l ++ r, 0⟩ s = (s ++ l, ⟨r, 0⟩)
 | [], s, r, _ => by rw [List.append_nil]; rfl
 | p :: l, s, r, h => by
   have hp := pageR_app (h p (List.mem_cons_self ..)) (pgsB l ++ r)
   rw [List.length_cons, pagesR, pgsB, List.append_assoc, hp, if_neg (by simp), pagesR_app l _ r fun g hg => h g (List.mem_cons_of_mem _ hg)]
   simp
def VlG (k : Int) (v : Vl) : Prop := (k = 1 ∧ (v.n = 0 ∨ v.n = 1) ∧ v.s = []) ∨ (k = 2 ∧ (-2147483648 ≤ v.n ∧ v.n ≤ 2147483647) ∧ v.s = []) ∨ (k = 3 ∧ (-9223372036854775808 ≤ v.n ∧ v.n ≤ 9223372036854775807) ∧ v.s = []) ∨ ((k ≠ 1 ∧ k ≠ 2 ∧ k ≠ 3) ∧ v.n = 0 ∧ v.s.length ≤ 100)
theorem wrU64 (x : Int) (h : -9223372036854775808 ≤ x ∧ x ≤ 9223372036854775807) : (wr .u64 x).toNat = (x % 18446744073709551616).toNat := by
 unfold wr
 split
 ·rename_i h1
  have h2 : (0 : Int) ≤ x := h1.1
  omega
 ·show (if (false && decide (x % (2 ^ 64 : Int) ≥ (2 ^ 63 : Int))) = true then x % (2 ^ 64 : Int) - (2 ^ 64 : Int) else x % (2 ^ 64 : Int)).toNat = _
  simp
theorem wrI64b (x : Int) (h : -9223372036854775808 ≤ x ∧ x ≤ 9223372036854775807) : wr .i64 ((x % 18446744073709551616).toNat : Nat) = x := by
 unfold wr
 split
 ·rename_i h1
  have h2 : (((x % 18446744073709551616).toNat : Nat) : Int) ≤ 9223372036854775807 := h1.2
  omega
 ·rename_i h1
  have h2 : ¬ (((x % 18446744073709551616).toNat : Nat) : Int) ≤ 9223372036854775807 := fun hh => h1 ⟨by show (-9223372036854775808 : Int) ≤ _; omega, hh⟩
  show (if (true && decide ((((x % 18446744073709551616).toNat : Nat) : Int) % (2 ^ 64 : Int) ≥ (2 ^ 63 : Int))) = true then (((x % 18446744073709551616).toNat : Nat) : Int) % (2 ^ 64 : Int) - (2 ^ 64 : Int) else (((x % 18446744073709551616).toNat : Nat) : Int) % (2 ^ 64 : Int)) = x
  split <;> rename_i h3
  ·omega
  ·simp at h3
   omega
theorem wrI32b (x : Int) (h : -2147483648 ≤ x ∧ x ≤ 2147483647) : wr .i32 (((x % 18446744073709551616).toNat % 256 ^ 4 : Nat) : Int) = x := by
 unfold wr
 split
 ·rename_i h1
  have h2 : (((x % 18446744073709551616).toNat % 256 ^ 4 : Nat) : Int) ≤ 2147483647 := h1.2
  omega
 ·rename_i h1
  have h2 : ¬ (((x % 18446744073709551616).toNat % 256 ^ 4 : Nat) : Int) ≤ 2147483647 := fun hh => h1 ⟨by show (-2147483648 : Int) ≤ _; omega, hh⟩
  show (if (true && decide ((((x % 18446744073709551616).toNat % 256 ^ 4 : Nat) : Int) % (2 ^ 32 : Int) ≥ (2 ^ 31 : Int))) = true then (((x % 18446744073709551616).toNat % 256 ^ 4 : Nat) : Int) % (2 ^ 32 : Int) - (2 ^ 32 : Int) else (((x % 18446744073709551616).toNat % 256 ^ 4 : Nat) : Int) % (2 ^ 32 : Int)) = x
  split <;> rename_i h3
  ·omega
  ·simp at h3
   omega
theorem valR_app {k : Int} {v : Vl} (h : VlG k v) (r : List UInt8) : valR k ⟨vlB k v ++ r, 0⟩ = (v, ⟨r, 0⟩) := by
 obtain ⟨n, s⟩ := v
 rcases h with ⟨rfl, h1, h2⟩ | ⟨rfl, h1, h2⟩ | ⟨rfl, h1, h2⟩ | ⟨h0, h1, h2⟩
 ·have h2 : s = [] := h2
  subst h2
  have h1 : n = 0 ∨ n = 1 := h1
  rcases h1 with rfl | rfl
  ·rw [valR_1]
   have := truthR_app false r
   rw [show vlB 1 ⟨0, []⟩ = flB false from rfl, this]
   rfl
  ·rw [valR_1]
   have := truthR_app true r
   rw [show vlB 1 ⟨1, []⟩ = flB true from rfl, this]
   rfl
 ·have h2 : s = [] := h2
  subst h2
  have h1 : -2147483648 ≤ n ∧ n ≤ 2147483647 := h1
  rw [valR_2, show vlB 2 ⟨n, []⟩ = leB 4 (wr .u64 n).toNat from rfl, fixV_app, wrU64 n (by omega)]
  simp only [wrI32b n h1]
 ·have h2 : s = [] := h2
  subst h2
  have h1 : -9223372036854775808 ≤ n ∧ n ≤ 9223372036854775807 := h1
  rw [valR_3, show vlB 3 ⟨n, []⟩ = leB 8 (wr .u64 n).toNat from rfl, fixV_app, wrU64 n h1, Nat.mod_eq_of_lt (by omega)]
  simp only [wrI64b n h1]
 ·have h1 : n = 0 := h1
  subst h1
  have h2 : s.length ≤ 100 := h2
  have hv : vlB k ⟨0, s⟩ = nuB [(s.length : Int)] ++ s := by unfold vlB; rw [if_neg h0.1, if_neg h0.2.1, if_neg h0.2.2]
  rw [valR_4 h0, hv, List.append_assoc, numN_app (most := 100) 5 _ h2 (by decide)]
  simp only [takeR_app]
structure CkG (k : Int) (c : Ck) : Prop where
 n1 : Num20 c.words
 n2 : Num20 c.size
 crc : CrcOk c.crc
 len : c.pages.length ≤ 200
 pages : ∀ p ∈ c.pages, PgG p
 st0 : c.known = false → c.st = default
 nulls : c.known = true → Num20 c.st.nulls
 has0 : c.known = true → c.st.has = false → c.st.mn = default ∧ c.st.mx = default
 has1 : c.known = true → c.st.has = true → VlG k c.st.mn ∧ VlG k c.st.mx
theorem chunkR_app {k : Int} {c : Ck} (h : CkG k c) (r : List UInt8) : chunkR k ⟨ckB k c ++ r, 0⟩ = (c, ⟨r, 0⟩) := by
 obtain ⟨w, sz, cr, pg, kn, st⟩ := c
 obtain ⟨h1, h2, h3, h4, h5, h6, h7, h8, h9⟩ := h
 simp only at h1 h2 h3 h4 h5 h6 h7 h8 h9
 unfold chunkR ckR0 ckB
 rw [nuB_cons]
 simp only [List.append_assoc]
 rw [plainR_app h1]
 simp only
 rw [plainR_app h2]
 simp only
 rw [fixC_app h3]
 simp only
 rw [numN_app (most := 200) 4 _ h4 (by decide)]
 simp only
 rw [pagesR_app pg [] _ h5]
 simp only [List.nil_append]
 have hk : knowR k ⟨flB kn ++ ((if kn = true then stB k st else []) ++ r), 0⟩ = ((kn, st), ⟨r, 0⟩) := by
  unfold knowR
  rw [truthR_app]
  cases kn
  ·rw [h6 rfl]
   simp
  ·simp only [if_true]
   have h7 := h7 rfl
   have h8 := h8 rfl
   have h9 := h9 rfl
   obtain ⟨nu, ha, mn, mx⟩ := st
   simp only at h7 h8 h9
   have h7n : 0 ≤ nu := h7.1
   unfold stB
   simp only [List.append_assoc]
   rw [plainR_app h7]
   simp only
   rw [truthR_app]
   cases ha
   ·obtain ⟨e1, e2⟩ := h8 rfl
    subst e1 e2
    simp <;> omega
   ·obtain ⟨e1, e2⟩ := h9 rfl
    simp only [if_true, List.append_assoc]
    rw [valR_app e1]
    simp only
    rw [valR_app e2]
    simp <;> omega
 rw [hk]
 simp only [Int.toNat_of_nonneg h1.1, Int.toNat_of_nonneg h2.1, Int.toNat_of_nonneg h3.1]
theorem chunksR_app : ∀ (ks : List Int) (cs s : List Ck) (r : List UInt8), cs.length = ks.length → (∀ i, i < cs.length → CkG (ks.getD i 0) (cs.getD i default)) → chunksR ks ⟨cksB ks cs ++ r, 0⟩ s = (s ++ cs, ⟨r, 0⟩)
 | [], [], s, r, _, _ => by rw [List.append_nil]; rfl
 | [], _ :: _, s, r, h, _ => by simp at h
 | _ :: _, [], s, r, h, _ => by simp at h
 | k :: ks, c :: cs, s, r, hl, h => by
   have hc := chunkR_app (h 0 (by simp)) (cksB ks cs ++ r)
   have e1 : (k :: ks).getD 0 0 = k := rfl
   have e2 : (c :: cs).getD 0 default = c := rfl
   rw [e1, e2] at hc
   rw [chunksR, cksB, List.append_assoc, hc, if_neg (by simp), chunksR_app ks cs _ r (by simpa using hl) fun i hi => h (i + 1) (by simpa using hi)]
   simp
structure RwG (ks : List Int) (g : Rw) : Prop where
 n : Num20 g.n
 len : g.chunks.length = ks.length
 chunks : ∀ i, i < g.chunks.length → CkG (ks.getD i 0) (g.chunks.getD i default)
theorem groupR_app {ks : List Int} {g : Rw} (h : RwG ks g) (r : List UInt8) : groupR ks ⟨rwB ks g ++ r, 0⟩ = (g, ⟨r, 0⟩) := by
 obtain ⟨n, cs⟩ := g
 obtain ⟨h1, h2, h3⟩ := h
 simp only at h1 h2 h3
 unfold groupR rwB
 simp only [List.append_assoc]
 rw [plainR_app h1]
 simp only
 rw [chunksR_app ks cs [] r h2 h3]
 simp only [Int.toNat_of_nonneg h1.1, List.nil_append]
theorem groupsR_app (ks : List Int) : ∀ (l s : List Rw) (r : List UInt8), (∀ g ∈ l, RwG ks g) → groupsR ks l.length ⟨rwsB ks l ++ r, 0⟩ s = (s ++ l, ⟨r, 0⟩)
 | [], s, r, _ => by rw [List.append_nil]; rfl
 | p :: l, s, r, h => by
   have hp := groupR_app (h p (List.mem_cons_self ..)) (rwsB ks l ++ r)
   rw [List.length_cons, groupsR, rwsB, List.append_assoc, hp, if_neg (by simp), groupsR_app ks l _ r fun g hg => h g (List.mem_cons_of_mem _ hg)]
   simp
structure MtG (m : Mt) : Prop where
 sb : ∀ f ∈ m.s, SbOk f
 s40 : m.s.length ≤ 40
 chk : checkF m.s = 0
 sl : (sbF m.s).length ≤ 2000
 n : Num20 m.n
 len : m.groups.length ≤ 200
 groups : ∀ g ∈ m.groups, RwG (kindsF m.s) g
theorem metaR_app {m : Mt} (h : MtG m) (r : List UInt8) : metaR ⟨mtB m ++ r, 0⟩ = (m, ⟨r, 0⟩) := by
 obtain ⟨s, n, gs⟩ := m
 obtain ⟨h1, h2, h3, h4, h5, h6, h7⟩ := h
 simp only at h1 h2 h3 h4 h5 h6 h7
 unfold metaR mtB
 rw [nuB_cons n]
 simp only [List.append_assoc]
 rw [numN_app (most := 2000) 5 _ h4 (by decide)]
 simp only [takeR_app]
 rw [if_neg (by simp), parseSF_sbF h1 h2 h3]
 simp only
 rw [show failR ⟨nuB [n] ++ (nuB [(gs.length : Int)] ++ (rwsB (kindsF s) gs ++ r)), 0⟩ 0 = ⟨nuB [n] ++ (nuB [(gs.length : Int)] ++ (rwsB (kindsF s) gs ++ r)), 0⟩ from rfl, plainR_app h5]
 simp only
 rw [numN_app (most := 200) 4 _ h6 (by decide)]
 simp only
 rw [groupsR_app (kindsF s) gs [] r h7]
 simp only [Int.toNat_of_nonneg h5.1, List.nil_append]
theorem parseMF_more {m : Mt} (h : MtG m) {r : List UInt8} (hr : r ≠ []) : parseMF (mtB m ++ r) = (mt0, 9) := by
 show finMF (metaR ⟨mtB m ++ r, 0⟩) = _
 rw [metaR_app h r, finMF_more hr]
end Go.Proofs.Ytajieadpaeggcaa

end
section
set_option linter.unusedVariables false
set_option linter.unusedSimpArgs false
namespace Go.Proofs.Ytajieadpaeggcaa
open Go Go.Av
set_option maxRecDepth 100000
set_option maxHeartbeats 4000000
end Go.Proofs.Ytajieadpaeggcaa

end
section
set_option linter.unusedVariables false
set_option linter.unusedSimpArgs false
namespace Go.Proofs.Ytajieadpaeggcaa
open Go Go.Av
set_option maxRecDepth 100000
set_option maxHeartbeats 4000000
def RwS (x : Rw) : Prop := x.chunks.length ≤ 1000000 ∧ ∀ c ∈ x.chunks, c.pages.length ≤ 1000000
structure MtS (m : Mt) : Prop where
 s : m.s.length ≤ 1000000
 len : m.groups.length ≤ 1000000
 groups : ∀ g ∈ m.groups, RwS g
end Go.Proofs.Ytajieadpaeggcaa

end
section
set_option linter.unusedVariables false
set_option linter.unusedSimpArgs false
namespace Go.Proofs.Ytajieadpaeggcaa
open Go Go.Av
end Go.Proofs.Ytajieadpaeggcaa

end
section
set_option linter.unusedVariables false
set_option linter.unusedSimpArgs false
namespace Go.Proofs.Ytajieadpaeggcaa
open Go Go.Av
end Go.Proofs.Ytajieadpaeggcaa

end
section
set_option linter.unusedVariables false
set_option linter.unusedSimpArgs false
namespace Go.Proofs.Ytajieadpaeggcaa
open Go Go.Av
abbrev Wd := List UInt8
def markF (c : UInt8) : Bool := decide (c.toNat = 123) || decide (c.toNat = 125) || decide (c.toNat = 59)
/-- A word: signs of names alone, or a mark. -/
def wordOk (w : Wd) : Prop := w ≠ [] ∧ ((∀ c ∈ w, signF c = true) ∨ ∃ c, w = [c] ∧ markF c = true)
/-! ### Reading -/
def kwReps : List Wd := [[114, 101, 113, 117, 105, 114, 101, 100], [111, 112, 116, 105, 111, 110, 97, 108], [114, 101, 112, 101, 97, 116, 101, 100]]
def kwKinds : List Wd := [[103, 114, 111, 117, 112], [98, 111, 111, 108], [105, 110, 116, 51, 50], [105, 110, 116, 54, 52], [98, 121, 116, 101, 115]]
def kwMsg : Wd := [109, 101, 115, 115, 97, 103, 101]
def nameT (w : Wd) : Bool := match w with
 | [] => false
 | c :: _ => letterF c && decide (w.length ≤ 12)
theorem nameT_eq {w : Wd} (h : wordOk w) : nameT w = nameF w := by
 cases w with
 | nil => exact absurd rfl h.1
 | cons c t =>
   show (letterF c && decide ((c :: t).length ≤ 12)) = (decide (1 ≤ (c :: t).length) && decide ((c :: t).length ≤ 12) && letterF c && (c :: t).all signF)
   rw [decide_eq_true (show 1 ≤ (c :: t).length by simp)]
   rcases h.2 with h | ⟨d, hd, hm⟩
   ·rw [List.all_eq_true.2 h]
    cases letterF c <;> cases decide ((c :: t).length ≤ 12) <;> rfl
   ·cases hd
    have : letterF c = false := by
     cases hl : letterF c with
     | false => rfl
     | true =>
       simp only [letterF, markF, Bool.and_eq_true, Bool.or_eq_true, decide_eq_true_eq] at hl hm
       omega
    rw [this]; simp
structure PS where
 ws : List Wd
 fs : List Fd
 e : Int
 deriving Inhabited
end Go.Proofs.Ytajieadpaeggcaa

end
section
set_option linter.unusedVariables false
set_option linter.unusedSimpArgs false
namespace Go.Proofs.Ytajieadpaeggcaa
open Go Go.Av
def blanksT (d : Nat) : List UInt8 := List.replicate (2 * d) 32
def frontT (d : Nat) (f : Fd) : List UInt8 := if d = 0 then kwMsg ++ [32] else blanksT d ++ kwReps.getD f.rep.toNat [] ++ [32] ++ kwKinds.getD f.kind.toNat [] ++ [32]
def leafT (d : Nat) (f : Fd) : List UInt8 := frontT d f ++ f.name ++ [59, 10]
def openT (d : Nat) (f : Fd) : List UInt8 := frontT d f ++ f.name ++ [32, 123, 10]
def closeT (d : Nat) : List UInt8 := blanksT d ++ [125, 10]
/-- k fields from i on, of a depth, are printed so; behind them lies j. -/
inductive PrT (s : List Fd) : Nat → Nat → Nat → Nat → List UInt8 → Nat → Prop
 | nil {n i d : Nat} : PrT s n 0 i d [] i
 | leaf {n k i d j : Nat} {t : List UInt8} (hi : i < s.length) (hk : (s.getD i default).kind ≠ 0) (h : PrT s n k (i + 1) d t j) : PrT s n (k + 1) i d (leafT d (s.getD i default) ++ t) j
 | group {n k m i i1 d j : Nat} {t1 t2 : List UInt8} (hi : i < s.length) (hk : (s.getD i default).kind = 0) (hm : (s.getD i default).kids = m) (h1 : PrT s n m (i + 1) (d + 1) t1 i1) (h2 : PrT s (n + 1) k i1 d t2 j) :
    PrT s (n + 1) (k + 1) i d (openT d (s.getD i default) ++ t1 ++ closeT d ++ t2) j
theorem PrT.split {s : List Fd} {n k i d j : Nat} {t : List UInt8} (h : PrT s n (k + 1) i d t j) : ∃ t1 i1 t2, PrT s n 1 i d t1 i1 ∧ PrT s n k i1 d t2 j ∧ t = t1 ++ t2 := by
 cases h with
 | leaf hi hk h => exact ⟨_, _, _, .leaf hi hk .nil, h, by simp⟩
 | group hi hk hm h1 h2 => exact ⟨_, _, _, .group hi hk hm h1 .nil, h2, by simp⟩
theorem PrT.one {s : List Fd} {n i d j : Nat} {t : List UInt8} (h : PrT s n 1 i d t j) : i < s.length ∧
 (((s.getD i default).kind ≠ 0 ∧ t = leafT d (s.getD i default) ∧ j = i + 1) ∨
   (∃ n' m t1, (s.getD i default).kind = 0 ∧ n = n' + 1 ∧ (s.getD i default).kids = (m : Nat) ∧ PrT s n' m (i + 1) (d + 1) t1 j ∧ t = openT d (s.getD i default) ++ t1 ++ closeT d)) := by
 cases h with
 | leaf hi hk h =>
   cases h with
   | nil => exact ⟨hi, .inl ⟨hk, by simp, rfl⟩⟩
 | group hi hk hm h1 h2 =>
   cases h2 with
   | nil => exact ⟨hi, .inr ⟨_, _, _, hk, rfl, hm, h1, by simp⟩⟩
theorem PrT.pos {s : List Fd} {n k i d j : Nat} {t : List UInt8} (h : PrT s n k i d t j) : i ≤ j := by
 induction h with
 | nil => exact Nat.le_refl _
 | leaf _ _ _ ih => omega
 | group _ _ _ _ _ ih1 ih2 => omega
/-- What a shape has that is printed. -/
structure PrOk (s : List Fd) : Prop where
 len : s.length < 1000
 rep : ∀ i, i < s.length → 0 ≤ (s.getD i default).rep ∧ (s.getD i default).rep ≤ 2
 kind : ∀ i, i < s.length → 0 ≤ (s.getD i default).kind ∧ (s.getD i default).kind ≤ 4
end Go.Proofs.Ytajieadpaeggcaa

end
section
set_option linter.unusedVariables false
set_option linter.unusedSimpArgs false
namespace Go.Proofs.Ytajieadpaeggcaa
open Go Go.Av
/-- A field as it may be. -/
structure FOk (f : Fd) : Prop where
 rep : 0 ≤ f.rep ∧ f.rep ≤ 2
 kind : 0 ≤ f.kind ∧ f.kind ≤ 4
 name : nameT f.name = true
 sign : ∀ c ∈ f.name, signF c = true
/-- Fields that are so many trees, of a depth. -/
inductive Fo : Nat → Nat → List Fd → Prop
 | nil {d : Nat} : Fo d 0 []
 | leaf {d k : Nat} {f : Fd} {l : List Fd} (hd : d ≤ 8) (hf : FOk f) (hk : f.kind ≠ 0) (h0 : f.kids = 0) (h : Fo d k l) : Fo d (k + 1) (f :: l)
 | group {d k m : Nat} {f : Fd} {l1 l2 : List Fd} (hd : d ≤ 8) (hf : FOk f) (hk : f.kind = 0) (hm : f.kids = (m : Nat)) (hp : 0 < m) (h1 : Fo (d + 1) m l1) (h2 : Fo d k l2) : Fo d (k + 1) (f :: (l1 ++ l2))
theorem Fo.snoc {d k : Nat} {l x : List Fd} (h : Fo d k l) (hx : Fo d 1 x) : Fo d (k + 1) (l ++ x) := by
 induction h with
 | nil => exact hx
 | leaf hd hf hk h0 _ ih => exact .leaf hd hf hk h0 (ih hx)
 | group hd hf hk hm hp h1 _ _ ih =>
   rw [List.cons_append, List.append_assoc]
   exact .group hd hf hk hm hp h1 (ih hx)
/-- Groups that are open, the innermost ahead: each one's fields so far. -/
inductive Sp : List Int → List Fd → Prop
 | root {f : Fd} {l : List Fd} {k : Nat} (hf : FOk f) (hk : f.kind = 0) (hr : f.rep = 0) (hm : f.kids = (k : Nat)) (h : Fo 1 k l) : Sp [0] (f :: l)
 | push {a : Int} {t : List Int} {fs : List Fd} {f : Fd} {l : List Fd} {k : Nat} (h : Sp (a :: t) fs) (hd : t.length + 1 ≤ 8) (hf : FOk f) (hk : f.kind = 0) (hm : f.kids = (k : Nat)) (hl : Fo (t.length + 2) k l) :
    Sp ((fs.length : Int) :: a :: t) (incK fs a.toNat ++ f :: l)
theorem Sp.ne {op : List Int} {fs : List Fd} (h : Sp op fs) : ∃ a t, op = a :: t ∧ fs ≠ [] := by
 cases h with
 | root => exact ⟨_, _, rfl, by simp⟩
 | push => exact ⟨_, _, rfl, by simp⟩
theorem Sp.top {a : Int} {t : List Int} {fs : List Fd} (h : Sp (a :: t) fs) : a.toNat < fs.length ∧ 0 ≤ a ∧ ∃ k : Nat, (fs.getD a.toNat default).kids = (k : Nat) := by
 cases h with
 | root hf hk hr hm h => exact ⟨by simp, by omega, _, hm⟩
 | push h hd hf hk hm hl =>
   rename_i k
   refine ⟨by simp [incK_length], by omega, k, ?_⟩
   rw [Int.toNat_natCast, List.getD_eq_getElem?_getD, List.getElem?_append_right (by rw [incK_length]; exact Nat.le_refl _), incK_length, Nat.sub_self]
   exact hm
theorem inc_at {fs : List Fd} {f : Fd} {l : List Fd} {n : Nat} (h : n = fs.length) : incK (fs ++ f :: l) n = fs ++ { f with kids := f.kids + 1 } :: l := by
 subst h
 unfold incK
 have e : (fs ++ f :: l).getD fs.length default = f := by
  rw [List.getD_eq_getElem?_getD, List.getElem?_append_right (Nat.le_refl _), Nat.sub_self]; rfl
 rw [e]
 simp only [List.set_append, Nat.lt_irrefl, if_false, Nat.sub_self, List.set_cons_zero]
/-- One tree more in the innermost group. -/
theorem Sp.add {a : Int} {t : List Int} {fs x : List Fd} (h : Sp (a :: t) fs) (hx : Fo (t.length + 1) 1 x) : Sp (a :: t) (incK fs a.toNat ++ x) := by
 generalize hop : a :: t = op at h
 cases h with
 | root hf hk hr hm h =>
   cases hop
   rename_i f l k
   have e : incK (f :: l) (0 : Int).toNat = { f with kids := f.kids + 1 } :: l := inc_at (fs := []) rfl
   rw [e]
   exact .root (f := { f with kids := f.kids + 1 }) (k := k + 1) ⟨hf.rep, hf.kind, hf.name, hf.sign⟩ hk hr (by show f.kids + 1 = _; rw [hm]; rfl) (h.snoc hx)
 | push h hd hf hk hm hl =>
   cases hop
   rename_i a' t' fs' f l k
   rw [inc_at (by rw [incK_length, Int.toNat_natCast]), List.append_assoc]
   exact .push (f := { f with kids := f.kids + 1 }) (k := k + 1) h hd ⟨hf.rep, hf.kind, hf.name, hf.sign⟩ hk (by show f.kids + 1 = _; rw [hm]; rfl) (hl.snoc hx)
theorem Sp.pop {b a : Int} {t : List Int} {fs : List Fd} (h : Sp (b :: a :: t) fs) (hk : 0 < (fs.getD b.toNat default).kids) : Sp (a :: t) fs ∧ 0 < (fs.getD a.toNat default).kids := by
 generalize hop : b :: a :: t = op at h
 cases h with
 | root => cases hop
 | push h hd hf hk' hm hl =>
   cases hop
   rename_i fs' f l k
   rw [Int.toNat_natCast, List.getD_eq_getElem?_getD, List.getElem?_append_right (by rw [incK_length]; exact Nat.le_refl _), incK_length, Nat.sub_self] at hk
   have hk : 0 < f.kids := hk
   obtain ⟨h1, h2, k', h3⟩ := h.top
   refine ⟨h.add ?_, ?_⟩
   ·have := Fo.group (d := t.length + 1) (k := 0) (m := k) hd hf hk' hm (by omega) hl .nil
    rwa [List.append_nil] at this
   ·have e : (incK fs' a.toNat ++ f :: l).getD a.toNat default = { fs'.getD a.toNat default with kids := (fs'.getD a.toNat default).kids + 1 } := by
     rw [List.getD_eq_getElem?_getD, List.getElem?_append_left (by rw [incK_length]; exact h1), incK, List.getElem?_set_self (by exact h1)]; rfl
    rw [e]
    show 0 < (fs'.getD a.toNat default).kids + 1
    omega
theorem Sp.pops {fs : List Fd} : ∀ (k : Nat) (op : List Int), Sp op fs → Sp (popM fs k op) fs ∧ (popM fs k op).length ≤ op.length
 | 0, op, h => ⟨h, Nat.le_refl _⟩
 | k + 1, [], h => ⟨h, Nat.le_refl _⟩
 | k + 1, [a], h => ⟨h, Nat.le_refl _⟩
 | k + 1, a :: b :: t, h => by
   rw [popM]
   split
   ·rename_i hk
    obtain ⟨h1, h2⟩ := Sp.pops k (b :: t) (h.pop hk).1
    exact ⟨h1, by simp at h2 ⊢; omega⟩
   ·exact ⟨h, Nat.le_refl _⟩
theorem Sp.close : ∀ (op : List Int) (fs : List Fd), Sp op fs → 0 < (fs.getD (topM op).toNat default).kids → ∃ (f : Fd) (l : List Fd) (k : Nat), fs = f :: l ∧ FOk f ∧ f.kind = 0 ∧ f.rep = 0 ∧ f.kids = (k : Nat) ∧ 0 < k ∧ Fo 1 k l
 | [], fs, h, _ => by cases h
 | [a], fs, h, hk => by
   generalize hop : [a] = op at h
   cases h with
   | root hf hkk hr hm h =>
     rename_i f l k
     have hk : 0 < f.kids := by cases hop; exact hk
     exact ⟨_, _, _, rfl, hf, hkk, hr, hm, by omega, h⟩
   | push => cases hop
 | b :: a :: t, fs, h, hk => by
   obtain ⟨h1, h2⟩ := h.pop hk
   exact Sp.close (a :: t) fs h1 h2
theorem nm_ok : ∀ i, i < 12 → nameT (nmM i) = true ∧ ∀ c ∈ nmM i, signF c = true := by decide
theorem fld_ok (op : List Int) {i : Nat} (hi : i < 12) (x : Int) : FOk (fldM op i x) ∧ (fldM op i x).kids = 0 := by
 have h1 := wi_range (a := wr .i64 (x.tdiv 8)) (n := 3) (by omega)
 have h2 := wi_range (a := x) (n := 8) (by omega)
 obtain ⟨h3, h4⟩ := nm_ok i hi
 refine ⟨⟨⟨h1.1, by show wi _ 3 ≤ 2; omega⟩, ?_, h3, h4⟩, rfl⟩
 show 0 ≤ kindM op x ∧ kindM op x ≤ 4
 unfold kindM
 have h5 := Int.tmod_lt_of_pos (wi x 8) (show (0 : Int) < 5 by decide)
 have h6 := Int.tmod_nonneg 5 h2.1
 split <;> omega
theorem kind_deep {op : List Int} {x : Int} (h : kindM op x = 0) : op.length ≤ 4 := by
 unfold kindM at h
 split at h
 ·omega
 ·rename_i hn
  exact Nat.le_of_not_lt fun hl => hn ⟨hl, h⟩
/-- One field more: the groups that are open stay so. -/
theorem Sp.step {fs : List Fd} {op : List Int} {i : Nat} {x : Int} (h : Sp op fs) (hl : op.length ≤ 5) (hi : i < 12) : Sp (stepM fs op i x).2 (stepM fs op i x).1 ∧ (stepM fs op i x).2.length ≤ 5 := by
 obtain ⟨h1, h2⟩ := Sp.pops (wi (wr .i64 (x.tdiv 64)) 3).toNat op h
 unfold stepM
 simp only
 generalize popM fs (wi (wr .i64 (x.tdiv 64)) 3).toNat op = o at *
 obtain ⟨a, t, rfl, hne⟩ := h1.ne
 obtain ⟨hf, hk0⟩ := fld_ok (a :: t) hi x
 have ht : topM (a :: t) = a := rfl
 rw [ht]
 split
 ·rename_i hk
  have h4 := kind_deep (show kindM (a :: t) x = 0 from hk)
  simp at h4 h2
  exact ⟨.push (k := 0) h1 (by omega) hf hk (by rw [hk0]; rfl) .nil, by simp; omega⟩
 ·rename_i hk
  simp at h2
  exact ⟨h1.add (.leaf (by omega) hf hk hk0 .nil), by simp; omega⟩
theorem run_sp {ns : List Int} : ∀ (n i : Nat) (fs : List Fd) (op : List Int), Sp op fs → op.length ≤ 5 → Sp (runM ns n i fs op).2 (runM ns n i fs op).1 ∧ (runM ns n i fs op).2.length ≤ 5
 | 0, i, fs, op, h, hl => ⟨h, hl⟩
 | n + 1, i, fs, op, h, hl => by
   rw [runM]
   split
   ·rename_i hi
    have hs := Sp.step (x := ns.getD i 0) h hl hi.2
    exact run_sp n (i + 1) _ _ hs.1 hs.2
   ·exact ⟨h, hl⟩
/-- What 'Make' makes is one tree. -/
theorem make_fo (ns : List Int) : ∃ (f : Fd) (l : List Fd) (k : Nat), makeF ns = f :: l ∧ FOk f ∧ f.kind = 0 ∧ f.rep = 0 ∧ f.kids = (k : Nat) ∧ 0 < k ∧ Fo 1 k l := by
 have h0 : Sp [0] fs0 := .root (k := 0) ⟨by decide, by decide, by decide, by decide⟩ rfl rfl rfl .nil
 have h := run_sp (ns := ns) 12 0 fs0 [0] h0 (by decide)
 rw [makeF]
 generalize (runM ns 12 0 [⟨[109], 0, 0, 0⟩] [0]) = r at *
 have hl5 : (r.2).length ≤ 5 := h.2
 have h : Sp r.2 r.1 := h.1
 rw [endM]
 obtain ⟨a, t, ho, hne⟩ := h.ne
 rw [ho] at h
 obtain ⟨h1, h2, k, h3⟩ := h.top
 have ht : topM r.2 = a := by rw [ho]; rfl
 rw [ht]
 split
 ·rename_i hk
  have hz : FOk ⟨[122], 0, 4, 0⟩ := ⟨by decide, by decide, by decide, by decide⟩
  have hd : t.length + 1 ≤ 8 := by rw [ho] at hl5; simp at hl5; omega
  have ha := h.add (.leaf (f := ⟨[122], 0, 4, 0⟩) hd hz (by decide) rfl .nil)
  refine Sp.close (a :: t) _ ha ?_
  show 0 < ((incK r.1 a.toNat ++ [_]).getD a.toNat default).kids
  rw [List.getD_eq_getElem?_getD, List.getElem?_append_left (by rw [incK_length]; exact h1), incK, List.getElem?_set_self (by exact h1)]
  show 0 < (r.1.getD a.toNat default).kids + 1
  omega
 ·rename_i hk
  refine Sp.close (a :: t) _ h ?_
  show 0 < (r.1.getD a.toNat default).kids
  omega
end Go.Proofs.Ytajieadpaeggcaa

end
section
set_option linter.unusedVariables false
set_option linter.unusedSimpArgs false
namespace Go.Proofs.Ytajieadpaeggcaa
open Go Go.Av
theorem Fo.all {d k : Nat} {l : List Fd} (h : Fo d k l) : ∀ f ∈ l, FOk f := by
 induction h with
 | nil => intro f hf; cases hf
 | leaf hd hf hk h0 h ih =>
   intro f h
   rcases List.mem_cons.1 h with rfl | h
   ·exact hf
   ·exact ih f h
 | group hd hf hk hm hp h1 h2 ih1 ih2 =>
   intro f h
   rcases List.mem_cons.1 h with rfl | h
   ·exact hf
   ·rcases List.mem_append.1 h with h | h
    ·exact ih1 f h
    ·exact ih2 f h
/-- A shape that is printed. -/
structure PrS (s : List Fd) (t : List UInt8) : Prop where
 pr : PrT s 9 1 0 0 t s.length
 ok : PrOk s
 len : t.length ≤ 64 * s.length
theorem step_len (fs : List Fd) (op : List Int) (i : Nat) (x : Int) : (stepM fs op i x).1.length = fs.length + 1 := by
 simp [stepM, incK_length]
theorem run_len {ns : List Int} : ∀ (n i : Nat) (fs : List Fd) (op : List Int), (runM ns n i fs op).1.length ≤ fs.length + n
 | 0, _, _, _ => Nat.le_refl _
 | n + 1, i, fs, op => by
   rw [runM]
   split
   ·have := run_len (ns := ns) n (i + 1) (stepM fs op i (ns.getD i 0)).1 (stepM fs op i (ns.getD i 0)).2
    rw [step_len] at this
    show (runM ns n (i + 1) (stepM fs op i (ns.getD i 0)).1 (stepM fs op i (ns.getD i 0)).2).1.length ≤ _
    omega
   ·show fs.length ≤ _; omega
theorem make_len (ns : List Int) : (makeF ns).length ≤ 14 := by
 have h := run_len (ns := ns) 12 0 [⟨[109], 0, 0, 0⟩] [0]
 rw [makeF]
 generalize (runM ns 12 0 [⟨[109], 0, 0, 0⟩] [0]) = r at *
 have h : r.1.length ≤ 13 := h
 show (endM r.1 r.2).length ≤ 14
 unfold endM
 split
 ·simp [incK_length]; omega
 ·omega
end Go.Proofs.Ytajieadpaeggcaa

end
section
set_option linter.unusedVariables false
set_option linter.unusedSimpArgs false
namespace Go.Proofs.Ytajieadpaeggcaa
open Go Go.Av
theorem popZ_pos {a c : Int} {t : Stk} (h : 0 < c) : popZ ((a, c) :: t) = (a, c) :: t := by rw [popZ, if_neg (by omega)]
theorem popZ_neg {a c : Int} {t : Stk} (h : c ≤ 0) : popZ ((a, c) :: t) = popZ t := by rw [popZ, if_pos h]
theorem popZ_nil : ∀ {st : Stk}, popZ st = [] → openS st = false
 | [], _ => rfl
 | (a, c) :: t, h => by
   by_cases hc : 0 < c
   ·rw [popZ_pos hc] at h; cases h
   ·rw [popZ_neg (by omega)] at h
    have := popZ_nil h
    rw [openS] at this ⊢
    rw [List.any_cons, this, decide_eq_false hc]; rfl
theorem fo_wrun {d k : Nat} {l : List Fd} (h : Fo d k l) : ∀ (i : Nat) (a c : Int) (st' st : Stk) (rest : List Fd), (k : Int) ≤ c → 0 ≤ a → d = st'.length + 1 → popZ st = popZ ((a, c) :: st') →
 ∃ rows st2, wrun (l ++ rest) i st = rows ++ wrun rest (i + l.length) st2 ∧ (∀ p ∈ rows, (0 : Int) ≤ p.1 ∧ p.2 ≤ 8) ∧ wfin (l ++ rest) i st = wfin rest (i + l.length) st2 ∧ popZ st2 = popZ ((a, c - k) :: st') := by
 induction h with
 | nil =>
   intro i a c st' st rest hc ha hd hp
   exact ⟨[], st, rfl, fun p hp => (nomatch hp), rfl, by rw [hp]; simp⟩
 | leaf hd hf hk h0 h ih =>
   rename_i d k f l
   intro i a c st' st rest hc ha hdl hp
   have hc0 : 0 < c := by omega
   rw [popZ_pos hc0] at hp
   obtain ⟨rows, st2, h1, h2, h3, h4⟩ := ih (i + 1) a (c - 1) st' ((a, c - 1) :: st') rest (by omega) ha hdl rfl
   refine ⟨(a, (st'.length : Int) + 1) :: rows, st2, ?_, ?_, ?_, ?_⟩
   ·rw [List.cons_append, wrun, hp, pushS, if_neg hk]
    show (a, (((a, c) :: st').length : Int)) :: wrun (l ++ rest) (i + 1) ((a, c - 1) :: st') = _
    rw [h1, List.length_cons, List.length_cons, show i + 1 + l.length = i + (l.length + 1) by omega]
    simp
   ·intro p hp
    rcases List.mem_cons.1 hp with rfl | hp
    ·exact ⟨ha, by simp only; omega⟩
    ·exact h2 p hp
   ·rw [List.cons_append, wfin, hp, pushS, if_neg hk]
    show wfin (l ++ rest) (i + 1) ((a, c - 1) :: st') = _
    rw [h3, List.length_cons, show i + 1 + l.length = i + (l.length + 1) by omega]
   ·rw [h4, show c - 1 - (k : Int) = c - ((k + 1 : Nat) : Int) by omega]
 | group hd hf hk hm hpos h1 h2 ih1 ih2 =>
   rename_i d k m f l1 l2
   intro i a c st' st rest hc ha hdl hp
   have hc0 : 0 < c := by omega
   rw [popZ_pos hc0] at hp
   obtain ⟨r1, s1, a1, a2, a3, a4⟩ := ih1 (i + 1) i m ((a, c - 1) :: st') (((i : Int), (m : Int)) :: (a, c - 1) :: st') (l2 ++ rest) (Int.le_refl _) (by omega) (by simp; omega) rfl
   rw [popZ_neg (by omega)] at a4
   obtain ⟨r2, s2, b1, b2, b3, b4⟩ := ih2 (i + 1 + l1.length) a (c - 1) st' s1 rest (by omega) ha hdl a4
   refine ⟨(a, (st'.length : Int) + 1) :: (r1 ++ r2), s2, ?_, ?_, ?_, ?_⟩
   ·rw [List.cons_append, wrun, hp, pushS, if_pos hk, hm]
    show (a, (((a, c) :: st').length : Int)) :: wrun (l1 ++ l2 ++ rest) (i + 1) (((i : Int), (m : Int)) :: (a, c - 1) :: st') = _
    rw [List.append_assoc, a1, b1, List.length_cons, List.length_cons, List.length_append, show i + 1 + l1.length + l2.length = i + (l1.length + l2.length + 1) by omega]
    simp
   ·intro p hp
    rcases List.mem_cons.1 hp with rfl | hp
    ·exact ⟨ha, by simp only; omega⟩
    ·rcases List.mem_append.1 hp with hp | hp
     ·exact a2 p hp
     ·exact b2 p hp
   ·rw [List.cons_append, wfin, hp, pushS, if_pos hk, hm]
    show wfin (l1 ++ l2 ++ rest) (i + 1) (((i : Int), (m : Int)) :: (a, c - 1) :: st') = _
    rw [List.append_assoc, a3, b3, List.length_cons, List.length_append, show i + 1 + l1.length + l2.length = i + (l1.length + l2.length + 1) by omega]
   ·rw [b4, show c - 1 - (k : Int) = c - ((k + 1 : Nat) : Int) by omega]
/-! ### Names -/
theorem incK_names (fs : List Fd) (a : Nat) : (incK fs a).map (·.name) = fs.map (·.name) := by
 unfold incK
 apply List.ext_getElem?
 intro i
 simp only [List.getElem?_map, List.getElem?_set]
 by_cases h : a = i
 ·subst h
  by_cases hl : a < fs.length
  ·simp [hl]
  ·simp [hl]
 ·simp [h]
def nmAt (j : Nat) : List UInt8 := if j = 0 then [109] else nmM (j - 1)
theorem run_names {ns : List Int} : ∀ (n i : Nat) (fs : List Fd) (op : List Int), fs.map (·.name) = (List.range (i + 1)).map nmAt → i ≤ 12 → ∃ m, m ≤ 13 ∧ (runM ns n i fs op).1.map (·.name) = (List.range m).map nmAt
 | 0, i, fs, op, h, hi => ⟨i + 1, by omega, h⟩
 | n + 1, i, fs, op, h, hi => by
   rw [runM]
   split
   ·rename_i hc
    refine run_names n (i + 1) _ _ ?_ (by omega)
    show (stepM fs op i (ns.getD i 0)).1.map (·.name) = _
    unfold stepM
    simp only [List.map_append, incK_names, h]
    rw [List.range_succ (n := i + 1), List.map_append]
    rfl
   ·exact ⟨i + 1, by omega, h⟩
theorem make_names (ns : List Int) : ∃ m, m ≤ 13 ∧ ((makeF ns).map (·.name) = (List.range m).map nmAt ∨ (makeF ns).map (·.name) = (List.range m).map nmAt ++ [[122]]) := by
 obtain ⟨m, hm, h⟩ := run_names (ns := ns) 12 0 [⟨[109], 0, 0, 0⟩] [0] rfl (by decide)
 refine ⟨m, hm, ?_⟩
 rw [makeF]
 generalize (runM ns 12 0 [⟨[109], 0, 0, 0⟩] [0]) = r at *
 show (endM r.1 r.2).map _ = _ ∨ (endM r.1 r.2).map _ = _
 unfold endM
 split
 ·right
  rw [List.map_append, incK_names, h]; rfl
 ·left; exact h
theorem nm_nodup : ∀ m, m ≤ 13 → ((List.range m).map nmAt).Nodup ∧ ((List.range m).map nmAt ++ [[122]]).Nodup := by decide
theorem names_apart {fs : List Fd} (h : (fs.map (·.name)).Nodup) {i k : Nat} (hi : i < fs.length) (hk : k < i) : (fs.getD k default).name ≠ (fs.getD i default).name := by
 intro e
 have hkl : k < fs.length := by omega
 have := List.pairwise_iff_getElem.1 h k i (by rw [List.length_map]; exact hkl) (by rw [List.length_map]; exact hi) hk
 apply this
 simp only [List.getElem_map]
 simp only [List.getD_eq_getElem?_getD, List.getElem?_eq_getElem hkl, List.getElem?_eq_getElem hi, Option.getD_some] at e
 exact e
theorem eqb_eq' (s t : List UInt8) : eqb s t = decide (s = t) := by
 letI : Syms := ⟨fun _ => .int .i64 0, fun _ => ⟨rfl, rfl⟩, fun _ => ⟨_, rfl⟩⟩
 exact eqb_eq s t
theorem chkFrom_nil {fs : List Fd} : ∀ n i, (∀ j, i ≤ j → j < i + n → chkAt fs (parentsF fs) j ((depthsF fs).getD j 0) = 0) → chkFrom fs i n = 0
 | 0, _, _ => rfl
 | n + 1, i, h => by
   have h0 := h i (Nat.le_refl _) (by omega)
   rw [chkFrom, if_neg (fun x => x h0)]
   exact chkFrom_nil n (i + 1) fun j h1 h2 => h j (by omega) (by omega)
theorem fok_name {f : Fd} (h : FOk f) : nameF f.name = true := by
 have hne : f.name ≠ [] := fun e => by have := h.name; rw [e] at this; cases this
 rw [← nameT_eq ⟨hne, .inl h.sign⟩]
 exact h.name
theorem Fo.kids {d k : Nat} {l : List Fd} (h : Fo d k l) : ∀ f ∈ l, (f.kind = 0 → 1 ≤ f.kids) ∧ (f.kind ≠ 0 → f.kids = 0) := by
 induction h with
 | nil => intro f hf; cases hf
 | leaf hd hf hk h0 h ih =>
   intro g hg
   rcases List.mem_cons.1 hg with rfl | hg
   ·exact ⟨fun h => absurd h hk, fun _ => h0⟩
   ·exact ih g hg
 | group hd hf hk hm hp h1 h2 ih1 ih2 =>
   intro g hg
   rcases List.mem_cons.1 hg with rfl | hg
   ·exact ⟨fun _ => by omega, fun h => absurd hk h⟩
   ·rcases List.mem_append.1 hg with hg | hg
    ·exact ih1 g hg
    ·exact ih2 g hg
theorem make_check (ns : List Int) : checkF (makeF ns) = 0 := by
 obtain ⟨f, l, k, hs, hf, hk, hr, hm, hp, h⟩ := make_fo ns
 have hl := make_len ns
 obtain ⟨m, hm13, hnm⟩ := make_names ns
 have hnd : ((makeF ns).map (·.name)).Nodup := by
  obtain ⟨h1, h2⟩ := nm_nodup m hm13
  rcases hnm with e | e
  ·rw [e]; exact h1
  ·rw [e]; exact h2
 clear hnm
 have hT : Fo 0 1 (f :: l) := by
  have := Fo.group (d := 0) (k := 0) (by decide) hf hk hm hp h .nil
  rwa [List.append_nil] at this
 rw [hs] at hl hnd ⊢
 obtain ⟨rows, st2, h1, h2, h3, h4⟩ := fo_wrun h 1 0 k [] [(0, (k : Int))] [] (Int.le_refl _) (Int.le_refl _) rfl rfl
 rw [List.append_nil] at h1 h3
 rw [popZ_neg (by omega)] at h4
 have hw : wrun (f :: l) 0 [] = (-1, 0) :: rows := by
  rw [wrun]
  show (-1, 0) :: wrun l 1 (pushS 0 f []) = _
  rw [pushS, if_pos hk, hm]
  show (-1, 0) :: wrun l 1 [(0, (k : Int))] = _
  rw [h1]; simp [wrun]
 have hfin : wfin (f :: l) 0 [] = st2 := by
  rw [wfin]
  show wfin l 1 (pushS 0 f []) = _
  rw [pushS, if_pos hk, hm]
  show wfin l 1 [(0, (k : Int))] = _
  rw [h3]; rfl
 have hrl : rows.length = l.length := by
  have := wrun_length (f :: l) 0 []
  rw [hw] at this
  simpa using this
 have hat : ∀ i, i < (f :: l).length → (f :: l).getD i default ∈ f :: l := fun i hi => by rw [List.getD_eq_getElem?_getD, List.getElem?_eq_getElem hi]; exact List.getElem_mem _
 unfold checkF
 rw [if_neg (by simp at hl ⊢; omega)]
 have hz : chkFrom (f :: l) 0 (f :: l).length = 0 := by
  refine chkFrom_nil _ _ fun j _ hj => ?_
  rw [Nat.zero_add] at hj
  have hfo := hT.all _ (hat j hj)
  have hkd := hT.kids _ (hat j hj)
  have htw : twinF (f :: l) (parentsF (f :: l)) j = false := by
   unfold twinF
   rw [List.any_eq_false]
   intro q hq
   have hq := List.mem_range.1 hq
   have hne := names_apart hnd hj hq
   unfold twinAt
   rw [eqb_eq', decide_eq_false hne]
   simp
  have hpd : (0 < j → 0 ≤ (parentsF (f :: l)).getD j 0) ∧ (depthsF (f :: l)).getD j 0 ≤ 8 := by
   rw [parentsF, depthsF, hw]
   cases j with
   | zero => exact ⟨fun h => absurd h (by decide), show (0 : Int) ≤ 8 by decide⟩
   | succ j =>
     have hjr : j < rows.length := by rw [hrl]; simpa using hj
     have hmem : rows[j] ∈ rows := List.getElem_mem _
     have := h2 _ hmem
     simp only [List.map_cons, List.getD_cons_succ]
     simp only [List.getD_eq_getElem?_getD, List.getElem?_map, List.getElem?_eq_getElem hjr, Option.map_some, Option.getD_some]
     exact ⟨fun _ => this.1, this.2⟩
  have h0 : j = 0 → ((f :: l).getD j default).rep = 0 ∧ ((f :: l).getD j default).kind = 0 := fun e => by subst e; exact ⟨hr, hk⟩
  unfold chkAt
  rw [htw, fok_name hfo]
  have hR := hfo.rep
  have hK := hfo.kind
  generalize (f :: l).getD j default = F at *
  unfold chk1
  rw [if_neg (by omega), if_neg (by omega), if_neg (by simp), if_neg (by omega), if_neg (by omega), if_neg (by omega)]
 rw [hz, if_neg (fun h => h rfl), hfin, popZ_nil h4]
 rfl
end Go.Proofs.Ytajieadpaeggcaa

end
section
set_option linter.unusedVariables false
set_option linter.unusedSimpArgs false
namespace Go.Proofs.Ytajieadpaeggcaa
open Go Go.Av
theorem chkFrom_at (fs : List Fd) : ∀ (n i : Nat), chkFrom fs i n = 0 → ∀ j, i ≤ j → j < i + n → chkAt fs (parentsF fs) j ((depthsF fs).getD j 0) = 0
 | 0, i, _, j, h1, h2 => by omega
 | n + 1, i, h, j, h1, h2 => by
   rw [chkFrom] at h
   split at h
   ·rename_i hne; exact absurd h hne
   ·rename_i he
    rcases Nat.lt_or_ge i j with h3 | h3
    ·exact chkFrom_at fs n (i + 1) h j (by omega) (by omega)
    ·obtain rfl : j = i := by omega
     exact Decidable.not_not.1 he
theorem chk1_ok {f : Fd} {i : Nat} {par dep : Int} {nm tw : Bool} (h : chk1 f i par dep nm tw = 0) : nm = true ∧ (0 ≤ f.rep ∧ f.rep ≤ 2) ∧ (0 ≤ f.kind ∧ f.kind ≤ 4) ∧ 0 ≤ f.kids := by
 unfold chk1 at h
 split at h
 ·cases h
 split at h
 ·cases h
 split at h
 ·cases h
 rename_i h1
 split at h
 ·cases h
 rename_i h2
 split at h
 ·cases h
 split at h
 ·cases h
 rename_i h3
 refine ⟨?_, ?_, ?_, ?_⟩
 ·cases nm
  ·exact absurd (.inl rfl) h1
  ·rfl
 ·omega
 ·omega
 ·by_cases hk : f.kind = 0 <;> omega
theorem make_sb (ns : List Int) : ∀ f ∈ makeF ns, SbOk f := by
 have hc := make_check ns
 have hl := make_len ns
 have hfrom : chkFrom (makeF ns) 0 (makeF ns).length = 0 := by
  unfold checkF at hc
  split at hc
  ·cases hc
  ·split at hc
   ·rename_i h; exact absurd hc h
   ·rename_i h; exact Decidable.not_not.1 h
 intro f hf
 obtain ⟨i, hi, rfl⟩ := List.mem_iff_getElem.1 hf
 have := chkFrom_at _ _ 0 hfrom i (Nat.zero_le _) (by omega)
 have hge : (makeF ns).getD i default = (makeF ns)[i] := by rw [List.getD_eq_getElem?_getD, List.getElem?_eq_getElem hi]; rfl
 have hk := make_kids ns i
 unfold chkAt at this
 rw [hge] at this hk
 obtain ⟨h1, h2, h3, h4⟩ := chk1_ok this
 have hn : (makeF ns)[i].name.length ≤ 12 := by
  unfold nameF at h1
  simp only [Bool.and_eq_true, decide_eq_true_eq] at h1
  exact h1.1.1.2
 exact ⟨⟨h2.1, by omega⟩, ⟨h3.1, by omega⟩, ⟨h4, by omega⟩, hn⟩
theorem varB_len (n : Nat) : (varB n).length ≤ 10 := putV_len 9 n
theorem sbF1_len {f : Fd} (h : SbOk f) : (sbF1 f).length ≤ 34 := by
 have h1 := varB_len f.kids.toNat
 have h2 := varB_len f.name.length
 have h3 := h.name
 simp only [sbF1, List.length_append, leB_len]; omega
theorem sbL_len : ∀ {l : List Fd}, (∀ f ∈ l, SbOk f) → (sbL l).length ≤ 34 * l.length
 | [], _ => by simp [sbL]
 | f :: l, h => by
   have h1 := sbF1_len (h f (List.mem_cons_self ..))
   have h2 := sbL_len (l := l) fun g hg => h g (List.mem_cons_of_mem _ hg)
   rw [sbL, List.length_append, List.length_cons]; omega
theorem make_sbl (ns : List Int) : (sbF (makeF ns)).length ≤ 600 := by
 have h1 := sbL_len (make_sb ns)
 have h2 := make_len ns
 have h3 := varB_len (makeF ns).length
 rw [sbF, List.length_append]; omega
/-! Without records -/
end Go.Proofs.Ytajieadpaeggcaa

end
