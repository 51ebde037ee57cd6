/-
  Calls that answer bytes of their own. A varint behind bytes. The program's. A number's bytes behind bytes, the lowest first. The program's. A varint, read. The program's. The names of a shape of raw numbers, and its paths: no two are the same. Plain. Leaves: how far each field is repeated and defined. Plain. The document's walk over a shape goes as the program's. Plain. What is wrong with a shape. Plain.
-/
import Derived.Test.YtajieadpaeggcaaL2
import Derived.Test.YtajieadpaeggcaaL1
set_option linter.unusedVariables false
set_option linter.unusedSimpArgs false
section
set_option linter.unusedVariables false
set_option linter.unusedSimpArgs false
namespace Go.Proofs.Ytajieadpaeggcaa
open Go Go.Av
/-- All memory, as memory that is written no more. -/
noncomputable def allFz (w : World) : Inj := ⟨fun _ => none, fun g => match w.heap[g]? with
 | some (.cells cs _ _) => some cs
 | _ => none⟩
theorem allFz_get {w : World} {g : Nat} {cs : Array Value} {e : TypeId} {z : Nat × Nat} (h : w.heap[g]? = some (.cells cs e z)) : (allFz w).fz g = some cs := by
 simp only [allFz, h]
theorem allFz_of {w : World} {g : Nat} {cs : Array Value} (h : (allFz w).fz g = some cs) : ∃ e z, w.heap[g]? = some (.cells cs e z) := by
 simp only [allFz] at h
 split at h
 ·rename_i cs' e z h1
  cases h
  exact ⟨e, z, h1⟩
 ·cases h
theorem allFz_rel [Syms] (w : World) : RelH (allFz w) [] w := ⟨fun n b hb => (by rw [Heap.get_nil] at hb; cases hb), fun n m b c L M hb => (by rw [Heap.get_nil] at hb; cases hb), fun g cs hg => ⟨allFz_of hg, fun ⟨n, b, L, h1, _⟩ => by rw [Heap.get_nil] at h1; cases h1⟩⟩
theorem allFz_le [Syms] {ι : Inj} {H : Heap} {w : World} (hH : RelH ι H w) : ι.bare.le (allFz w) := ⟨fun _ _ h => (nomatch h), fun g cs hg => by
 obtain ⟨⟨e, z, h⟩, _⟩ := hH.fz g cs hg
 exact allFz_get h⟩
theorem own_arg [Syms] {α : Type} {enc : α → List AVal} (d : α) (he : ∀ a, ∃ k z, enc a = [.int k z]) {ι : Inj} {H : Heap} {w : World} {n : Nat} {l : List α} {ro : Bool} {c : Option Nat} {v : Value} (hn : H.get n = some (.cells (l.map enc) ro)) (hH : RelH ι H w) (hv : RelV ι (.slice n 0 l.length 1 c) v) : RelV (allFz w) (vT 1 enc d l) v := by
 obtain ⟨L, hL, hB⟩ := hH.blk n _ hn
 cases hv with
 | slice _ _ _ _ _ L' a k h hs ha hl hp hm hc =>
   rw [hL] at h
   cases h
   refine .vt _ _ _ _ ?_
   rw [tabR_map]
   rcases ha with h0 | h0
   ·have hl0 : l = [] := List.eq_nil_of_length_eq_zero (by omega)
    subst hl0
    exact .vz 1 _ _ hm (fun h => nomatch h)
   ·subst h0
    obtain ⟨cs, et, fz, c1, c2, c3, c4, c5⟩ := hB
    have hlen : (l.map enc).length = l.length := List.length_map ..
    have hat : ∀ (k : Nat) (row : List AVal), (l.map enc)[k]? = some row → ∃ kd z, row = [.int kd z] := fun k row hr => by
     obtain ⟨a, _, rfl⟩ := List.mem_map.1 (List.mem_of_getElem? hr)
     exact he a
    have key : RelV (allFz w) (.vs 1 (l.map enc)) (.slice (some ⟨L.g, L.base + 0 * L.size, none⟩) (l.map enc).length k) := by
     refine .vs 1 (l.map enc) L.g (L.base + 0 * L.size) k cs (allFz_get c1) (by omega) hm (by rw [hs] at *; omega) (fun j row hr => ?_) (fun k j v hk hj hv => ?_) (fun k j row x v hr hj hv => ?_)
     ·obtain ⟨kd, z, rfl⟩ := hat j row hr
      rfl
     ·have hj0 : j = 0 := by omega
      subst hj0
      have hr : (l.map enc)[k]? = some ((l.map enc)[k]) := List.getElem?_eq_getElem hk
      obtain ⟨kd, z, hz⟩ := hat k _ hr
      rw [hz] at hr
      obtain ⟨v', q1, q2, q3⟩ := (c4 k _ hr).2 0 (.int kd z) rfl
      rw [hs] at q1 hv
      have : L.base + 0 * 1 + k * 1 + 0 = L.base + k * 1 + 0 := by omega
      rw [this, q1] at hv
      cases hv
      exact q2
     ·obtain ⟨v', q1, q2, q3⟩ := (c4 k row hr).2 j x hj
      rw [hs] at q1 hv
      have : L.base + 0 * 1 + k * 1 + j = L.base + k * 1 + j := by omega
      rw [this, q1] at hv
      cases hv
      obtain ⟨kd, z, rfl⟩ := hat k row hr
      have hx : x = .int kd z := by
       cases j with
       | zero => simp at hj; exact hj.symm
       | succ j => simp at hj
      subst hx
      cases q3
      exact .int _ _
    rwa [hlen] at key
/-- Arguments: without addresses, or the caller's own bytes. -/
inductive BArg (H : Heap) : AVal → AVal → Prop
 | imm (v : AVal) (h : v.imm = true) : BArg H v v
 | see (v v' : AVal) (h : v.imm = true) (hw : WkV v v') : BArg H v v'
 | own (α : Type) (enc : α → List AVal) (d : α) (he : ∀ a, ∃ k z, enc a = [.int k z]) (n : Nat) (l : List α) (ro : Bool) (c : Option Nat) (h : H.get n = some (.cells (l.map enc) ro)) : BArg H (.slice n 0 l.length 1 c) (vT 1 enc d l)
 | nil (α : Type) (enc : α → List AVal) (d : α) : BArg H .nils (vT 1 enc d [])
theorem BArg.byt {H : Heap} {n len : Nat} {l : List UInt8} {ro : Bool} {c : Option Nat} {rows : List (List AVal)} (h : H.get n = some (.cells rows ro)) (hr : rows = l.map encB) (hl : len = l.length) : BArg H (.slice n 0 len 1 c) (vB l) := by
 subst hr hl; exact .own _ encB 0 (fun a => ⟨_, _, rfl⟩) n l ro c h
theorem BArg.ints {H : Heap} {n len : Nat} {l : List Int} {ro : Bool} {c : Option Nat} {rows : List (List AVal)} (h : H.get n = some (.cells rows ro)) (hr : rows = l.map encI) (hl : len = l.length) : BArg H (.slice n 0 len 1 c) (vI l) := by
 subst hr hl; exact .own _ encI 0 (fun a => ⟨_, _, rfl⟩) n l ro c h
def BArgs (H : Heap) : List AVal → List AVal → Prop
 | [], [] => True
 | a :: l, b :: m => BArg H a b ∧ BArgs H l m
 | _, _ => False
theorem BArgs.rel [Syms] {ι : Inj} {H : Heap} {w : World} (hH : RelH ι H w) : ∀ {xs ys : List AVal} {vs : List Value}, BArgs H xs ys → RelL ι xs vs → RelL (allFz w) ys vs
 | [], [], vs, _, h => by rw [h.unnil]; exact .nil _
 | [], _ :: _, vs, h, _ => h.elim
 | _ :: _, [], vs, h, _ => h.elim
 | a :: xs, b :: ys, vs, h, hr => by
   obtain ⟨v, vs', rfl, h1, h2⟩ := hr.uncons
   refine .cons ?_ (h.2.rel hH h2)
   cases h.1 with
   | imm _ hi => exact (h1.imm (κ := ι) (fun _ _ h => h) hi).mono (allFz_le hH)
   | see _ _ hi hw => exact (hw.rel (h1.imm (κ := ι) (fun _ _ h => h) hi)).mono (allFz_le hH)
   | own α enc d he n l ro c hn => exact own_arg d he hn hH h1
   | nil α enc d => exact .vt _ _ _ _ (RelV.isZ (sz := 1) rfl h1)
/-- Bytes of the function's own. -/
def ownP (l : List UInt8) : AVal → Heap → Nat → Prop := fun v H _ => v = .slice 0 0 l.length 1 none ∧ H = [(0, some (.cells (l.map encB) false))]
theorem own_call [Syms] {P : Program} {f : FuncId} {args args' : List AVal} {l : List UInt8} {H : Heap} {nx : Nat} (ha : BArgs H args args') (h : FnSem P f args' [] 0 (ownP l)) :
 ACalls P f args H nx (.slice nx 0 l.length 1 none) (H.set nx (some (.cells (l.map encB) false))) (nx + 1) := by
 intro ι w vs hvs hH hb
 refine (h.2 (allFz w) w vs (ha.rel hH hvs) (allFz_rel w) (fun n L hn => nomatch hn)).mono ?_
 rintro e w' ⟨v', H', nx', r, κ, ⟨rfl, rfl⟩, rfl, hr, hH', hst, hbd, _⟩
 have noOwn : ∀ g, ¬ Own (allFz w) [] g := fun g ⟨n, b, L, h1, _⟩ => by rw [Heap.get_nil] at h1; cases h1
 have same : ∀ g, g < w.heap.size → w'.heap[g]? = w.heap[g]? := fun g hg => hst.same g hg (noOwn g)
 have h00 : Heap.get [(0, some (Blk.cells (l.map encB) false))] 0 = some (.cells (l.map encB) false) := rfl
 obtain ⟨L0, hL0, hB0⟩ := hH'.blk 0 _ h00
 have hnew : w.heap.size ≤ L0.g := by
  rcases hst.own L0.g ⟨0, _, L0, h00, rfl, hL0, rfl⟩ with h | h
  ·exact absurd h (noOwn _)
  ·exact h
 let μ : Inj := ⟨fun n => if n < nx then ι n else if n = nx then κ 0 else none, ι.fz⟩
 have mold : ∀ n, n < nx → μ n = ι n := fun n hn => if_pos hn
 have mnew : μ nx = some L0 := (if_neg (Nat.lt_irrefl _)).trans ((if_pos rfl).trans hL0)
 have hle : ι.le μ := ⟨fun n L hn => (mold n (hb n L hn).1).trans hn, fun _ _ h => h⟩
 have mloc : ∀ n L, μ n = some L → (n < nx ∧ ι n = some L) ∨ (n = nx ∧ L = L0) := fun n L hn => by
  by_cases h1 : n < nx
  ·exact .inl ⟨h1, (mold n h1) ▸ hn⟩
  ·by_cases h2 : n = nx
   ·subst h2; rw [mnew] at hn; exact .inr ⟨rfl, (Option.some.inj hn).symm⟩
   ·have : μ n = none := (if_neg h1).trans (if_neg h2)
    rw [this] at hn; cases hn
 have hget : ∀ n b, (H.set nx (some (.cells (l.map encB) false))).get n = some b → (n = nx ∧ b = .cells (l.map encB) false) ∨ (n ≠ nx ∧ H.get n = some b) := fun n b hn => by
  rw [Heap.get_set] at hn
  split at hn
  ·exact .inl ⟨by simp_all, (Option.some.inj hn).symm⟩
  ·exact .inr ⟨by simp_all, hn⟩
 have hlt : ∀ n b L, H.get n = some b → μ n = some L → n < nx ∧ ι n = some L ∧ L.g < w.heap.size := fun n b L hn hL => by
  obtain ⟨L', h1, _⟩ := hH.blk n b hn
  have := hb n L' h1
  rcases mloc n L hL with ⟨q1, q2⟩ | ⟨q1, q2⟩
  ·exact ⟨q1, q2, (hb n L q2).2⟩
  ·omega
 have ownl : ∀ g, Own μ (H.set nx (some (.cells (l.map encB) false))) g → Own ι H g ∨ w.heap.size ≤ g := fun g ⟨n, b, L, k1, k2, k3, k4⟩ => by
  rcases hget n b k1 with ⟨rfl, _⟩ | ⟨_, k5⟩
  ·rw [mnew] at k3; cases k3; exact .inr (k4 ▸ hnew)
  ·exact .inl ⟨n, b, L, k5, k2, (hlt n b L k5 k3).2.1, k4⟩
 refine ⟨r, μ, rfl, ?_, ⟨fun n b hn => ?_, fun n m b c L M hn hm hL hM hg => ?_, fun g cs hg => ?_⟩, ⟨⟨hle, hst.os, hst.tape, hst.output, hst.size, fun g hg _ => same g hg, ownl, fun g cs hg => .inl hg⟩, Nat.le_succ _, fun n L hn => ?_⟩, fun n L hn => ?_⟩
 ·cases hr with
  | slice _ _ _ _ _ L a k h hs ha hl hp hm hc =>
    rw [hL0] at h
    cases h
    exact .slice _ _ _ _ _ L0 a k mnew hs ha hl hp hm hc
 ·rcases hget n b hn with ⟨rfl, rfl⟩ | ⟨_, k5⟩
  ·refine ⟨L0, mnew, ?_⟩
   obtain ⟨cs, et, fz, c1, c2, c3, c4, c5⟩ := hB0
   refine ⟨cs, et, fz, c1, c2, c3, fun k row hr => ⟨(c4 k row hr).1, fun j x hx => ?_⟩, c5⟩
   obtain ⟨v, q1, q2, q3⟩ := (c4 k row hr).2 j x hx
   refine ⟨v, q1, q2, ?_⟩
   obtain ⟨a, _, rfl⟩ := List.mem_map.1 (List.mem_of_getElem? hr)
   have hx : x = .int .u8 a.toNat := by
    cases j with
    | zero => simp [encB] at hx; exact hx.symm
    | succ j => simp [encB] at hx
   subst hx
   cases q3
   exact .int _ _
  ·obtain ⟨L, h1, h2⟩ := hH.blk n b k5
   exact ⟨L, hle.1 _ _ h1, h2.keep hle (same _ (hb n L h1).2)⟩
 ·rcases hget n b hn with ⟨rfl, rfl⟩ | ⟨_, k5⟩ <;> rcases hget m c hm with ⟨rfl, rfl⟩ | ⟨_, k6⟩
  ·exact .inl rfl
  ·rw [mnew] at hL; cases hL
   have := (hlt m c M k6 hM).2.2; omega
  ·rw [mnew] at hM; cases hM
   have := (hlt n b L k5 hL).2.2; omega
  ·exact hH.inj n m b c L M k5 k6 (hlt n b L k5 hL).2.1 (hlt m c M k6 hM).2.1 hg
 ·obtain ⟨⟨et, z, h1⟩, h2⟩ := hH.fz g cs hg
  have hg' : g < w.heap.size := by
   rcases Nat.lt_or_ge g w.heap.size with h | h
   ·exact h
   ·rw [Array.getElem?_eq_none h] at h1; cases h1
  refine ⟨⟨et, z, (same g hg').trans h1⟩, fun ho => ?_⟩
  rcases ownl g ho with h | h
  ·exact h2 h
  ·omega
 ·rcases mloc n L hn with ⟨_, h⟩ | ⟨h, _⟩
  ·exact .inl h
  ·exact .inr (by omega)
 ·rcases mloc n L hn with ⟨h1, h2⟩ | ⟨h1, h2⟩
  ·exact ⟨by omega, Nat.lt_of_lt_of_le (hb n L h2).2 hst.size⟩
  ·subst h2; exact ⟨by omega, (hbd 0 _ hL0).2⟩
abbrev SpecY := List AVal → (List UInt8 → Prop) → Prop
def BytOk [Syms] (P : Program) (f : FuncId) (S : SpecY) : Prop := ∀ args K, S args K → ∃ l, K l ∧ FnSem P f args [] 0 (ownP l)
/-- A call that answers bytes of its own. -/
def ownT (S : SpecY) : CallT := fun _ args H nx K => ∃ args', BArgs H args args' ∧ S args' fun l => K (.slice nx 0 l.length 1 none) (H.set nx (some (.cells (l.map encB) false))) (nx + 1)
theorem pickT_own [Syms] {P : Program} {n : Nat} {S : SpecY} {d : CallT} (hS : BytOk P n S) (hd : d.det P) : (pickT n (ownT S) d).det P := by
 intro f args H nx K h
 unfold pickT at h
 cases hf : Nat.beq f n with
 | true =>
   rw [hf] at h
   have := Nat.eq_of_beq_eq_true hf
   subst this
   obtain ⟨args', ha, h⟩ := h
   obtain ⟨l, h3, h4⟩ := hS args' _ h
   exact ⟨_, _, _, h4.1, own_call ha h4, h3⟩
 | false => rw [hf] at h; exact hd f args H nx K h
theorem pickT_own_ok [Syms] {P : Program} {n : Nat} {S : SpecY} {d : CallT} (hS : BytOk P n S) (hd : d.ok P) : (pickT n (ownT S) d).ok P := by
 intro f args H nx K h
 unfold pickT at h
 cases hf : Nat.beq f n with
 | true =>
   rw [hf] at h
   have hd' : (pickT f (ownT S) noneT).det P := pickT_own (Nat.eq_of_beq_eq_true hf ▸ hS) noneT_det
   refine hd'.ok f args H nx K ?_
   unfold pickT
   rw [Nat.beq_refl]
   exact h
 | false => rw [hf] at h; exact hd f args H nx K h
end Go.Proofs.Ytajieadpaeggcaa

end
section
set_option linter.unusedVariables false
set_option linter.unusedSimpArgs false
namespace Go.Proofs.Ytajieadpaeggcaa
open Go Go.Av
set_option maxRecDepth 100000
set_option maxHeartbeats 4000000
theorem or_tab : ∀ y : Fin 256, (y.val ||| 128) = y.val % 128 + 128 := by decide
theorem or128 (x : Nat) : (IntKind.u8.wrap (((BitVec.ofInt 8 (wr .u8 (x : Int)) ||| BitVec.ofInt 8 128).toNat : Nat) : Int)) = (((UInt8.ofNat (x % 128 + 128)).toNat : Nat) : Int) := by
 have hw : wr .u8 (x : Int) = ((x % 256 : Nat) : Int) := by
  by_cases h : x < 256
  ·rw [Nat.mod_eq_of_lt h]
   exact if_pos ⟨by show (0 : Int) ≤ _; omega, by show _ ≤ (255 : Int); omega⟩
  ·refine (if_neg fun hh => ?_).trans ?_
   ·have : (x : Int) ≤ 255 := hh.2; omega
   ·show IntKind.wrap _ _ = _
    simp [IntKind.wrap, IntKind.bits, IntKind.signed]
 rw [hw]
 have h1 : (BitVec.ofInt 8 ((x % 256 : Nat) : Int) ||| BitVec.ofInt 8 128).toNat = x % 256 % 128 + 128 := by
  rw [BitVec.toNat_or]
  have e1 : (BitVec.ofInt 8 ((x % 256 : Nat) : Int)).toNat = x % 256 := by simp; omega
  have e2 : (BitVec.ofInt 8 128).toNat = 128 := by decide
  rw [e1, e2]
  exact or_tab ⟨x % 256, Nat.mod_lt _ (by decide)⟩
 rw [h1, ofNat_lt (by omega)]
 rw [show x % 256 % 128 = x % 128 by omega]
 have hlt : x % 128 < 128 := Nat.mod_lt _ (by decide)
 generalize x % 128 = y at *
 simp [IntKind.wrap, IntKind.bits, IntKind.signed]
 omega
theorem wr8 (x : Nat) (h : x < 128) : wr .u8 (x : Int) = (((UInt8.ofNat x).toNat : Nat) : Int) := by
 rw [ofNat_lt (by omega)]
 exact if_pos ⟨by show (0 : Int) ≤ _; omega, by show _ ≤ (255 : Int); omega⟩
theorem shr7 (x : Nat) : (x : Int).fdiv 128 = ((x / 128 : Nat) : Int) := by
 rw [Int.fdiv_eq_ediv_of_nonneg _ (by decide)]; omega
def vpS (o : List UInt8) (x : Nat) : St := ⟨[(1, .int .u64 x), (5, .slice 0 0 o.length 1 none)], [(0, some (.cells (o.map encB) false))], 1⟩
theorem varB_big {n : Nat} (h : ¬ n < 128) : varB n = UInt8.ofNat (n % 128 + 128) :: putV 8 (n / 128) := if_neg h
theorem reb_own1 [Syms] {l : List UInt8} {N : Nat} {e : Env} {H : Heap} {nx k n len : Nat} {cap : Option Nat} {rows : List (List AVal)} (hn : NumsOk 0 nx [n] = true) (hk : e.get k = .slice n 0 len 1 cap) (hb : H.get n = some (.cells rows false)) (hr : rows = l.map encB) (hl : len = l.length) :
 Reb 0 N ⟨e, H, nx⟩ ⟨[(k, .slice 0 0 l.length 1 none)], [(0, some (.cells (l.map encB) false))], 1⟩ := by
 subst hr hl
 exact reb_num [n] hn ⟨by rw [hk]; exact wk_slc rfl, trivial⟩ ⟨⟨Nat.zero_lt_one, _, hb, wkB_eq rfl (fB _)⟩, trivial⟩
theorem own_eq {o o' : List UInt8} (h : o = o') : (AVal.slice 0 0 o.length 1 none = .slice 0 0 o'.length 1 none) ∧ [((0 : Nat), some (Blk.cells (o.map encB) false))] = [(0, some (.cells (o'.map encB) false))] := by subst h; exact ⟨rfl, rfl⟩
theorem putV_sm {x : Nat} (h : x < 128) : ∀ m, putV m x = [UInt8.ofNat x]
 | 0 => rfl
 | m + 1 => by rw [putV, if_pos h]
theorem rowsB (o : List UInt8) (x : Nat) (h : x < 128) : List.take o.length (List.drop 0 (o.map encB)) ++ List.take 1 (List.drop 0 [[AVal.int .u8 (wr .u8 (x : Int))]]) = (o ++ [UInt8.ofNat x]).map encB := by
 rw [wr8 x h, List.drop_zero, List.take_of_length_le (by simp), List.map_append]; rfl
theorem put_t [Syms] (b : List UInt8) (hl : b.length ≤ 1000000) (n : Nat) (hn : n < 128 ^ 9) :
 fnT noneT (pickT 46 (bodyT noneT noneT (fnTab fns) (tyTab tys) (plTab plt) 100) noneT) (fnTab fns) (tyTab tys) (plTab plt) 100 71 [vB b, .int .u64 n] [] 0 (ownP (b ++ varB n)) := by
 refine .inr ⟨fun l m s => l = 0 ∧ ∃ (x f : Nat) (o : List UInt8), (x < 128 ^ (f + 1) ∧ f < 10 ∧ m = f ∧ o ++ putV f x = b ++ varB n ∧ o.length + f ≤ 1000010) ∧ s = vpS o x, ?_, ?_⟩
 ·have h1 : (100 : Nat) = 100 := rfl
  cases b with
  | nil =>
    by_cases h0 : n < 128
    ·repeat' (first | (refine And.intro ?_ ?_) | (intro h; try first | exact dz | replace h := cv))
     all_goals (try exact cz)
     ·refine ⟨_, .refl _ _ _, _, rfl, ?_⟩
      repeat' (first | (refine And.intro ?_ ?_) | (intro h; try first | exact dz | replace h := cv))
      all_goals (try exact cz)
      refine ⟨_, .refl _ _ _, _, rfl, ?_⟩
      repeat' (first | (refine And.intro ?_ ?_) | (intro h; try first | exact dz | replace h := cv))
      all_goals (try exact cz)
      refine ⟨_, reb_own1 (k := 4) (l := [UInt8.ofNat n]) rfl rfl rfl ?_ rfl, _, rfl, own_eq (show [UInt8.ofNat n] = [] ++ varB n by rw [varB, putV_sm h0]; rfl)⟩
      show [[AVal.int .u8 (wr .u8 (n : Int))]] = _; rw [wr8 n h0]; rfl
     ·refine ⟨_, .refl _ _ _, _, rfl, ?_⟩
      repeat' (first | (refine And.intro ?_ ?_) | (intro h; try first | exact dz | replace h := cv))
      all_goals (try exact cz)
      refine ⟨_, .refl _ _ _, _, rfl, ?_⟩
      repeat' (first | (refine And.intro ?_ ?_) | (intro h; try first | exact dz | replace h := cv))
      all_goals (try exact cz)
      refine ⟨_, reb_own1 (k := 4) (l := [UInt8.ofNat n]) rfl rfl rfl ?_ rfl, _, rfl, own_eq (show [UInt8.ofNat n] = [] ++ varB n by rw [varB, putV_sm h0]; rfl)⟩
      show [[AVal.int .u8 (wr .u8 (n : Int))]] = _; rw [wr8 n h0]; rfl
     ·rename_i h; exact absurd h (Nat.lt_irrefl 0)
    ·repeat' (first | (refine And.intro ?_ ?_) | (intro h; try first | exact dz | replace h := cv))
     all_goals (try exact cz)
     ·refine ⟨_, .refl _ _ _, _, rfl, ?_⟩
      repeat' (first | (refine And.intro ?_ ?_) | (intro h; try first | exact dz | replace h := cv))
      all_goals (try exact cz)
      refine ⟨_, vpS [UInt8.ofNat (n % 128 + 128)] (n / 128), reb_num [1] rfl ?_ ?_, rfl, _, 8, _, ⟨?_, by omega, rfl, ?_, by simp⟩, rfl⟩
      ·exact ⟨wk_int (shr7 n), wk_slc rfl, trivial⟩
      ·refine ⟨⟨by decide, _, rfl, wkB_eq ?_ (fB _)⟩, trivial⟩
       show [[AVal.int .u8 _]] = _
       exact congrArg (fun z => [[AVal.int .u8 z]]) (or128 n)
      ·rw [Nat.div_lt_iff_lt_mul (by decide)]; omega
      ·rw [varB_big h0]; rfl
     ·refine ⟨_, .refl _ _ _, _, rfl, ?_⟩
      repeat' (first | (refine And.intro ?_ ?_) | (intro h; try first | exact dz | replace h := cv))
      all_goals (try exact cz)
      refine ⟨_, vpS [UInt8.ofNat (n % 128 + 128)] (n / 128), reb_num [2] rfl ?_ ?_, rfl, _, 8, _, ⟨?_, by omega, rfl, ?_, by simp⟩, rfl⟩
      ·exact ⟨wk_int (shr7 n), wk_slc rfl, trivial⟩
      ·refine ⟨⟨by decide, _, rfl, wkB_eq ?_ (fB _)⟩, trivial⟩
       show [[AVal.int .u8 _]] = _
       exact congrArg (fun z => [[AVal.int .u8 z]]) (or128 n)
      ·rw [Nat.div_lt_iff_lt_mul (by decide)]; omega
      ·rw [varB_big h0]; rfl
     ·rename_i h; exact absurd h (Nat.lt_irrefl 0)
  | cons a t =>
    have e := tabR_map encB 0 (a :: t)
    have el : (tabR (a :: t).length fun i => encB ((a :: t).getD i 0)).length = (a :: t).length := tabR_length _ _
    have hp : 0 < (a :: t).length := by simp
    generalize (a :: t) = b at *
    by_cases h0 : n < 128
    ·have hR := rowsB b n h0
     repeat' (first | (refine And.intro ?_ ?_) | (intro h; try first | exact dz | replace h := cv))
     all_goals (try exact cz)
     ·rename_i hb; have := hb (fun h => by rw [h] at el; simp at el; omega); subst this; cases h
     ·rw [e]; exact allLen_map (enc := encB) (z := 1) (fun _ => rfl) b
     ·refine ⟨⟨[(2, .slice 0 0 b.length 1 none)], [(0, some (.cells (b.map encB) false))], 1⟩, reb_num [1] rfl ⟨wk_slc (by omega), trivial⟩ ⟨⟨by decide, _, rfl, wkB_eq e (fB b)⟩, trivial⟩, _, rfl, ?_⟩
      repeat' (first | (refine And.intro ?_ ?_) | (intro h; try first | exact dz | replace h := cv))
      all_goals (try exact cz)
      ·show 0 + (b.length + 1) ≤ List.length (List.take b.length (List.drop 0 (b.map encB)) ++ List.take 1 (List.drop 0 [[AVal.int .u8 (wr .u8 (n : Int))]]))
       rw [hR]; simp
      ·show allLen 1 (List.take (b.length + 1) (List.drop 0 (List.take b.length (List.drop 0 (b.map encB)) ++ List.take 1 (List.drop 0 [[AVal.int .u8 (wr .u8 (n : Int))]])))) = true
       rw [hR, List.drop_zero, List.take_of_length_le (by simp)]; exact allLen_map (enc := encB) (z := 1) (fun _ => rfl) _
      ·refine ⟨_, .refl _ _ _, _, rfl, ?_⟩
       repeat' (first | (refine And.intro ?_ ?_) | (intro h; try first | exact dz | replace h := cv))
       all_goals (try exact cz)
       refine ⟨_, reb_own1 (k := 4) (l := b ++ [UInt8.ofNat n]) rfl rfl rfl ?_ (by simp), _, rfl, own_eq (show b ++ [UInt8.ofNat n] = b ++ varB n by rw [varB, putV_sm h0])⟩
       show [] ++ List.take (b.length + 1) (List.drop 0 (List.take b.length (List.drop 0 (b.map encB)) ++ List.take 1 (List.drop 0 [[AVal.int .u8 (wr .u8 (n : Int))]]))) = _
       rw [hR, List.drop_zero, List.take_of_length_le (by simp)]; rfl
    ·repeat' (first | (refine And.intro ?_ ?_) | (intro h; try first | exact dz | replace h := cv))
     all_goals (try exact cz)
     ·rename_i hb; have := hb (fun h => by rw [h] at el; simp at el; omega); subst this; cases h
     ·rw [e]; exact allLen_map (enc := encB) (z := 1) (fun _ => rfl) b
     ·refine ⟨⟨[(2, .slice 0 0 b.length 1 none)], [(0, some (.cells (b.map encB) false))], 1⟩, reb_num [1] rfl ⟨wk_slc (by omega), trivial⟩ ⟨⟨by decide, _, rfl, wkB_eq e (fB b)⟩, trivial⟩, _, rfl, ?_⟩
      repeat' (first | (refine And.intro ?_ ?_) | (intro h; try first | exact dz | replace h := cv))
      all_goals (try exact cz)
      refine ⟨_, vpS (b ++ [UInt8.ofNat (n % 128 + 128)]) (n / 128), reb_num [2] rfl ?_ ?_, rfl, _, 8, _, ⟨?_, by omega, rfl, ?_, ?_⟩, rfl⟩
      ·exact ⟨wk_int (shr7 n), wk_slc (by simp), trivial⟩
      ·refine ⟨⟨by decide, _, rfl, wkB_eq ?_ (fB _)⟩, trivial⟩
       show List.take b.length (List.drop 0 (b.map encB)) ++ [[.int .u8 _]] = _
       rw [List.drop_zero, List.take_of_length_le (by simp), List.map_append]
       exact congrArg (fun z => b.map encB ++ [[.int .u8 z]]) (or128 n)
      ·rw [Nat.div_lt_iff_lt_mul (by decide)]; omega
      ·rw [varB_big h0]; simp
      ·simp; omega
 ·rintro l rest m s hfl ⟨rfl, x, f, o, ⟨hx, hf, rfl, ho, hol⟩, rfl⟩
  cases hfl
  by_cases h0 : x < 128
  ·rw [putV_sm h0] at ho
   have hR := rowsB o x h0
   repeat' (first | (refine And.intro ?_ ?_) | (intro h; try first | exact dz | replace h := cv))
   all_goals (try exact cz)
   ·show 0 + (o.length + 1) ≤ List.length (List.take o.length (List.drop 0 (o.map encB)) ++ List.take 1 (List.drop 0 [[AVal.int .u8 (wr .u8 (x : Int))]]))
    rw [hR]; simp
   ·show allLen 1 (List.take (o.length + 1) (List.drop 0 (List.take o.length (List.drop 0 (o.map encB)) ++ List.take 1 (List.drop 0 [[AVal.int .u8 (wr .u8 (x : Int))]])))) = true
    rw [hR, List.drop_zero, List.take_of_length_le (by simp)]; exact allLen_map (enc := encB) (z := 1) (fun _ => rfl) _
   ·refine ⟨_, .refl _ _ _, _, rfl, ?_⟩
    repeat' (first | (refine And.intro ?_ ?_) | (intro h; try first | exact dz | replace h := cv))
    all_goals (try exact cz)
    refine ⟨_, reb_own1 (k := 4) (l := o ++ [UInt8.ofNat x]) rfl rfl rfl ?_ (by simp), _, rfl, own_eq ho⟩
    show [] ++ List.take (o.length + 1) (List.drop 0 (List.take o.length (List.drop 0 (o.map encB)) ++ List.take 1 (List.drop 0 [[AVal.int .u8 (wr .u8 (x : Int))]]))) = _
    rw [hR, List.drop_zero, List.take_of_length_le (by simp)]; rfl
  ·obtain ⟨f, rfl⟩ : ∃ f', m = f' + 1 := by
    cases m with
    | zero => exact absurd hx (by simp; omega)
    | succ q => exact ⟨q, rfl⟩
   rw [putV, if_neg h0] at ho
   repeat' (first | (refine And.intro ?_ ?_) | (intro h; try first | exact dz | replace h := cv))
   all_goals (try exact cz)
   refine ⟨_, vpS (o ++ [UInt8.ofNat (x % 128 + 128)]) (x / 128), reb_num [2] rfl ?_ ?_, ⟨rfl, _, f, _, ⟨?_, by omega, rfl, ?_, ?_⟩, rfl⟩, by omega⟩
   ·exact ⟨wk_int (shr7 x), wk_slc (by simp), trivial⟩
   ·refine ⟨⟨by decide, _, rfl, wkB_eq ?_ (fB _)⟩, trivial⟩
    show List.take o.length (List.drop 0 (o.map encB)) ++ [[.int .u8 _]] = _
    rw [List.drop_zero, List.take_of_length_le (by simp), List.map_append]
    exact congrArg (fun z => o.map encB ++ [[.int .u8 z]]) (or128 x)
   ·rw [Nat.div_lt_iff_lt_mul (by decide), ← Nat.pow_succ]; exact hx
   ·rw [← ho]; simp
   ·simp; omega
def S_put : SpecY := fun args K => ∃ b n, args = [vB b, .int .u64 (n : Nat)] ∧ b.length ≤ 1000000 ∧ n < 128 ^ 9 ∧ K (b ++ varB n)
theorem put_ok [Syms] : BytOk Try.prog 71 S_put := by
 rintro args K ⟨b, n, rfl, h, hn, hk⟩
 exact ⟨_, hk, fnT_sound tys_ok fns_ok noneT_det (pickT_ok (bodyT_ok tys_ok fns_ok noneT_det noneT_ok mixed) noneT_ok) mixed (put_t b h n hn)⟩
end Go.Proofs.Ytajieadpaeggcaa

end
section
set_option linter.unusedVariables false
set_option linter.unusedSimpArgs false
namespace Go.Proofs.Ytajieadpaeggcaa
open Go Go.Av
set_option maxRecDepth 100000
set_option maxHeartbeats 4000000
theorem leB_snoc : ∀ (i v : Nat), leB (i + 1) v = leB i v ++ [UInt8.ofNat (v / 256 ^ i % 256)]
 | 0, v => by simp [leB]
 | i + 1, v => by
   rw [leB, leB_snoc i (v / 256), leB, List.cons_append, Nat.div_div_eq_div_mul, Nat.pow_succ, Nat.mul_comm 256]
theorem wr8m (x : Nat) : wr .u8 (x : Int) = (((UInt8.ofNat (x % 256)).toNat : Nat) : Int) := by
 rw [ofNat_lt (by omega)]
 by_cases h : x < 256
 ·rw [Nat.mod_eq_of_lt h]
  exact if_pos ⟨by show (0 : Int) ≤ _; omega, by show _ ≤ (255 : Int); omega⟩
 ·refine (if_neg fun hh => ?_).trans ?_
  ·have : (x : Int) ≤ 255 := hh.2; omega
  ·show IntKind.wrap _ _ = _
   simp [IntKind.wrap, IntKind.bits, IntKind.signed]
theorem shrB (v i : Nat) (h : i < 8) : wr .u8 ((v : Int).fdiv (2 ^ min ((8 * (i : Int)).toNat) 64)) = (((UInt8.ofNat (v / 256 ^ i % 256)).toNat : Nat) : Int) := by
 have h1 : (8 * (i : Int)) = ((8 * i : Nat) : Int) := by omega
 have h2 : ((v : Int).fdiv (2 ^ (8 * i))) = ((v / 256 ^ i : Nat) : Int) := by
  have e : (2 : Int) ^ (8 * i) = ((256 ^ i : Nat) : Int) := by
   rw [show (256 : Nat) = 2 ^ 8 from rfl, ← Nat.pow_mul, Int.natCast_pow]; rfl
  rw [e]
  exact (Int.fdiv_eq_ediv_of_nonneg _ (Int.natCast_nonneg _)).trans (Int.natCast_ediv _ _).symm
 rw [h1, Int.toNat_natCast, Nat.min_eq_left (by omega), h2]
 exact wr8m _
theorem wrI {x : Int} (h : -9223372036854775808 ≤ x ∧ x ≤ 9223372036854775807) : wr .i64 x = x := if_pos h
def cpS (o : List UInt8) (n v i : Nat) : St := ⟨[(1, .int .i64 n), (2, .int .u64 v), (7, .slice 0 0 o.length 1 none), (8, .int .i64 i)], [(0, some (.cells (o.map encB) false))], 1⟩
theorem cput_t [Syms] (b : List UInt8) (hl : b.length ≤ 1000000) (n v : Nat) (hn : 0 < n ∧ n ≤ 8) :
 fnT noneT (pickT 46 (bodyT noneT noneT (fnTab fns) (tyTab tys) (plTab plt) 100) noneT) (fnTab fns) (tyTab tys) (plTab plt) 100 72 [vB b, .int .i64 n, .int .u64 v] [] 0 (ownP (b ++ leB n v)) := by
 obtain ⟨hn0, hn8⟩ := hn
 refine .inr ⟨fun l m s => l = 0 ∧ ∃ (i : Nat), (0 < i ∧ i ≤ n ∧ m = n - i) ∧ s = cpS (b ++ leB i v) n v i, ?_, ?_⟩
 ·cases b with
  | nil =>
    repeat' (first | (refine And.intro ?_ ?_) | (intro h; try first | exact dz | replace h := cv))
    all_goals (try exact cz)
    ·refine ⟨_, .refl _ _ _, _, rfl, ?_⟩
     repeat' (first | (refine And.intro ?_ ?_) | (intro h; try first | exact dz | replace h := cv))
     all_goals (try exact cz)
     refine ⟨_, cpS ([] ++ leB 1 v) n v 1, reb_num [1] rfl ?_ ?_, rfl, 1, ⟨by omega, by omega, rfl⟩, rfl⟩
     ·exact ⟨.refl _, .refl _, wk_slc rfl, wk_int (by rfl), trivial⟩
     ·refine ⟨⟨by decide, _, rfl, wkB_eq ?_ (fB _)⟩, trivial⟩
      rw [leB_snoc 0 v]
      exact congrArg (fun z => [[AVal.int .u8 z]]) (shrB v 0 (by decide))
    ·refine ⟨_, .refl _ _ _, _, rfl, ?_⟩
     repeat' (first | (refine And.intro ?_ ?_) | (intro h; try first | exact dz | replace h := cv))
     all_goals (try exact cz)
     refine ⟨_, cpS ([] ++ leB 1 v) n v 1, reb_num [2] rfl ?_ ?_, rfl, 1, ⟨by omega, by omega, rfl⟩, rfl⟩
     ·exact ⟨.refl _, .refl _, wk_slc rfl, wk_int (by rfl), trivial⟩
     ·refine ⟨⟨by decide, _, rfl, wkB_eq ?_ (fB _)⟩, trivial⟩
      rw [leB_snoc 0 v]
      exact congrArg (fun z => [[AVal.int .u8 z]]) (shrB v 0 (by decide))
    ·rename_i h; exact absurd h (Nat.lt_irrefl 0)
  | cons a t =>
    have e := tabR_map encB 0 (a :: t)
    have el : (tabR (a :: t).length fun i => encB ((a :: t).getD i 0)).length = (a :: t).length := tabR_length _ _
    have hp : 0 < (a :: t).length := by simp
    generalize (a :: t) = b at *
    repeat' (first | (refine And.intro ?_ ?_) | (intro h; try first | exact dz | replace h := cv))
    all_goals (try exact cz)
    ·rename_i hb; have := hb (fun h => by rw [h] at el; simp at el; omega); subst this; cases h
    ·rw [e]; exact allLen_map (enc := encB) (z := 1) (fun _ => rfl) b
    ·refine ⟨⟨[(2, .slice 0 0 b.length 1 none)], [(0, some (.cells (b.map encB) false))], 1⟩, reb_num [1] rfl ⟨wk_slc (by omega), trivial⟩ ⟨⟨by decide, _, rfl, wkB_eq e (fB b)⟩, trivial⟩, _, rfl, ?_⟩
     repeat' (first | (refine And.intro ?_ ?_) | (intro h; try first | exact dz | replace h := cv))
     all_goals (try exact cz)
     refine ⟨_, cpS (b ++ leB 1 v) n v 1, reb_num [2] rfl ?_ ?_, rfl, 1, ⟨by omega, by omega, rfl⟩, rfl⟩
     ·exact ⟨.refl _, .refl _, wk_slc (by simp [leB]), wk_int (by rfl), trivial⟩
     ·refine ⟨⟨by decide, _, rfl, wkB_eq ?_ (fB _)⟩, trivial⟩
      rw [leB_snoc 0 v]
      show List.take b.length (List.drop 0 (b.map encB)) ++ [[.int .u8 _]] = _
      rw [List.drop_zero, List.take_of_length_le (by simp), List.map_append]
      exact congrArg (fun z => b.map encB ++ [[AVal.int .u8 z]]) (shrB v 0 (by decide))
 ·rintro l rest m s hfl ⟨rfl, i, ⟨hi0, hi, rfl⟩, rfl⟩
  cases hfl
  have hlen : (b ++ leB i v).length = b.length + i := by rw [List.length_append, leB_len]
  by_cases h0 : i < n
  ·repeat' (first | (refine And.intro ?_ ?_) | (intro h; try first | exact dz | replace h := cv))
   all_goals (try exact cz)
   refine ⟨_, cpS (b ++ leB (i + 1) v) n v (i + 1), reb_num [2] rfl ?_ ?_, ⟨rfl, i + 1, ⟨by omega, by omega, rfl⟩, rfl⟩, by omega⟩
   ·exact ⟨.refl _, .refl _, wk_slc (by simp [leB_len]; omega), wk_int (by omega), trivial⟩
   ·refine ⟨⟨by decide, _, rfl, wkB_eq ?_ (fB _)⟩, trivial⟩
    rw [leB_snoc i v, ← List.append_assoc]
    show List.take (b ++ leB i v).length (List.drop 0 ((b ++ leB i v).map encB)) ++ [[.int .u8 _]] = _
    generalize b ++ leB i v = o
    rw [List.drop_zero, List.take_of_length_le (by simp), List.map_append]
    exact congrArg (fun z => o.map encB ++ [[AVal.int .u8 z]]) (shrB v i (by omega))
  ·obtain rfl : i = n := by omega
   repeat' (first | (refine And.intro ?_ ?_) | (intro h; try first | exact dz | replace h := cv))
   all_goals (try exact cz)
   ·show allLen 1 (List.take (b ++ leB i v).length (List.drop 0 ((b ++ leB i v).map encB))) = true
    rw [List.drop_zero, List.take_of_length_le (by simp)]; exact allLen_map (enc := encB) (z := 1) (fun _ => rfl) _
   ·refine ⟨_, .refl _ _ _, _, rfl, ?_⟩
    repeat' (first | (refine And.intro ?_ ?_) | (intro h; try first | exact dz | replace h := cv))
    all_goals (try exact cz)
    refine ⟨_, reb_own1 (k := 6) (l := b ++ leB i v) rfl rfl rfl ?_ (by omega), _, rfl, own_eq rfl⟩
    show [] ++ List.take (b ++ leB i v).length (List.drop 0 ((b ++ leB i v).map encB)) = _
    rw [List.drop_zero, List.take_of_length_le (by simp)]; rfl
def S_cput : SpecY := fun args K => ∃ b n v, args = [vB b, .int .i64 (n : Nat), .int .u64 (v : Nat)] ∧ b.length ≤ 1000000 ∧ (0 < n ∧ n ≤ 8) ∧ K (b ++ leB n v)
theorem cput_ok [Syms] : BytOk Try.prog 72 S_cput := by
 rintro args K ⟨b, n, v, rfl, h, hn, hk⟩
 exact ⟨_, hk, fnT_sound tys_ok fns_ok noneT_det (pickT_ok (bodyT_ok tys_ok fns_ok noneT_det noneT_ok mixed) noneT_ok) mixed (cput_t b h n v hn)⟩
end Go.Proofs.Ytajieadpaeggcaa

end
section
set_option linter.unusedVariables false
set_option linter.unusedSimpArgs false
namespace Go.Proofs.Ytajieadpaeggcaa
open Go Go.Av
set_option maxRecDepth 100000
set_option maxHeartbeats 4000000
theorem pow7_le {i : Nat} (h : i ≤ 9) : 2 ^ (7 * i) ≤ 2 ^ 63 := Nat.pow_le_pow_right (by decide) (by omega)
theorem mul7_lt {y i : Nat} (hi : i ≤ 9) (hy : y < 128) (hx : i = 9 → y ≤ 1) : (y + 1) * 2 ^ (7 * i) ≤ 2 ^ 64 := by
 by_cases h : i = 9
 ·have := hx h
  subst h
  have : (y + 1) * 2 ^ (7 * 9) ≤ 2 * 2 ^ (7 * 9) := Nat.mul_le_mul_right _ (by omega)
  omega
 ·have h1 : 2 ^ (7 * i) ≤ 2 ^ 56 := Nat.pow_le_pow_right (by decide) (by omega)
  have : (y + 1) * 2 ^ (7 * i) ≤ 128 * 2 ^ 56 := Nat.mul_le_mul (by omega) h1
  omega
theorem wrUN {n : Nat} (h : n < 2 ^ 64) : wr .u64 (n : Int) = (n : Int) := if_pos ⟨by show (0 : Int) ≤ _; omega, by show _ ≤ (18446744073709551615 : Int); omega⟩
theorem shlV (x i : Nat) (hi : i ≤ 9) (hx : i = 9 → x ≤ 1) : wr .u64 ((((x % 128 : Nat) : Int)) * 2 ^ min ((7 * (i : Int)).toNat) 64) = ((x % 128 * 2 ^ (7 * i) : Nat) : Int) := by
 have h1 : (7 * (i : Int)).toNat = 7 * i := by omega
 have h2 := mul7_lt (y := x % 128) hi (by omega) (fun h => by have := hx h; omega)
 have hp : 0 < 2 ^ (7 * i) := Nat.pow_pos (by decide)
 rw [Nat.add_mul, Nat.one_mul] at h2
 rw [h1, Nat.min_eq_left (by omega), ← wrUN (n := x % 128 * 2 ^ (7 * i)) (by omega)]
 congr 1
theorem orV (v x i : Nat) (hv : v < 2 ^ (7 * i)) (hi : i ≤ 9) (hx : i = 9 → x ≤ 1) :
 IntKind.u64.wrap (((BitVec.ofInt 64 (v : Int) ||| BitVec.ofInt 64 ((x % 128 * 2 ^ (7 * i) : Nat) : Int)).toNat : Nat) : Int) = ((v + x % 128 * 2 ^ (7 * i) : Nat) : Int) := by
 have h2 := mul7_lt (y := x % 128) hi (by omega) (fun h => by have := hx h; omega)
 have hp : 0 < 2 ^ (7 * i) := Nat.pow_pos (by decide)
 have h3 := pow7_le hi
 rw [Nat.add_mul, Nat.one_mul] at h2
 have hm : ∀ n : Nat, n < 2 ^ 64 → (BitVec.ofInt 64 (n : Int)).toNat = n := fun n hn => by simp; omega
 have ho : (BitVec.ofInt 64 (v : Int) ||| BitVec.ofInt 64 ((x % 128 * 2 ^ (7 * i) : Nat) : Int)).toNat = v + x % 128 * 2 ^ (7 * i) := by
  rw [BitVec.toNat_or, hm v (by omega), hm _ (by omega), ← Nat.shiftLeft_eq, Nat.or_comm, ← Nat.shiftLeft_add_eq_or_of_lt hv, Nat.add_comm]
 rw [ho]
 generalize hn : v + x % 128 * 2 ^ (7 * i) = n
 have hn64 : n < 2 ^ 64 := by omega
 simp [IntKind.wrap, IntKind.bits, IntKind.signed]
 try omega
theorem stepV (v x i : Nat) (hv : v < 2 ^ (7 * i)) (hi : i ≤ 9) (hx : i = 9 → x ≤ 1) :
 IntKind.u64.wrap (((BitVec.ofInt 64 (v : Int) ||| BitVec.ofInt 64 (wr .u64 (wr .u64 ((x : Int).tmod 128) * 2 ^ min ((7 * (i : Int)).toNat) 64))).toNat : Nat) : Int) = ((v + x % 128 * 2 ^ (7 * i) : Nat) : Int) := by
 rw [show (x : Int).tmod 128 = ((x % 128 : Nat) : Int) from rfl, wrUN (n := x % 128) (by omega), shlV x i hi hx, orV v x i hv hi hx]
theorem boundV {v x i : Nat} (hv : v < 2 ^ (7 * i)) : v + x % 128 * 2 ^ (7 * i) < 2 ^ (7 * (i + 1)) := by
 have h : (x % 128 + 1) * 2 ^ (7 * i) ≤ 128 * 2 ^ (7 * i) := Nat.mul_le_mul_right _ (by omega)
 have e : 2 ^ (7 * (i + 1)) = 128 * 2 ^ (7 * i) := by rw [Nat.mul_succ, Nat.pow_add]; omega
 rw [Nat.add_mul, Nat.one_mul] at h
 omega
theorem encB_0 (c : UInt8) : (encB c).getD 0 .any = .int .u8 c.toNat := rfl
def gvS (b : List UInt8) (i v : Nat) : St := ⟨[(2, .int .u64 v), (3, .int .i64 0), (4, .int .i64 0), (7, vB b), (8, .int .i64 b.length), (9, .int .i64 i)], [], 0⟩
def getA (r : Nat × Nat × Int) : AVal := .tup [.int .u64 r.1, .int .i64 r.2.1, .int .i64 r.2.2]
theorem get_t [Syms] (b : List UInt8) (hl : b.length ≤ 1000000) :
 fnT noneT noneT (fnTab fns) (tyTab tys) (plTab plt) 100 79 [vB b] [] 0 (fun v H _ => v = getA (getV b 0 0) ∧ H = []) := by
 refine ⟨fun m s => ∃ i v : Nat, (i ≤ b.length ∧ i ≤ 9 ∧ m = b.length - i ∧ v < 2 ^ (7 * i) ∧ getV (b.drop i) i v = getV b 0 0) ∧ s = gvS b i v, ⟨_, gvS b 0 0, reb_flat [2, 3, 4, 7, 8, 9] rfl, 0, 0, ⟨by omega, by omega, rfl, by decide, rfl⟩, rfl⟩, ?_⟩
 rintro m s ⟨i, v, ⟨hi, hi10, rfl, hv, hg⟩, rfl⟩
 by_cases h1 : i < b.length
 ·have hd : b.drop i = b.getD i 0 :: b.drop (i + 1) := by
   rw [List.drop_eq_getElem_cons h1, List.getD_eq_getElem?_getD, List.getElem?_eq_getElem h1]; rfl
  rw [hd, getV] at hg
  have hx8 : (b.getD i 0).toNat < 256 := (b.getD i 0).toNat_lt
  generalize hx : (b.getD i 0).toNat = x at *
  have hx1 := encB_0
  have hx2 := hx
  have hx3 := hx
  have hx4 : ((i : Nat) : Int).toNat = i := Int.toNat_natCast i
  by_cases h2 : i = 9 ∧ 1 < x
  ·rw [if_pos h2] at hg
   obtain ⟨h29, h2⟩ := h2
   repeat' (first | (refine And.intro ?_ ?_) | (intro h; try first | exact dzi | replace h := cvi))
   all_goals (try exact cz)
   exact ⟨_, reb_flat [2, 3, 4] rfl, _, rfl, congrArg getA hg, rfl⟩
  ·rw [if_neg h2] at hg
   by_cases h3 : x < 128
   ·rw [if_pos h3] at hg
    by_cases h4 : x = 0 ∧ 0 < i
    ·rw [if_pos h4] at hg
     obtain ⟨h4, h5⟩ := h4
     repeat' (first | (refine And.intro ?_ ?_) | (intro h; try first | exact dzi | replace h := cvi))
     all_goals (try exact cz)
     all_goals exact ⟨_, reb_flat [2, 3, 4] rfl, _, rfl, congrArg getA hg, rfl⟩
    ·rw [if_neg h4] at hg
     repeat' (first | (refine And.intro ?_ ?_) | (intro h; try first | exact dzi | replace h := cvi))
     all_goals (try exact cz)
     all_goals refine ⟨⟨[(2, .int .u64 ((v + x % 128 * 2 ^ (7 * i) : Nat) : Int)), (3, .int .i64 ((i + 1 : Nat) : Int)), (4, .int .i64 0)], [], 0⟩, reb_num [] rfl ⟨wk_int ?_, wk_int (by omega), .refl _, trivial⟩ trivial, _, rfl, congrArg getA hg, rfl⟩
     all_goals (subst hx; exact stepV v (b.getD i 0).toNat i hv hi10 (by omega))
   ·rw [if_neg h3] at hg
    repeat' (first | (refine And.intro ?_ ?_) | (intro h; try first | exact dzi | replace h := cvi))
    all_goals (try exact cz)
    refine ⟨_, gvS b (i + 1) (v + x % 128 * 2 ^ (7 * i)), reb_num [] rfl ⟨wk_int ?_, .refl _, .refl _, .refl _, .refl _, wk_int (by omega), trivial⟩ trivial, ⟨i + 1, _, ⟨by omega, by omega, rfl, ?_, hg⟩, rfl⟩, by omega⟩
    ·subst hx; exact stepV v (b.getD i 0).toNat i hv hi10 (by omega)
    ·exact boundV hv
 ·obtain rfl : i = b.length := by omega
  rw [List.drop_length, getV] at hg
  repeat' (first | (refine And.intro ?_ ?_) | (intro h; try first | exact dz | replace h := cv))
  all_goals (try exact cz)
  exact ⟨_, reb_flat [2, 3, 4] rfl, _, rfl, congrArg getA hg, rfl⟩
def S_get : SpecI := fun args K => ∃ b, args = [vB b] ∧ b.length ≤ 1000000 ∧ K (getA (getV b 0 0))
theorem get_ok [Syms] : ImmOk Try.prog 79 S_get := by
 rintro args K ⟨b, rfl, h, hk⟩
 exact ⟨rfl, _, rfl, hk, fnI tys_ok fns_ok noneT_det noneT_ok mixed (get_t b h)⟩
end Go.Proofs.Ytajieadpaeggcaa

end
section
set_option linter.unusedVariables false
set_option linter.unusedSimpArgs false
namespace Go.Proofs.Ytajieadpaeggcaa
open Go Go.Av

/-- The names that 'Make' gives: by their place; the last one may be 'z'. -/
structure Nam (fs : List Fd) : Prop where
 pos : 0 < fs.length
 le : fs.length ≤ 14
 root : (fs.getD 0 default).name = [109]
 at' : ∀ j, 1 ≤ j → j < fs.length → (fs.getD j default).name = nmM (j - 1) ∧ j ≤ 12 ∨ ((fs.getD j default).name = [122] ∧ j + 1 = fs.length)
theorem incK_name (fs : List Fd) (a j : Nat) : ((incK fs a).getD j default).name = (fs.getD j default).name := by
 unfold incK
 rw [List.getD_eq_getElem?_getD, List.getD_eq_getElem?_getD, List.getElem?_set]
 split
 ·rename_i h; subst h
  split
  ·rename_i h; simp [h]
  ·rename_i h; simp [Nat.le_of_not_lt h]
 ·rfl
theorem incK_kids_le {fs : List Fd} {a : Nat} {m : Int} (h : ∀ j, (fs.getD j default).kids ≤ m) (j : Nat) : ((incK fs a).getD j default).kids ≤ m + 1 := by
 unfold incK
 rw [List.getD_eq_getElem?_getD, List.getElem?_set]
 have hj := h j
 rw [List.getD_eq_getElem?_getD] at hj
 split
 ·rename_i e; subst e
  split
  ·have := h a; simp; omega
  ·rename_i hh; simp [Nat.le_of_not_lt hh] at hj ⊢; omega
 ·omega
theorem getD_app_lt {α : Type} {l : List α} {x d : α} {j : Nat} (h : j < l.length) : (l ++ [x]).getD j d = l.getD j d := by
 simp [List.getD_eq_getElem?_getD, List.getElem?_append_left h]
theorem getD_app_eq {α : Type} {l : List α} {x d : α} : (l ++ [x]).getD l.length d = x := by
 simp [List.getD_eq_getElem?_getD]
/-- What holds while it is made. -/
structure MkI (i : Nat) (fs : List Fd) (op : List Int) : Prop where
 len : fs.length = i + 1
 root : (fs.getD 0 default).name = [109]
 nm : ∀ j, 1 ≤ j → j < fs.length → (fs.getD j default).name = nmM (j - 1)
 kids : ∀ j, (fs.getD j default).kids ≤ i
 rep : ∀ f ∈ fs, 0 ≤ f.rep ∧ f.rep ≤ 2 ∧ 0 ≤ f.kind ∧ f.kind ≤ 4
theorem incK_rep {fs : List Fd} {a : Nat} {f : Fd} (h : ∀ f ∈ fs, 0 ≤ f.rep ∧ f.rep ≤ 2 ∧ 0 ≤ f.kind ∧ f.kind ≤ 4) (hf : f ∈ incK fs a) : 0 ≤ f.rep ∧ f.rep ≤ 2 ∧ 0 ≤ f.kind ∧ f.kind ≤ 4 := by
 rcases List.mem_or_eq_of_mem_set hf with hf | rfl
 ·exact h f hf
 ·by_cases ha : a < fs.length
  ·exact h (fs.getD a default) (by simp [List.getD_eq_getElem?_getD, ha])
  ·simp [List.getD_eq_getElem?_getD, Nat.le_of_not_lt ha]
   decide
theorem kindM_range (op : List Int) (x : Int) : 0 ≤ kindM op x ∧ kindM op x ≤ 4 := by
 obtain ⟨h1, h2⟩ := wi_range (a := x) (n := 8) (by decide)
 have h3 : (wi x 8).tmod 5 = wi x 8 % 5 := Int.tmod_eq_emod_of_nonneg h1
 unfold kindM
 split <;> omega
theorem mkI_step {ns : List Int} {i : Nat} {fs : List Fd} {op : List Int} (h : MkI i fs op) (x : Int) : MkI (i + 1) (stepM fs op i x).1 (stepM fs op i x).2 := by
 have hl := h.len
 obtain ⟨w1, w2⟩ := wi_range (a := wr .i64 (x.tdiv 8)) (n := 3) (by decide)
 refine ⟨by simp [stepM, incK_length, hl], ?_, ?_, ?_, ?_⟩
 ·simp only [stepM]
  rw [getD_app_lt (by rw [incK_length]; omega), incK_name]; exact h.root
 ·intro j h1 h2
  simp only [stepM] at h2 ⊢
  simp [incK_length] at h2
  by_cases hj : j < fs.length
  ·rw [getD_app_lt (by rw [incK_length]; exact hj), incK_name]; exact h.nm j h1 hj
  ·obtain rfl : j = fs.length := by omega
   rw [← incK_length fs (topM (popM fs (wi (wr .i64 (x.tdiv 64)) 3).toNat op)).toNat, getD_app_eq]
   simp only [fldM, incK_length, hl]; rfl
 ·intro j
  simp only [stepM]
  by_cases hj : j < fs.length
  ·rw [getD_app_lt (by rw [incK_length]; exact hj)]
   have := incK_kids_le (a := (topM (popM fs (wi (wr .i64 (x.tdiv 64)) 3).toNat op)).toNat) h.kids j
   omega
  ·by_cases hj' : j = fs.length
   ·subst hj'
    rw [← incK_length fs (topM (popM fs (wi (wr .i64 (x.tdiv 64)) 3).toNat op)).toNat, getD_app_eq]
    simp only [fldM]; omega
   ·rw [List.getD_eq_getElem?_getD, List.getElem?_eq_none (by simp [incK_length]; omega)]
    show (0 : Int) ≤ _; omega
 ·intro f hf
  simp only [stepM] at hf
  rcases List.mem_append.1 hf with hf | hf
  ·exact incK_rep h.rep hf
  ·simp only [List.mem_singleton] at hf; subst hf
   have := kindM_range (popM fs (wi (wr .i64 (x.tdiv 64)) 3).toNat op) x
   simp only [fldM]; omega
theorem mkI_run {ns : List Int} : ∀ (n i : Nat) (fs : List Fd) (op : List Int), MkI i fs op → n + i = 12 → ∃ m, m ≤ 12 ∧ MkI m (runM ns n i fs op).1 (runM ns n i fs op).2
 | 0, i, fs, op, h, hn => ⟨i, by omega, h⟩
 | n + 1, i, fs, op, h, hn => by
   rw [runM]
   split
   ·exact mkI_run n (i + 1) _ _ (mkI_step (ns := ns) h _) (by omega)
   ·exact ⟨i, by omega, h⟩
theorem mkI_end (ns : List Int) : ∃ m, m ≤ 12 ∧ MkI m (runM ns 12 0 fs0 [0]).1 (runM ns 12 0 fs0 [0]).2 := by
 refine mkI_run 12 0 _ _ ⟨rfl, rfl, fun j h1 h2 => ?_, fun j => ?_, ?_⟩ rfl
 ·simp at h2; omega
 ·match j with
  | 0 => exact Int.le_refl _
  | j + 1 => exact Int.le_refl _
 ·intro f hf; simp only [List.mem_singleton] at hf; subst hf; decide
theorem make_nam (ns : List Int) : Nam (makeF ns) := by
 obtain ⟨m, hm, h⟩ := mkI_end ns
 have hl := h.len
 simp only [makeF]
 generalize (runM ns 12 0 fs0 [0]).1 = fs at *
 generalize (runM ns 12 0 fs0 [0]).2 = op at *
 unfold endM
 split
 ·refine ⟨by simp, by simp [incK_length]; omega, by rw [getD_app_lt (by rw [incK_length]; omega), incK_name]; exact h.root, fun j h1 h2 => ?_⟩
  simp [incK_length] at h2
  by_cases hj : j < fs.length
  ·left
   rw [getD_app_lt (by rw [incK_length]; exact hj), incK_name]; exact ⟨h.nm j h1 hj, by omega⟩
  ·right
   obtain rfl : j = fs.length := by omega
   refine ⟨?_, by simp [incK_length]⟩
   rw [← incK_length fs (topM op).toNat, getD_app_eq]
 ·exact ⟨by omega, by omega, h.root, fun j h1 h2 => .inl ⟨h.nm j h1 h2, by omega⟩⟩
theorem make_kids (ns : List Int) (j : Nat) : ((makeF ns).getD j default).kids ≤ 13 := by
 obtain ⟨m, hm, h⟩ := mkI_end ns
 simp only [makeF]
 generalize (runM ns 12 0 fs0 [0]).1 = fs at *
 generalize (runM ns 12 0 fs0 [0]).2 = op at *
 unfold endM
 split
 ·by_cases hj : j < fs.length
  ·rw [getD_app_lt (by rw [incK_length]; exact hj)]
   have := incK_kids_le (a := (topM op).toNat) h.kids j
   omega
  ·by_cases hj' : j = fs.length
   ·subst hj'
    rw [← incK_length fs (topM op).toNat, getD_app_eq]
    decide
   ·rw [List.getD_eq_getElem?_getD, List.getElem?_eq_none (by simp [incK_length]; omega)]
    decide
 ·have := h.kids j; omega
theorem Nam.len1 {fs : List Fd} (h : Nam fs) (j : Nat) : (fs.getD j default).name.length ≤ 1 := by
 by_cases hj : j < fs.length
 ·by_cases h0 : j = 0
  ·subst h0; rw [h.root]; decide
  ·rcases h.at' j (by omega) hj with ⟨e, _⟩ | ⟨e, _⟩ <;> rw [e] <;> simp [nmM]
 ·rw [List.getD_eq_getElem?_getD, List.getElem?_eq_none (by omega)]
  decide
theorem make_ok (ns : List Int) : FsOk (makeF ns) := by
 have h := make_nam ns
 exact ⟨by have := h.le; omega, fun i => by have := make_kids ns i; omega, fun i => by have := h.len1 i; omega⟩
theorem nmM_inj : ∀ i, i < 12 → ∀ k, k < 12 → nmM i = nmM k → i = k := by decide
theorem nmM_z : ∀ i, i < 12 → nmM i ≠ [122] := by decide
theorem Nam.inj {fs : List Fd} (h : Nam fs) {i k : Nat} (h1 : 1 ≤ i) (h2 : i < fs.length) (h3 : 1 ≤ k) (h4 : k < fs.length) (e : (fs.getD i default).name = (fs.getD k default).name) : i = k := by
 rcases h.at' i h1 h2 with ⟨a, a'⟩ | ⟨a, a'⟩ <;> rcases h.at' k h3 h4 with ⟨b, b'⟩ | ⟨b, b'⟩
 ·rw [a, b] at e
  have := nmM_inj _ (by omega) _ (by omega) e
  omega
 ·rw [a, b] at e; exact absurd e (nmM_z _ (by omega))
 ·rw [a, b] at e; exact absurd e.symm (nmM_z _ (by omega))
 ·omega
theorem Nam.one {fs : List Fd} (h : Nam fs) {i : Nat} (h1 : 1 ≤ i) (h2 : i < fs.length) : ∃ b, (fs.getD i default).name = [b] := by
 rcases h.at' i h1 h2 with ⟨a, _⟩ | ⟨a, _⟩
 ·exact ⟨_, a⟩
 ·exact ⟨_, a⟩
end Go.Proofs.Ytajieadpaeggcaa

end
section
set_option linter.unusedVariables false
set_option linter.unusedSimpArgs false
namespace Go.Proofs.Ytajieadpaeggcaa
open Go Go.Av

def lf0 : Lf := ⟨0, 0, 0, 0⟩
def baseL (L : List Lf) (p : Int) : Lf := if 0 ≤ p then L.getD p.toNat default else lf0
def mkL (fs : List Fd) (ps : List Int) (L : List Lf) (i : Nat) : Lf :=
 let f := fs.getD i default
 let b := baseL L (ps.getD i 0)
 ⟨i, if f.rep = 2 then b.r + 1 else b.r, if f.rep ≠ 0 then b.d + 1 else b.d, f.kind⟩
def lvRun (fs : List Fd) (ps : List Int) : Nat → List Lf
 | 0 => []
 | i + 1 => lvRun fs ps i ++ [mkL fs ps (lvRun fs ps i) i]
def isLeaf (l : Lf) : Bool := decide (l.kind ≠ 0)
def lvOut (fs : List Fd) (ps : List Int) (i : Nat) : List Lf := (lvRun fs ps i).filter isLeaf
def leavesF (fs : List Fd) : List Lf := lvOut fs (parentsF fs) fs.length

theorem lvRun_length (fs : List Fd) (ps : List Int) : ∀ i, (lvRun fs ps i).length = i
 | 0 => rfl
 | i + 1 => by simp [lvRun, lvRun_length fs ps i]
theorem lvRun_at (fs : List Fd) (ps : List Int) {j : Nat} : ∀ {i : Nat}, j < i → (lvRun fs ps i).getD j default = mkL fs ps (lvRun fs ps j) j
 | 0, h => by omega
 | i + 1, h => by
   by_cases hj : j < i
   ·rw [lvRun, getD_app_lt (by rw [lvRun_length]; exact hj)]; exact lvRun_at fs ps hj
   ·obtain rfl : j = i := by omega
    have := getD_app_eq (l := lvRun fs ps j) (x := mkL fs ps (lvRun fs ps j) j) (d := default)
    rw [lvRun_length] at this
    exact this
theorem lvRun_same (fs : List Fd) (ps : List Int) {j i k : Nat} (h1 : j < i) (h2 : j < k) : (lvRun fs ps i).getD j default = (lvRun fs ps k).getD j default := by rw [lvRun_at fs ps h1, lvRun_at fs ps h2]
theorem lvOut_succ (fs : List Fd) (ps : List Int) (i : Nat) : lvOut fs ps (i + 1) = if (fs.getD i default).kind ≠ 0 then lvOut fs ps i ++ [mkL fs ps (lvRun fs ps i) i] else lvOut fs ps i := by
 unfold lvOut
 rw [lvRun, List.filter_append]
 by_cases h : (fs.getD i default).kind ≠ 0
 ·have hl : isLeaf (mkL fs ps (lvRun fs ps i) i) = true := decide_eq_true h
  rw [if_pos h, List.filter_cons, if_pos hl]; rfl
 ·have hl : isLeaf (mkL fs ps (lvRun fs ps i) i) = false := decide_eq_false h
  rw [if_neg h, List.filter_cons, if_neg (by rw [hl]; decide)]; simp
theorem lvOut_len_le (fs : List Fd) (ps : List Int) (i : Nat) : (lvOut fs ps i).length ≤ i := by
 have := List.length_filter_le isLeaf (lvRun fs ps i)
 rw [lvRun_length] at this
 exact this
/-- The parents lie ahead. -/
def Ahead (ps : List Int) (n : Nat) : Prop := ∀ j, j < n → -1 ≤ ps.getD j 0 ∧ ps.getD j 0 < j
theorem parents_ahead (fs : List Fd) : Ahead (parentsF fs) fs.length := fun j h => parents_lt fs j h
theorem lv_bound {fs : List Fd} {ps : List Int} {n : Nat} (ha : Ahead ps n) : ∀ i, i ≤ n → ∀ j, j < i → 0 ≤ ((lvRun fs ps i).getD j default).r ∧ ((lvRun fs ps i).getD j default).r ≤ ((lvRun fs ps i).getD j default).d ∧ ((lvRun fs ps i).getD j default).d ≤ j + 1
 | 0, _, j, h => by omega
 | i + 1, hi, j, h => by
   by_cases hj : j < i
   ·rw [lvRun_same fs ps h hj]; exact lv_bound ha i (by omega) j hj
   ·obtain rfl : j = i := by omega
    rw [lvRun_at fs ps h]
    have hp := ha j (by omega)
    have hb : 0 ≤ (baseL (lvRun fs ps j) (ps.getD j 0)).r ∧ (baseL (lvRun fs ps j) (ps.getD j 0)).r ≤ (baseL (lvRun fs ps j) (ps.getD j 0)).d ∧ (baseL (lvRun fs ps j) (ps.getD j 0)).d ≤ j := by
     unfold baseL
     split
     ·have := lv_bound (fs := fs) ha j (by omega) (ps.getD j 0).toNat (by omega)
      omega
     ·simp [lf0]
    simp only [mkL]
    split <;> split <;> omega
/-! ### Climbing -/
/-- How far a place is repeated, from there up. -/
def upR (fs : List Fd) (ps : List Int) (n : Nat) (k : Int) : Int := if 0 ≤ k then ((lvRun fs ps n).getD k.toNat default).r else 0
def upD (fs : List Fd) (ps : List Int) (n : Nat) (k : Int) : Int := if 0 ≤ k then ((lvRun fs ps n).getD k.toNat default).d else 0
theorem upR_step {fs : List Fd} {ps : List Int} {n k : Nat} (ha : Ahead ps n) (hk : k < n) : upR fs ps n k = upR fs ps n (ps.getD k 0) + (if (fs.getD k default).rep = 2 then 1 else 0) := by
 have hp := ha k hk
 unfold upR
 rw [if_pos (by omega), Int.toNat_natCast, lvRun_at fs ps hk]
 simp only [mkL, baseL]
 by_cases h : 0 ≤ ps.getD k 0
 ·rw [if_pos h, if_pos h, lvRun_same fs ps (i := k) (k := n) (by omega) (by omega)]
  split <;> omega
 ·rw [if_neg h, if_neg h]
  simp only [lf0]; split <;> rfl
theorem upD_step {fs : List Fd} {ps : List Int} {n k : Nat} (ha : Ahead ps n) (hk : k < n) : upD fs ps n k = upD fs ps n (ps.getD k 0) + (if (fs.getD k default).rep ≠ 0 then 1 else 0) := by
 have hp := ha k hk
 unfold upD
 rw [if_pos (by omega), Int.toNat_natCast, lvRun_at fs ps hk]
 simp only [mkL, baseL]
 by_cases h : 0 ≤ ps.getD k 0
 ·rw [if_pos h, if_pos h, lvRun_same fs ps (i := k) (k := n) (by omega) (by omega)]
  split <;> omega
 ·rw [if_neg h, if_neg h]
  simp only [lf0]; split <;> rfl
/-! ### A shape of raw numbers has a leaf: its last field -/
structure LastI (fs : List Fd) (op : List Int) : Prop where
 pos : 0 < fs.length
 last : (fs.getD (fs.length - 1) default).kind = 0 → topM op = ((fs.length - 1 : Nat) : Int) ∧ (fs.getD (fs.length - 1) default).kids = 0
end Go.Proofs.Ytajieadpaeggcaa

end
section
set_option linter.unusedVariables false
set_option linter.unusedSimpArgs false
namespace Go.Proofs.Ytajieadpaeggcaa
open Go Go.Av
/-- The document's: it gives up a group where none is left, and opens none that is to have none. -/
def popR : Stk → Stk
 | [] => []
 | (a, k) :: t => if k = 0 then popR t else (a, k) :: t
def pushR (i : Nat) (f : Fd) (st : Stk) : Stk := if f.kind = 0 ∧ 0 < f.kids then ((i : Int), f.kids) :: st else st
def rrun : List Fd → Nat → Stk → List (Int × Int)
 | [], _, _ => []
 | f :: fs, i, st => (parOf (popR st), ((popR st).length : Int)) :: rrun fs (i + 1) (pushR i f (decS (popR st)))
def NonNeg (st : Stk) : Prop := ∀ p ∈ st, 0 ≤ p.2
theorem popR_popZ : ∀ {st : Stk}, NonNeg st → popR st = popZ st
 | [], _ => rfl
 | (a, k) :: t, h => by
   have hk : 0 ≤ k := h (a, k) (List.mem_cons_self ..)
   rw [popR, popZ]
   by_cases h0 : k = 0
   ·rw [if_pos h0, if_pos (by omega)]; exact popR_popZ fun p hp => h p (List.mem_cons_of_mem _ hp)
   ·rw [if_neg h0, if_neg (by omega)]
theorem popR_mem {st : Stk} {p : Int × Int} (h : p ∈ popR st) : p ∈ st := by
 induction st with
 | nil => simp [popR] at h
 | cons q t ih =>
   obtain ⟨a, k⟩ := q
   rw [popR] at h
   split at h
   ·exact List.mem_cons_of_mem _ (ih h)
   ·exact h
theorem popR_head {st : Stk} {a k : Int} {t : Stk} (hn : NonNeg st) (h : popR st = (a, k) :: t) : 0 < k := by
 induction st with
 | nil => simp [popR] at h
 | cons q s ih =>
   obtain ⟨b, l⟩ := q
   rw [popR] at h
   split at h
   ·exact ih (fun p hp => hn p (List.mem_cons_of_mem _ hp)) h
   ·cases h
    have := hn (a, k) (List.mem_cons_self ..)
    simp only at this; omega
theorem pushR_ok {st : Stk} (h : NonNeg st) (i : Nat) (f : Fd) : NonNeg (pushR i f (decS (popR st))) := by
 have hd : NonNeg (decS (popR st)) := by
  intro p hp
  cases hq : popR st with
  | nil => rw [hq] at hp; simp [decS] at hp
  | cons q t =>
    obtain ⟨a, k⟩ := q
    rw [hq] at hp
    have hk := popR_head h hq
    simp only [decS, List.mem_cons] at hp
    rcases hp with rfl | hp
    ·simp only; omega
    ·exact h p (popR_mem (by rw [hq]; exact List.mem_cons_of_mem _ hp))
 unfold pushR
 split
 ·rename_i hc
  intro p hp
  rcases List.mem_cons.1 hp with rfl | hp
  ·simp only; omega
  ·exact hd p hp
 ·exact hd
theorem rrun_wrun : ∀ (fs : List Fd) (i : Nat) (st rt : Stk), NonNeg rt → popR rt = popZ st → rrun fs i rt = wrun fs i st
 | [], _, _, _, _, _ => rfl
 | f :: fs, i, st, rt, hn, he => by
   rw [rrun, wrun, he]
   congr 1
   refine rrun_wrun fs (i + 1) _ _ ?_ ?_
   ·rw [← he]; exact pushR_ok hn i f
   ·rw [popR_popZ (by rw [← he]; exact pushR_ok hn i f)]
    unfold pushR pushS
    by_cases h0 : f.kind = 0
    ·by_cases h1 : 0 < f.kids
     ·rw [if_pos ⟨h0, h1⟩, if_pos h0]
     ·rw [if_neg (fun h => h1 h.2), if_pos h0]
      show _ = popZ (((i : Int), f.kids) :: decS (popZ st))
      rw [popZ, if_pos (by omega)]
    ·rw [if_neg (fun h => h0 h.1), if_neg h0]
def depthsF (fs : List Fd) : List Int := (wrun fs 0 []).map (·.2)
theorem rrun_eq (fs : List Fd) : rrun fs 0 [] = wrun fs 0 [] := rrun_wrun fs 0 [] [] (fun p hp => by cases hp) rfl
end Go.Proofs.Ytajieadpaeggcaa

end
section
set_option linter.unusedVariables false
set_option linter.unusedSimpArgs false
namespace Go.Proofs.Ytajieadpaeggcaa
open Go Go.Av
def letterF (c : UInt8) : Bool := decide (97 ≤ c.toNat) && decide (c.toNat ≤ 122)
def signF (c : UInt8) : Bool := letterF c || (decide (48 ≤ c.toNat) && decide (c.toNat ≤ 57)) || decide (c.toNat = 95)
def nameF (s : List UInt8) : Bool := decide (1 ≤ s.length) && decide (s.length ≤ 12) && letterF (s.headD 0) && s.all signF
/-- What is wrong with one field. -/
def chk1 (f : Fd) (i : Nat) (par dep : Int) (nm tw : Bool) : Int :=
 if 0 < i ∧ par < 0 then 1 else if 8 < dep then 11 else if nm = false ∨ tw = true then 7
 else if f.rep < 0 ∨ 2 < f.rep ∨ f.kind < 0 ∨ 4 < f.kind then 3 else if i = 0 ∧ (f.rep ≠ 0 ∨ f.kind ≠ 0) then 3
 else if (f.kind = 0 ∧ f.kids < 1) ∨ (f.kind ≠ 0 ∧ f.kids ≠ 0) then 1 else 0
def chkAt (fs : List Fd) (ps : List Int) (i : Nat) (dep : Int) : Int :=
 chk1 (fs.getD i default) i (ps.getD i 0) dep (nameF (fs.getD i default).name) (twinF fs ps i)
def chkFrom (fs : List Fd) : Nat → Nat → Int
 | _, 0 => 0
 | i, n + 1 => if chkAt fs (parentsF fs) i ((depthsF fs).getD i 0) ≠ 0 then chkAt fs (parentsF fs) i ((depthsF fs).getD i 0) else chkFrom fs (i + 1) n
/-- The groups that are open at the end. -/
def wfin : List Fd → Nat → Stk → Stk
 | [], _, st => st
 | f :: fs, i, st => wfin fs (i + 1) (pushS i f (decS (popZ st)))
def openS (st : Stk) : Bool := st.any fun p => decide (0 < p.2)
def checkF (fs : List Fd) : Int :=
 if fs.length < 1 ∨ 40 < fs.length then 4 else if chkFrom fs 0 fs.length ≠ 0 then chkFrom fs 0 fs.length else if openS (wfin fs 0 []) = true then 1 else 0
theorem chkFrom_step {fs : List Fd} {i : Nat} (h : i < fs.length) : chkFrom fs i (fs.length - i) = if chkAt fs (parentsF fs) i ((depthsF fs).getD i 0) ≠ 0 then chkAt fs (parentsF fs) i ((depthsF fs).getD i 0) else chkFrom fs (i + 1) (fs.length - (i + 1)) := by
 rw [show fs.length - i = (fs.length - (i + 1)) + 1 by omega, chkFrom]
end Go.Proofs.Ytajieadpaeggcaa

end
