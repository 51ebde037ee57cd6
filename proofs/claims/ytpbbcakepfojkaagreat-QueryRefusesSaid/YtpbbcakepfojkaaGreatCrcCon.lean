/-
  Calls that read bytes, wherever they lie, and answer a number: by a plain function of the bytes.
-/
import Derived.Test.YtpbbcakepfojkaaGreatCrcSx
import Derived.Test.YtpbbcakepfojkaaGreatSxOne
set_option linter.unusedVariables false
set_option linter.unusedSimpArgs false
noncomputable section
namespace Go.Proofs.YtpbbcakepfojkaaGreat
open Go Go.Av
theorem cut_arg [Syms] {ι : Inj} {H : Heap} {w : World} {n off len : Nat} {rows : List (List AVal)} {l : List UInt8} {ro : Bool} {c : Option Nat} {v : Value} (hn : H.get n = some (.cells rows ro)) (hol : off + len ≤ rows.length) (hr : (rows.drop off).take len = l.map enc8) (hH : RelH ι H w) (hv : RelV ι (.slice n off len 1 c) v) : RelV (fzAll w) (vT 1 enc8 0 l) v := by
  have hll : len = l.length := by
    have := congrArg List.length hr
    simp at this; omega
  obtain ⟨L, hL, hB⟩ := hH.blk n _ hn
  cases hv with
  | slice _ _ _ _ _ L' a k h hs ha hl hp hm hc =>
    rw [hL] at h
    cases h
    refine .vt _ _ _ _ ?_
    rw [tabR_map]
    rcases ha with h0 | h0
    · have hl0 : l = [] := List.eq_nil_of_length_eq_zero (by omega)
      subst hl0
      subst hll
      exact .vz 1 _ _ hm (fun h => nomatch h)
    · subst h0
      obtain ⟨cs, et, fz, c1, c2, c3, c4, c5⟩ := hB
      have hlen : (l.map enc8).length = l.length := List.length_map ..
      have hat : ∀ (k : Nat) (row : List AVal), (l.map enc8)[k]? = some row → rows[off + k]? = some row ∧ ∃ kd z, row = [.int kd z] := fun k row hr' => by
        refine ⟨?_, ?_⟩
        · rw [← hr, List.getElem?_take] at hr'
          split at hr'
          · rw [List.getElem?_drop] at hr'; exact hr'
          · cases hr'
        · obtain ⟨a, _, rfl⟩ := List.mem_map.1 (List.mem_of_getElem? hr')
          exact ⟨_, _, rfl⟩
      have key : RelV (fzAll w) (.vs 1 (l.map enc8)) (.slice (some ⟨L.g, L.base + off * L.size, none⟩) (l.map enc8).length k) := by
        refine .vs 1 (l.map enc8) L.g (L.base + off * L.size) k cs (fzAll_of c1) (by omega) hm (by rw [hs] at *; rw [hlen]; have := hp; omega) (fun j row hr => ?_) (fun k j v hk hj hv => ?_) (fun k j row x v hr hj hv => ?_)
        · obtain ⟨_, kd, z, rfl⟩ := hat j row hr
          rfl
        · have hj0 : j = 0 := by omega
          subst hj0
          have hr : (l.map enc8)[k]? = some ((l.map enc8)[k]) := List.getElem?_eq_getElem hk
          obtain ⟨hr', kd, z, hz⟩ := hat k _ hr
          rw [hz] at hr'
          obtain ⟨v', q1, q2, q3⟩ := (c4 _ _ hr').2 0 (.int kd z) rfl
          rw [hs] at q1 hv
          have : L.base + off * 1 + k * 1 + 0 = L.base + (off + k) * 1 + 0 := by omega
          rw [this, q1] at hv
          cases hv
          exact q2
        · obtain ⟨hr', kd, z, rfl⟩ := hat k row hr
          obtain ⟨v', q1, q2, q3⟩ := (c4 _ _ hr').2 j x hj
          rw [hs] at q1 hv
          have : L.base + off * 1 + k * 1 + j = L.base + (off + k) * 1 + j := by omega
          rw [this, q1] at hv
          cases hv
          have hx : x = .int kd z := by
            cases j with
            | zero => simp at hj; exact hj.symm
            | succ j => simp at hj
          subst hx
          cases q3
          exact .int _ _
      rw [hlen] at key
      rw [hll]
      exact key
/-- A call that only reads, and answers a value without addresses. -/
theorem val_call [Syms] {P : Program} {f : FuncId} {args args' : List AVal} {v : AVal} {H : Heap} {nx : Nat} (ha : ∀ (ι : Inj) (w : World) (vs : List Value), RelH ι H w → RelL ι args vs → RelL (fzAll w) args' vs) (hv : v.closed = true) (h : FnSem P f args' [] 0 fun v' H' _ => v' = v ∧ H' = []) : ACalls P f args H nx v H nx := by
  intro ι w vs hvs hH hb
  refine (h.2 (fzAll w) w vs (ha ι w vs hH hvs) (relH_all w) (bound_all w)).mono ?_
  rintro e w' ⟨v', H', nx', r, κ, ⟨rfl, rfl⟩, rfl, hr, hH', hst, hbd, _⟩
  have noOwn : ∀ g, ¬ Own (fzAll w) [] g := fun g ⟨n, b, L, h1, _⟩ => by rw [Heap.get_nil] at h1; cases h1
  have same : ∀ g, g < w.heap.size → w'.heap[g]? = w.heap[g]? := fun g hg => hst.same g hg (noOwn g)
  refine ⟨r, ι, rfl, hr.closed hv, ⟨fun n b hn => ?_, hH.inj, fun g cs hg => ⟨?_, (hH.fz g cs hg).2⟩⟩, ⟨⟨Inj.le_refl ι, hst.os, hst.tape, hst.output, hst.size, fun g hg _ => same g hg, fun g hg => .inl hg, fun g cs hg => .inl hg⟩, Nat.le_refl _, fun n L hn => .inl hn⟩, fun n L hn => ⟨(hb n L hn).1, Nat.lt_of_lt_of_le (hb n L hn).2 hst.size⟩⟩
  · obtain ⟨L, h1, h2⟩ := hH.blk n b hn
    exact ⟨L, h1, h2.keep (Inj.le_refl ι) (same _ (hb n L h1).2)⟩
  · obtain ⟨e, z, h⟩ := (hH.fz g cs hg).1
    exact ⟨e, z, by rw [same g (Array.getElem?_eq_some_iff.mp h).1]; exact h⟩
def crcCell : List AVal → Option Nat
  | [.int .u8 (.ofNat n)] => bif Nat.blt n 256 then some n else none
  | _ => none
theorem crcCell_ok {r : List AVal} {n : Nat} (h : crcCell r = some n) : r = enc8 (UInt8.ofNat n) ∧ (UInt8.ofNat n).toNat = n := by
  unfold crcCell at h
  split at h
  · rename_i m
    cases hb : Nat.blt m 256 with
    | false => rw [hb] at h; cases h
    | true =>
      rw [hb] at h
      cases h
      have hn : n < 256 := Nat.le_of_ble_eq_true hb
      have e : (UInt8.ofNat n).toNat = n := by simp [Nat.mod_eq_of_lt hn]
      refine ⟨?_, e⟩
      rw [enc8, e]; rfl
  · cases h
def crcRows : List (List AVal) → Nat → Option Nat
  | [], c => some c
  | r :: t, c => match crcCell r with
    | some n => bif Nat.blt (crcB c n) 4294967296 then crcRows t (crcB c n) else none
    | none => none
theorem crcRows_ok : ∀ (rows : List (List AVal)) (c d : Nat), crcRows rows c = some d → ∃ l : List UInt8, rows = l.map enc8 ∧ crcL c l = d
  | [], c, d, h => by cases h; exact ⟨[], rfl, rfl⟩
  | r :: t, c, d, h => by
    rw [crcRows] at h
    split at h
    · rename_i n hn
      obtain ⟨h1, h2⟩ := crcCell_ok hn
      cases hb : Nat.blt (crcB c n) 4294967296 with
      | false => rw [hb] at h; cases h
      | true =>
        rw [hb] at h
        obtain ⟨l, rfl, hl⟩ := crcRows_ok t _ d h
        refine ⟨UInt8.ofNat n :: l, by rw [h1]; rfl, ?_⟩
        show crcL (crcB c (UInt8.ofNat n).toNat) l = d
        rw [h2]; exact hl
    · cases h
/-- A sum of bytes that lie in a block. -/
def crcCon (f0 : FuncId) : CallF := fun f args H nx => bif Nat.beq f f0 then
    match args with
    | [.slice n off len sz _] => bif Nat.beq sz 1 then
        match H.get n with
        | some (.cells rows _) => bif Nat.ble (off + len) rows.length && Nat.ble rows.length 1000000 then
            match crcRows ((rows.drop off).take len) 4294967295 with
            | some d => some (.int .u32 (Int.ofNat (Nat.xor d 4294967295)), H, nx)
            | none => none
          else none
        | _ => none
      else none
    | _ => none
  else none
def crcAdd (f0 : FuncId) : CallF := fun f args H nx => bif Nat.beq f f0 then
    match args with
    | [.int .u32 (.ofNat c), .int .u8 (.ofNat x)] => bif Nat.blt c 4294967296 && Nat.blt x 256 then some (.int .u32 (Int.ofNat (crcB c x)), H, nx) else none
    | _ => none
  else none
theorem crcCon_ok [Syms] {P : Program} {f0 : FuncId} (hs : ∀ l : List UInt8, l.length ≤ 1000000 → FnSem P f0 [vT 1 enc8 0 l] [] 0 fun v' H' _ => v' = .int .u32 (Nat.xor (crcL 4294967295 l) 4294967295 : Nat) ∧ H' = []) : (crcCon f0).ok P := by
  intro f args H nx v H' nx' h
  unfold crcCon at h
  cases hb : Nat.beq f f0 with
  | false => rw [hb] at h; cases h
  | true =>
    rw [hb] at h
    obtain rfl := Nat.eq_of_beq_eq_true hb
    simp only [cond_true] at h
    split at h
    rotate_left
    · cases h
    rename_i n off len sz c
    cases hz : Nat.beq sz 1 with
    | false => rw [hz] at h; cases h
    | true =>
      rw [hz] at h
      obtain rfl := Nat.eq_of_beq_eq_true hz
      simp only [cond_true] at h
      split at h
      rotate_left
      · cases h
      rename_i rows ro hg
      cases hk : (Nat.ble (off + len) rows.length && Nat.ble rows.length 1000000) with
      | false => rw [hk] at h; cases h
      | true =>
        rw [hk] at h
        simp only [cond_true] at h
        split at h
        rotate_left
        · cases h
        rename_i d hd
        cases h
        obtain ⟨l, hl, rfl⟩ := crcRows_ok _ _ _ hd
        rw [Bool.and_eq_true] at hk
        have hll : l.length ≤ 1000000 := by
          have h1 := congrArg List.length hl
          have h2 := Nat.le_of_ble_eq_true hk.2
          simp at h1; omega
        refine ⟨(hs l hll).1, val_call (args' := [vT 1 enc8 0 l]) (fun ι w vs hH hv => ?_) rfl (hs l hll)⟩
        obtain ⟨v0, vs0, rfl, hv0, hv⟩ := hv.uncons
        obtain rfl := hv.unnil
        exact .cons (cut_arg hg (Nat.le_of_ble_eq_true hk.1) hl hH hv0) (.nil _)
theorem crcAdd_ok [Syms] {P : Program} {f0 : FuncId} (hs : ∀ c x : Nat, c < 2 ^ 32 → x < 256 → FnSem P f0 [.int .u32 c, .int .u8 x] [] 0 fun v' H' _ => v' = .int .u32 (crcB c x : Nat) ∧ H' = []) : (crcAdd f0).ok P := by
  intro f args H nx v H' nx' h
  unfold crcAdd at h
  cases hb : Nat.beq f f0 with
  | false => rw [hb] at h; cases h
  | true =>
    rw [hb] at h
    obtain rfl := Nat.eq_of_beq_eq_true hb
    simp only [cond_true] at h
    split at h
    rotate_left
    · cases h
    rename_i c x
    cases hk : (Nat.blt c 4294967296 && Nat.blt x 256) with
    | false => rw [hk] at h; cases h
    | true =>
      rw [hk] at h
      cases h
      rw [Bool.and_eq_true] at hk
      have h1 := hs c x (Nat.le_of_ble_eq_true hk.1) (Nat.le_of_ble_eq_true hk.2)
      refine ⟨h1.1, val_call (fun ι w vs hH hv => ?_) rfl h1⟩
      obtain ⟨v0, vs0, rfl, hv0, hv⟩ := hv.uncons
      obtain ⟨v1, vs1, rfl, hv1, hv⟩ := hv.uncons
      obtain rfl := hv.unnil
      obtain rfl := hv0.of_int
      obtain rfl := hv1.of_int
      exact .cons (.int _ _) (.cons (.int _ _) (.nil _))
theorem sum_con [Syms] : (crcCon 23).ok Tryz.prog := crcCon_ok fun l hl => fnT_sound tys_ok fns_ok noneT_det noneT_ok mixed (sum_t l (by omega))
theorem add_con [Syms] : (crcAdd 97).ok Tryz.prog := crcAdd_ok fun c x hc hx => fnT_sound tys_ok fns_ok noneT_det noneT_ok mixed (add_t c x hc hx)
end Go.Proofs.YtpbbcakepfojkaaGreat
