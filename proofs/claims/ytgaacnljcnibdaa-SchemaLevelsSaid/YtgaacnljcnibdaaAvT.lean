/-
  A region that draws its order: whatever order is drawn, the end is the same. Over every program.
-/
import Derived.Test.YtgaacnljcnibdaaAvS
set_option linter.unusedVariables false
set_option linter.unusedSimpArgs false
noncomputable section
namespace Go.Av
open Classical in
/-- Some of the numbers alone. -/
noncomputable def cutI (ι : Inj) (p : Nat → Prop) : Inj := ⟨fun n => if p n then ι n else none, ι.fz⟩
theorem cutI_some {ι : Inj} {p : Nat → Prop} {n : Nat} {L : Loc} : cutI ι p n = some L ↔ p n ∧ ι n = some L := by
  unfold cutI
  by_cases h : p n <;> simp [h]
theorem cutI_le [Syms] {ι κ : Inj} {p q : Nat → Prop} (h : ∀ n L, ι n = some L → p n → κ n = some L ∧ q n) (hz : ∀ g cs, ι.fz g = some cs → κ.fz g = some cs) : (cutI ι p).le (cutI κ q) := by
  refine ⟨fun n L hn => ?_, hz⟩
  rw [cutI_some] at hn ⊢
  exact (h n L hn.2 hn.1).symm
theorem cutI_le_self [Syms] (ι : Inj) (p : Nat → Prop) : (cutI ι p).le ι := ⟨fun n L h => (cutI_some.1 h).2, fun _ _ h => h⟩

def addNews (H : Heap) (l : List (Nat × Blk)) : Heap := l.foldl (fun H p => H.set p.1 (some p.2)) H
theorem addNews_get [Syms] : ∀ (l : List (Nat × Blk)) (H : Heap) (n : Nat) (b : Blk), (addNews H l).get n = some b → H.get n = some b ∨ (n, b) ∈ l
  | [], H, n, b, h => .inl h
  | (k, c) :: l, H, n, b, h => by
    rcases addNews_get l (H.set k (some c)) n b h with h1 | h1
    · rw [Heap.get_set] at h1
      by_cases e : n = k
      · subst e; rw [if_pos rfl] at h1; cases h1; exact .inr (List.mem_cons_self ..)
      · rw [if_neg e] at h1; exact .inl h1
    · exact .inr (List.mem_cons_of_mem _ h1)

/-- What the first operations have made, as far as p lets. -/
def visH (H0 : Heap) (nw : Nat → List (Nat × Blk)) (p : Nat → Bool) : Nat → Heap
  | 0 => H0
  | i + 1 => if p i then addNews (visH H0 nw p i) (nw i) else visH H0 nw p i
theorem visH_get [Syms] {H0 : Heap} {nw : Nat → List (Nat × Blk)} {p : Nat → Bool} : ∀ (i : Nat) (n : Nat) (b : Blk), (visH H0 nw p i).get n = some b → H0.get n = some b ∨ ∃ k, k < i ∧ p k = true ∧ (n, b) ∈ nw k
  | 0, n, b, h => .inl h
  | i + 1, n, b, h => by
    simp only [visH] at h
    split at h
    · rename_i hp
      rcases addNews_get _ _ _ _ h with h1 | h1
      · rcases visH_get i n b h1 with h2 | ⟨k, h2, h3, h4⟩
        · exact .inl h2
        · exact .inr ⟨k, by omega, h3, h4⟩
      · exact .inr ⟨i, by omega, hp, h1⟩
    · rcases visH_get i n b h with h2 | ⟨k, h2, h3, h4⟩
      · exact .inl h2
      · exact .inr ⟨k, by omega, h3, h4⟩

def envAt (env0 : Env) (dst : Nat → Option Tmp) (v : Nat → AVal) : Nat → Env
  | 0 => env0
  | i + 1 => (envAt env0 dst v i).put (dst i) (v i)
theorem envAt_miss [Syms] {env0 : Env} {dst : Nat → Option Tmp} {v : Nat → AVal} : ∀ {i t : Nat}, (∀ k, k < i → dst k ≠ some t) → (envAt env0 dst v i).get t = env0.get t
  | 0, t, _ => rfl
  | i + 1, t, h => by
    have ih := envAt_miss (env0 := env0) (v := v) (i := i) (t := t) (fun k hk => h k (by omega))
    simp only [envAt]
    cases hd : dst i with
    | none => exact ih
    | some d =>
      have hne : t ≠ d := fun e => h i (by omega) (by rw [hd, e])
      simp only [Env.put, Env.get_nil, Env.get_cons, beq_ff hne, cond_false]
      exact ih
theorem envAt_hit [Syms] {env0 : Env} {dst : Nat → Option Tmp} {v : Nat → AVal} (hd : ∀ k l t, k < l → dst k = some t → dst l ≠ some t) : ∀ {i k t : Nat}, k < i → dst k = some t → (envAt env0 dst v i).get t = v k
  | i + 1, k, t, hk, h => by
    simp only [envAt]
    by_cases e : k = i
    · subst e
      rw [h]
      simp only [Env.put, Env.get_nil, Env.get_cons, Nat.beq_refl, cond_true]
    · have ih := envAt_hit (env0 := env0) (v := v) hd (i := i) (k := k) (by omega) h
      cases hd' : dst i with
      | none => exact ih
      | some d =>
        have hne : t ≠ d := fun e' => hd k i t (by omega) h (by rw [hd', e'])
        simp only [Env.put, Env.get_nil, Env.get_cons, beq_ff hne, cond_false]
        exact ih

/-- The numbers of operation k. -/
def ownN (nx0 k id : Nat) : Prop := nx0 + k * RR ≤ id ∧ id < nx0 + (k + 1) * RR
theorem ownN_inj {nx0 k l id : Nat} (h : ownN nx0 k id) (h' : ownN nx0 l id) : k = l := by
  unfold ownN RR at *
  omega

/-- What is known of a drawing region ahead of its run. -/
structure Plan (ops : Array Oper) (n : Nat) (M : Nat → Nat → Bool) (Mv : Nat → Bool) : Prop where
  le : n ≤ ops.size
  sel : ∀ (j : Nat) (o : Oper) cs b, ops[j]? = some o → o.op ≠ .select cs b
  edge : ∀ i o, ops[i]? = some o → ∀ e ∈ o.after, Region.binds .any e = true → e.on < i ∧ M i e.on = true
  tr : ∀ i k l, M i k = true → M k l = true → M i l = true
  lt : ∀ i k, M i k = true → k < i
  by_ : ∀ i k, M i k = true → Mv k = true ∨ ∃ o, ops[i]? = some o ∧ ∃ e ∈ o.after, Region.binds .any e = true ∧ (e.on = k ∨ M e.on k = true)
  uses : ∀ i k o p d, ops[i]? = some o → ops[k]? = some p → i < n → k ≠ i → p.dst = some d → d ∈ o.looksAt ops → M i k = true ∨ M k i = true
  dsts : ∀ i k o p d, ops[i]? = some o → ops[k]? = some p → i < k → k < n → o.dst = some d → p.dst ≠ some d
  tail : ∀ t k, n ≤ t → t < ops.size → k < t → M t k = true

def dstAt (ops : Array Oper) (k : Nat) : Option Tmp := (ops[k]?).bind (·.dst)

section
variable {P : Program} {N : Nat} {ops : Array Oper} {n : Nat} {M : Nat → Nat → Bool} {s : St} {v : Nat → AVal} {nw : Nat → List (Nat × Blk)} {ι0 : Inj} {w0 : World}

/-- The numbers that operation i sees. -/
def seesN (nx0 : Nat) (M : Nat → Nat → Bool) (i id : Nat) : Prop := id < nx0 ∨ ∃ k, M i k = true ∧ ownN nx0 k id
def sees' (nx0 : Nat) (M : Nat → Nat → Bool) (i id : Nat) : Prop := seesN nx0 M i id ∨ ownN nx0 i id

structure DInv [Syms] (N : Nat) (ops : Array Oper) (n : Nat) (M : Nat → Nat → Bool) (s : St) (v : Nat → AVal) (nw : Nat → List (Nat × Blk)) (ι0 : Inj) (w0 : World) (D : Nat → Prop) (ι : Inj) (a : Act) (w : World) : Prop where
  defers : a.defers = []
  size : N ≤ a.tmps.size
  le : ι0.le ι
  ids : ∀ m L, ι m = some L → L.g < w.heap.size ∧ (ι0 m = some L ∨ ∃ k, k < n ∧ D k ∧ ownN s.nx k m)
  os : w.os = w0.os
  tape : w.tape = w0.tape
  output : w.output = w0.output
  hsize : w0.heap.size ≤ w.heap.size
  same : ∀ g, g < w0.heap.size → w.heap[g]? = w0.heap[g]?
  miss : ∀ t, (∀ k, k < n → D k → dstAt ops k ≠ some t) → RelV ι0 (s.env.get t) (a.tmps.getD t undef)
  hit : ∀ k t, k < n → D k → dstAt ops k = some t → RelV (cutI ι (sees' s.nx M k)) (v k) (a.tmps.getD t undef)
  made : ∀ k id b, k < n → D k → (id, b) ∈ nw k → ∃ L, ι id = some L ∧ w0.heap.size ≤ L.g ∧ RelB (cutI ι (sees' s.nx M k)) w L b
  apart : ∀ (k k' id id' : Nat) (b b' : Blk) (L L' : Loc), k < n → k' < n → D k → D k' → (id, b) ∈ nw k → (id', b') ∈ nw k' → ι id = some L → ι id' = some L' → L.g = L'.g → id = id'
  fz : ∀ g cs, ι.fz g = some cs → (ι0.fz g = some cs ∨ w0.heap.size ≤ g) ∧ (∃ e z, w.heap[g]? = some (.cells cs e z)) ∧ ∀ k id b L, k < n → D k → (id, b) ∈ nw k → ι id = some L → L.g ≠ g

theorem put_get_ne (a : Act) {dst : Option Tmp} {t : Nat} {u : Value} (h : dst ≠ some t) : (a.put dst u).tmps.getD t undef = a.tmps.getD t undef := by
  cases dst with
  | none => rfl
  | some d =>
    have : d ≠ t := fun e => h (by rw [e])
    simp [Act.put, Array.getElem?_setIfInBounds_ne this]
theorem put_get_eq (a : Act) {t : Nat} {u : Value} (h : t < a.tmps.size) : (a.put (some t) u).tmps.getD t undef = u := by
  simp [Act.put, h]

/-- One calm operation more. -/
theorem dinv_step [Syms] {Mv : Nat → Bool} (pl : Plan ops n M Mv) (hS : RelH ι0 s.heap w0 ∧ Bound ι0 s.nx w0) {D : Nat → Prop} {ι : Inj} {a : Act} {w : World} (hI : DInv N ops n M s v nw ι0 w0 D ι a w) {i : Nat} {o : Oper} (ho : ops[i]? = some o) (hi : i < n) (hiD : ¬ D i)
    (hpre : ∀ k, M i k = true → D k) (hpost : ∀ k, M k i = true → ¬ D k) (hdst : dstOk N o.dst = true)
    (hnw : ∀ k, k < n → ∀ id b, (id, b) ∈ nw k → ownN s.nx k id)
    (hc : CalmSem P N ops o ((envAt s.env (dstAt ops) v i).only (o.looksAt ops)) (visH s.heap nw (M i) i) (s.nx + i * RR) (v i) (nw i)) {K : Act → World → Prop} {Q : Exit → Act → World → Prop}
    (hK : ∀ κ a' w', DInv N ops n M s v nw ι0 w0 (fun k => D k ∨ k = i) κ a' w' → K a' w') :
    if Region.wanted o (yielded ops a.tmps) then o.wp P a w K Q ∨ (o.asks P a w ∧ LetsOut Q) else K (a.put o.dst undef) w := by
  have hd : dstAt ops i = o.dst := by simp [dstAt, ho]
  have hdd : ∀ k l t, k < l → l < n → dstAt ops k = some t → dstAt ops l ≠ some t := by
    intro k l t hkl hln hk
    have hlsz : l < ops.size := Nat.lt_of_lt_of_le hln pl.le
    have hk' : ops[k]? = some (ops[k]'(by omega)) := Array.getElem?_eq_getElem _
    have hl' : ops[l]? = some (ops[l]'hlsz) := Array.getElem?_eq_getElem _
    have e1 : dstAt ops k = (ops[k]'(by omega)).dst := by simp [dstAt, hk']
    have e2 : dstAt ops l = (ops[l]'hlsz).dst := by simp [dstAt, hl']
    rw [e1] at hk
    rw [e2]
    exact pl.dsts k l _ _ t hk' hl' hkl hln hk
  have low : ∀ m L, ι0 m = some L → m < s.nx := fun m L h => (hS.2 m L h).1
  have hle0 : ι0.le (cutI ι (seesN s.nx M i)) := ⟨fun m L h => cutI_some.2 ⟨.inl (low m L h), hI.le.1 m L h⟩, hI.le.2⟩
  have mono1 : ∀ k, M i k = true → (cutI ι (sees' s.nx M k)).le (cutI ι (seesN s.nx M i)) := by
    intro k hk
    refine cutI_le (fun m L hm hs => ⟨hm, ?_⟩) (fun _ _ h => h)
    rcases hs with (h1 | ⟨l, h2, h3⟩) | h1
    · exact .inl h1
    · exact .inr ⟨l, pl.tr i k l hk h2, h3⟩
    · exact .inr ⟨k, hk, h1⟩
  refine hc (cutI ι (seesN s.nx M i)) a w K Q hI.defers hI.size (fun t => ?_) ?_ ?_ (fun κ u w' hu hcalm => ?_)
  · -- the slots that it looks at
    rw [Env.only_get]
    split
    · rename_i hlook
      have hlook : t ∈ o.looksAt ops := by simpa using hlook
      by_cases hex : ∃ k, k < n ∧ D k ∧ dstAt ops k = some t
      · obtain ⟨k, hkn, hkD, hkd⟩ := hex
        have hki : k ≠ i := fun e => hiD (e ▸ hkD)
        have hksz : k < ops.size := Nat.lt_of_lt_of_le hkn pl.le
        have hk' : ops[k]? = some (ops[k]'hksz) := Array.getElem?_eq_getElem _
        have hkd' : (ops[k]'hksz).dst = some t := by simpa [dstAt, hk'] using hkd
        rcases pl.uses i k o _ t ho hk' hi hki hkd' hlook with h | h
        · have hlt := pl.lt i k h
          have hval : (envAt s.env (dstAt ops) v i).get t = v k := by
            have := envAt_hit (env0 := s.env) (dst := fun q => if q < n then dstAt ops q else none) (v := v) (i := i) (k := k) (t := t) (fun k l t hkl hk => by
              by_cases hl : l < n
              · have hk2 : k < n := by omega
                simp only [hk2, if_true] at hk
                simp only [hl, if_true]
                exact hdd k l t hkl hl hk
              · simp [hl]) hlt (by simp [hkn, hkd])
            rw [← this]
            have heq : ∀ j, j ≤ n → envAt s.env (dstAt ops) v j = envAt s.env (fun q => if q < n then dstAt ops q else none) v j := by
              intro j
              induction j with
              | zero => intro _; rfl
              | succ j ih => intro hj; simp only [envAt]; rw [ih (by omega)]; rw [if_pos (by omega)]
            rw [heq i (by omega)]
          rw [hval]
          exact (hI.hit k t hkn hkD hkd).mono (mono1 k h)
        · exact absurd hkD (hpost k h)
      · have hnone : ∀ k, k < n → D k → dstAt ops k ≠ some t := fun k h1 h2 h3 => hex ⟨k, h1, h2, h3⟩
        have hval : (envAt s.env (dstAt ops) v i).get t = s.env.get t := by
          refine envAt_miss fun k hk hkd => ?_
          have hksz : k < ops.size := by have := pl.le; omega
          have hk' : ops[k]? = some (ops[k]'hksz) := Array.getElem?_eq_getElem _
          have hkd' : (ops[k]'hksz).dst = some t := by simpa [dstAt, hk'] using hkd
          rcases pl.uses i k o _ t ho hk' hi (by omega) hkd' hlook with h | h
          · exact hnone k (by omega) (hpre k h) hkd
          · have := pl.lt k i h; omega
        rw [hval]
        exact (hI.miss t hnone).mono hle0
    · exact .any _
  · -- the heap that it sees
    refine ⟨fun m b hb => ?_, fun m m' b b' L L' h1 h2 _ _ _ => .inr ?_, fun g cs hg => ⟨(hI.fz g cs hg).2.1, not_own_ro⟩⟩
    · obtain ⟨rows, ro, hb1, rfl⟩ := roAll_some hb
      have weak : ∀ {L}, RelB (cutI ι (seesN s.nx M i)) w L (.cells rows ro) → RelB (cutI ι (seesN s.nx M i)) w L (.cells rows true) := by
        intro L hB
        obtain ⟨cs, e, fz, h1, h2, h3, h4, h5⟩ := hB.rows
        exact RelB.mk h1 h2 h3 h4 (fun h => by cases h)
      rcases visH_get i m _ hb1 with h1 | ⟨k, h1, h2, h3⟩
      · obtain ⟨L, hL, hB⟩ := hS.1.blk m _ h1
        exact ⟨L, hle0.1 m L hL, weak (hB.keep hle0 (hI.same _ (hS.2 m L hL).2))⟩
      · have hkn : k < n := by omega
        obtain ⟨L, hL, _, hB⟩ := hI.made k m _ hkn (hpre k h2) h3
        have hsee : seesN s.nx M i m := .inr ⟨k, h2, hnw k hkn m _ h3⟩
        exact ⟨L, cutI_some.2 ⟨hsee, hL⟩, weak (hB.keep (mono1 k h2) rfl)⟩
    · obtain ⟨_, _, _, rfl⟩ := roAll_some h1
      obtain ⟨_, _, _, rfl⟩ := roAll_some h2
      exact ⟨rfl, rfl⟩
  · -- its numbers
    intro m L hm
    obtain ⟨hs, hm'⟩ := cutI_some.1 hm
    refine ⟨?_, (hI.ids m L hm').1⟩
    rcases hs with h | ⟨k, h1, h2⟩
    · omega
    · have := pl.lt i k h1
      unfold ownN at h2
      have : (k + 1) * RR ≤ i * RR := Nat.mul_le_mul_right _ (by omega)
      omega
  · -- behind it
    have nown : ∀ m L, ι m = some L → ¬ ownN s.nx i m := by
      intro m L hm hown
      rcases (hI.ids m L hm).2 with h | ⟨k, _, hkD, hk⟩
      · have := low m L h
        unfold ownN at hown
        omega
      · exact hiD (ownN_inj hk hown ▸ hkD)
    obtain ⟨ι', hι1, hι2, hι3⟩ : ∃ ι' : Inj, (∀ m, ownN s.nx i m → ι' m = κ m) ∧ (∀ m, ¬ ownN s.nx i m → ι' m = ι m) ∧ ι'.fz = κ.fz := by
      classical
      exact ⟨⟨fun m => if ownN s.nx i m then κ m else ι m, κ.fz⟩, fun m h => if_pos h, fun m h => if_neg h, rfl⟩
    have hle' : ι.le ι' := ⟨fun m L hm => by rw [hι2 m (nown m L hm)]; exact hm, fun g cs hg => by rw [hι3]; exact hcalm.le.2 g cs hg⟩
    have hκ : κ.le (cutI ι' (sees' s.nx M i)) := by
      refine ⟨fun m L hm => ?_, fun g cs hg => by show ι'.fz g = _; rw [hι3]; exact hg⟩
      rcases (hcalm.only m L hm).2 with h | ⟨h1, h2⟩
      · obtain ⟨h3, h4⟩ := cutI_some.1 h
        exact cutI_some.2 ⟨.inl h3, hle'.1 m L h4⟩
      · have hown : ownN s.nx i m := ⟨h1, by rw [Nat.add_mul]; omega⟩
        exact cutI_some.2 ⟨.inr hown, by rw [hι1 m hown]; exact hm⟩
    have monoD : ∀ k, (cutI ι (sees' s.nx M k)).le (cutI ι' (sees' s.nx M k)) := fun k => cutI_le (fun m L hm hs => ⟨hle'.1 m L hm, hs⟩) hle'.2
    have keep : ∀ k t, k < n → D k → dstAt ops k = some t → o.dst ≠ some t := by
      intro k t hkn hkD hkd hod
      have hki : k ≠ i := fun e => hiD (e ▸ hkD)
      rcases Nat.lt_or_gt_of_ne hki with h | h
      · exact hdd k i t h hi hkd (by rw [hd]; exact hod)
      · exact hdd i k t h hkn (by rw [hd]; exact hod) hkd
    refine hK ι' _ w' ⟨by rw [put_defers]; exact hI.defers, ?_, Inj.le_trans hI.le hle', fun m L hm => ?_, hcalm.os.trans hI.os, hcalm.tape.trans hI.tape, hcalm.output.trans hI.output, Nat.le_trans hI.hsize hcalm.size,
      fun g hg => (hcalm.same g (Nat.lt_of_lt_of_le hg hI.hsize)).trans (hI.same g hg), fun t hno => ?_, fun k t hkn hk hkd => ?_, fun k id b hkn hk hin => ?_, fun k k' id id' b b' L L' hkn hkn' hk hk' hin hin' hL hL' hg => ?_, fun g cs hg => ?_⟩
    · have := hI.size
      cases o.dst <;> simpa [Act.put] using this
    · by_cases hown : ownN s.nx i m
      · rw [hι1 m hown] at hm
        exact ⟨(hcalm.only m L hm).1, .inr ⟨i, hi, .inr rfl, hown⟩⟩
      · rw [hι2 m hown] at hm
        obtain ⟨h1, h2⟩ := hI.ids m L hm
        refine ⟨Nat.lt_of_lt_of_le h1 hcalm.size, ?_⟩
        rcases h2 with h2 | ⟨k, h3, h4, h5⟩
        · exact .inl h2
        · exact .inr ⟨k, h3, .inl h4, h5⟩
    · have h1 : o.dst ≠ some t := by rw [← hd]; exact hno i hi (.inr rfl)
      rw [put_get_ne a h1]
      exact hI.miss t (fun k hkn hkD => hno k hkn (.inl hkD))
    · rcases hk with hk | rfl
      · rw [put_get_ne a (keep k t hkn hk hkd)]
        exact (hI.hit k t hkn hk hkd).mono (monoD k)
      · rw [hd] at hkd
        rw [hkd] at hdst ⊢
        have hlt : t < N := by simpa [dstOk, Nat.blt_eq] using hdst
        rw [put_get_eq a (Nat.lt_of_lt_of_le hlt hI.size)]
        exact hu.mono hκ
    · rcases hk with hk | rfl
      · obtain ⟨L, hL, h1, h2⟩ := hI.made k id b hkn hk hin
        exact ⟨L, hle'.1 id L hL, h1, h2.keep (monoD k) (hcalm.same _ (hI.ids id L hL).1)⟩
      · obtain ⟨L, hL, h1, h2⟩ := hcalm.made id b hin
        exact ⟨L, by rw [hι1 id (hnw k hi id b hin)]; exact hL, Nat.le_trans hI.hsize h1, h2.keep hκ rfl⟩
    · have old : ∀ k id b L, k < n → D k → (id, b) ∈ nw k → ι' id = some L → ι id = some L := by
        intro k id b L hkn hkD hin hL
        rw [hι2 id (fun hown => hiD (ownN_inj (hnw k hkn id b hin) hown ▸ hkD))] at hL
        exact hL
      have new : ∀ id b L, (id, b) ∈ nw i → ι' id = some L → κ id = some L := by
        intro id b L hin hL
        rw [hι1 id (hnw i hi id b hin)] at hL
        exact hL
      rcases hk with hk | rfl
      · have e1 := old k id b L hkn hk hin hL
        rcases hk' with hk' | rfl
        · exact hI.apart k k' id id' b b' L L' hkn hkn' hk hk' hin hin' e1 (old k' id' b' L' hkn' hk' hin' hL') hg
        · have e2 := new id' b' L' hin' hL'
          obtain ⟨X, hX, h1, _⟩ := hcalm.made id' b' hin'
          rw [e2] at hX
          cases hX
          have := (hI.ids id L e1).1
          omega
      · have e1 := new id b L hin hL
        rcases hk' with hk' | rfl
        · have e2 := old k' id' b' L' hkn' hk' hin' hL'
          obtain ⟨X, hX, h1, _⟩ := hcalm.made id b hin
          rw [e1] at hX
          cases hX
          have := (hI.ids id' L' e2).1
          omega
        · exact hcalm.apart id id' b b' L L' hin hin' e1 (new id' b' L' hin' hL') hg
    · rw [hι3] at hg
      obtain ⟨g1, g2, g3⟩ := hcalm.fzs g cs hg
      refine ⟨?_, g2, fun k id b L hkn hk hin hL => ?_⟩
      · rcases g1 with g1 | g1
        · exact (hI.fz g cs g1).1
        · exact .inr (Nat.le_trans hI.hsize g1)
      · rcases hk with hk | rfl
        · rw [hι2 id (fun hown => hiD (ownN_inj (hnw k hkn id b hin) hown ▸ hk))] at hL
          rcases g1 with g1 | g1
          · exact (hI.fz g cs g1).2.2 k id b L hkn hk hin hL
          · have := (hI.ids id L hL).1
            omega
        · rw [hι1 id (hnw k hkn id b hin)] at hL
          exact g3 id b L hin hL
end
end Go.Av
