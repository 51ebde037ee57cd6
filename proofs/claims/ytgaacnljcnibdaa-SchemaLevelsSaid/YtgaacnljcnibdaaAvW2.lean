/-
  A region that draws its order, with stores among what reads: stores wait for each other, but not for all that reads. Over every program.
-/
import Derived.Test.YtgaacnljcnibdaaAvW
set_option linter.unusedVariables false
set_option linter.unusedSimpArgs false
noncomputable section
namespace Go.Av

abbrev nomv : Nat → Bool := fun _ => false

/-- Some slots alone. -/
def Env.cut (p : Nat → Prop) (e : Env) : Env := by
  classical
  exact e.map fun q => (q.1, if p q.1 then q.2 else .any)
theorem Env.cut_get (p : Nat → Prop) : ∀ (e : Env) (t : Nat), (p t → (e.cut p).get t = e.get t) ∧ (¬ p t → (e.cut p).get t = .any)
  | [], t => ⟨fun _ => rfl, fun _ => rfl⟩
  | (k, v) :: e, t => by
    have ih := Env.cut_get p e t
    have hc : Env.cut p ((k, v) :: e) = (k, (Env.cut p [(k, v)]).get k) :: Env.cut p e := by
      simp [Env.cut, Env.get_cons]
    rw [hc]
    simp only [Env.get_cons]
    by_cases ht : t = k
    · subst ht
      simp only [Nat.beq_refl, cond_true]
      refine ⟨fun h => ?_, fun h => ?_⟩
      · simp [Env.cut, Env.get_cons, h]
      · simp [Env.cut, Env.get_cons, h]
    · rw [beq_ff ht]
      exact ih

/-- A value operation: what was known stays. -/
def LooseSem [Syms] (P : Program) (N : Nat) (ops : Array Oper) (o : Oper) (env : Env) (H : Heap) (v : AVal) : Prop :=
  ∀ (ι : Inj) (m : Nat) (a : Act) (w : World) (K : Act → World → Prop) (Q : Exit → Act → World → Prop), (∀ t, RelV ι (env.get t) (a.tmps.getD t undef)) → RelH ι (roAll H) w → Bound ι m w →
    (∀ u w', RelV ι v u → StepN ι (roAll H) m w ι (roAll H) m w' → K (a.put o.dst u) w') →
    if Region.wanted o (yielded ops a.tmps) then o.wp P a w K Q ∨ (o.asks P a w ∧ LetsOut Q) else K (a.put o.dst undef) w

theorem loose_skip [Syms] {P : Program} {N : Nat} {ops : Array Oper} {o : Oper} {env : Env} {H : Heap} (hw : wantedA ops env o = some false) : LooseSem P N ops o env H undefA := by
  intro ι m a w K Q he hH hb hK
  rw [wantedA_sound he hw]
  simp only [Bool.false_eq_true, if_false]
  exact hK undef w (RelV.undef ι) (StepN.refl ..)

theorem loose_aop [Syms] {P : Program} {tt : TT} (htt : TT.ok P tt) {N : Nat} {ops : Array Oper} {o : Oper} {env : Env} {H : Heap} {v : AVal} (hw : wantedA ops env o = some true)
    (h : ∀ m, aop tt (evE env) (roAll H) m o.op = some (.val v)) : LooseSem P N ops o env H v := by
  intro ι m a w K Q he hH hb hK
  rw [wantedA_sound he hw]
  simp only [if_true]
  left
  obtain ⟨u, w', κ, hrun, hv, hH', hst, hk, hval⟩ := aop_sound (P := P) htt hH hb.lies (hb.fresh (Nat.le_refl _)) (evE_rel he) (h m)
  obtain rfl := hval rfl
  have fin : K (a.put o.dst u) w' := hK u w' hv ⟨hst, Nat.le_refl _, fun n L hn => .inl hn⟩
  unfold Oper.wp
  rcases hrun with hrun | ⟨hrun, rfl⟩
  · rw [hrun]; exact fin
  · rw [hrun]; exact fin

section
variable {P : Program} {N : Nat} {ops : Array Oper} {M : Nat → Nat → Bool} {s : St} {v : Nat → AVal} {nw : Nat → List (Nat × Blk)} {ι0 : Inj} {w0 : World}

structure Drawn2 [Syms] (P : Program) (N : Nat) (ops : Array Oper) (M : Nat → Nat → Bool) (s : St) (v : Nat → AVal) (nw : Nat → List (Nat × Blk)) (tl early : Nat → Bool) (T : Nat → Heap) : Prop where
  plan : Plan ops ops.size M nomv
  tlDst : ∀ t o, ops[t]? = some o → tl t = true → o.dst = none
  tailOrd : ∀ t u, tl t = true → tl u = true → t < u → u < ops.size → M u t = true
  earlyM : ∀ k t, k < ops.size → tl k = false → early k = true → tl t = true → t < ops.size → M t k = true
  uses2 : ∀ i k o p d, tl i = true ∨ early i = false → ops[i]? = some o → ops[k]? = some p → p.dst = some d → d ∈ o.looksAt ops → M i k = true
  dst : ∀ i o, ops[i]? = some o → tl i = false → dstOk N o.dst = true
  news : ∀ k id b, (id, b) ∈ nw k → ownN s.nx k id
  newsLoose : ∀ k, tl k = true ∨ early k = false → nw k = []
  calm : ∀ i o, ops[i]? = some o → tl i = false → CalmSem P N ops o ((envAt s.env (dstAt ops) v i).only (o.looksAt ops)) (visH s.heap nw (M i) i) (s.nx + i * RR) (v i) (nw i)
  T0 : T 0 = visH s.heap nw (fun _ => true) ops.size
  Tcalm : ∀ i, tl i = false → T (i + 1) = T i
  tail : ∀ t o, ops[t]? = some o → tl t = true → ∀ env' : Env, (∀ x ∈ o.looksAt ops, env'.get x = (envAt s.env (dstAt ops) v ops.size).get x) → OpSem P N ops o ⟨env', T t, s.nx + ops.size * RR + t⟩ ⟨env', T (t + 1), s.nx + ops.size * RR + (t + 1)⟩
  loose : ∀ i o, ops[i]? = some o → tl i = false → early i = false → ∀ j, j ≤ ops.size → ∀ env' : Env, (∀ x ∈ o.looksAt ops, env'.get x = (envAt s.env (dstAt ops) v ops.size).get x) → LooseSem P N ops o env' (T j) (v i)

/-- The slots that are settled. -/
def settled (ops : Array Oper) (D : Nat → Prop) (t : Nat) : Prop := ∀ k, k < ops.size → dstAt ops k = some t → D k

theorem at_get [Syms] (pl : Plan ops ops.size M nomv) {i k t : Nat} (hi : i ≤ ops.size) (hk : k < i) (hd : dstAt ops k = some t) : (envAt s.env (dstAt ops) v i).get t = v k := by
  have := envAt_hit (env0 := s.env) (dst := fun q => if q < ops.size then dstAt ops q else none) (v := v) (i := i) (k := k) (t := t) (fun k l t hkl hk => by
    by_cases hl : l < ops.size
    · have hk2 : k < ops.size := by omega
      simp only [hk2, if_true] at hk
      simp only [hl, if_true]
      exact dsts_ne pl k l t hkl hl hk
    · simp [hl]) hk (by simp [show k < ops.size by omega, hd])
  rw [← this]
  have heq : ∀ j, j ≤ ops.size → envAt s.env (dstAt ops) v j = envAt s.env (fun q => if q < ops.size then dstAt ops q else none) v j := by
    intro j
    induction j with
    | zero => intro _; rfl
    | succ j ih => intro hj; simp only [envAt]; rw [ih (by omega)]; rw [if_pos (by omega)]
  rw [heq i hi]
theorem end_get [Syms] (pl : Plan ops ops.size M nomv) {k t : Nat} (hk : k < ops.size) (hd : dstAt ops k = some t) : (envAt s.env (dstAt ops) v ops.size).get t = v k := at_get pl (Nat.le_refl _) hk hd

theorem dinv_part [Syms] (pl : Plan ops ops.size M nomv) (hS : RelH ι0 s.heap w0 ∧ Bound ι0 s.nx w0) {D : Nat → Prop} {ι : Inj} {a : Act} {w : World} (hI : DInv N ops ops.size M s v nw ι0 w0 D ι a w) (hall : ∀ k, k < ops.size → D k ∨ nw k = []) :
    RelS N ι ⟨(envAt s.env (dstAt ops) v ops.size).cut (settled ops D), visH s.heap nw (fun _ => true) ops.size, s.nx + ops.size * RR⟩ a w ∧ StepN ι0 s.heap s.nx w0 ι (visH s.heap nw (fun _ => true) ops.size) (s.nx + ops.size * RR) w := by
  have hD : ∀ k id b, k < ops.size → (id, b) ∈ nw k → D k := fun k id b hk hin => by
    rcases hall k hk with h | h
    · exact h
    · rw [h] at hin; cases hin
  have hb : ∀ m L, ι m = some L → m < s.nx + ops.size * RR ∧ L.g < w.heap.size := by
    intro m L hm
    obtain ⟨h1, h2⟩ := hI.ids m L hm
    refine ⟨?_, h1⟩
    rcases h2 with h2 | ⟨k, hk, _, hown⟩
    · have := (hS.2 m L h2).1; omega
    · unfold ownN at hown
      have : (k + 1) * RR ≤ ops.size * RR := Nat.mul_le_mul_right _ (by omega)
      omega
  refine ⟨⟨hI.defers, hI.size, fun t => ?_, ⟨fun m b hm => ?_, fun m m' b b' L L' h1 h2 h3 h4 h5 => ?_, fun g cs hg => ⟨(hI.fz g cs hg).2.1, fun ho => ?_⟩⟩, hb⟩, ⟨⟨hI.le, hI.os, hI.tape, hI.output, hI.hsize, fun g hg _ => hI.same g hg, fun g hg => ?_, fun g cs hg => (hI.fz g cs hg).1.elim .inl (fun h => .inr (.inl h))⟩, by simp, fun m L hm => ?_⟩⟩
  · by_cases hset : settled ops D t
    · rw [(Env.cut_get (settled ops D) _ t).1 hset]
      by_cases hex : ∃ k, k < ops.size ∧ dstAt ops k = some t
      · obtain ⟨k, hk, hd⟩ := hex
        rw [end_get pl hk hd]
        exact (hI.hit k t hk (hset k hk hd) hd).mono (cutI_le_self _ _)
      · have hno : ∀ k, k < ops.size → dstAt ops k ≠ some t := fun k h1 h2 => hex ⟨k, h1, h2⟩
        rw [envAt_miss hno]
        exact (hI.miss t (fun k hk _ => hno k hk)).mono hI.le
    · rw [(Env.cut_get (settled ops D) _ t).2 hset]
      exact .any _
  · rcases visH_get ops.size m b hm with h1 | ⟨k, h1, _, h3⟩
    · obtain ⟨L, hL, hB⟩ := hS.1.blk m b h1
      exact ⟨L, hI.le.1 m L hL, hB.keep hI.le (hI.same _ (hS.2 m L hL).2)⟩
    · obtain ⟨L, hL, _, hB⟩ := hI.made k m b h1 (hD k m b h1 h3) h3
      exact ⟨L, hL, hB.keep (cutI_le_self _ _) rfl⟩
  · rcases visH_get ops.size m b h1 with g1 | ⟨k, g1, _, g3⟩
    · obtain ⟨X, hX, _⟩ := hS.1.blk m b g1
      obtain rfl : X = L := by have := hI.le.1 m X hX; rw [h3] at this; exact (Option.some.inj this).symm
      have hXg := (hS.2 m X hX).2
      rcases visH_get ops.size m' b' h2 with g1' | ⟨k', g1', _, g3'⟩
      · obtain ⟨X', hX', _⟩ := hS.1.blk m' b' g1'
        obtain rfl : X' = L' := by have := hI.le.1 m' X' hX'; rw [h4] at this; exact (Option.some.inj this).symm
        exact hS.1.inj m m' b b' X X' g1 g1' hX hX' h5
      · obtain ⟨Y, hY, hYg, _⟩ := hI.made k' m' b' g1' (hD k' m' b' g1' g3') g3'
        rw [h4] at hY
        cases hY
        omega
    · obtain ⟨Y, hY, hYg, _⟩ := hI.made k m b g1 (hD k m b g1 g3) g3
      rw [h3] at hY
      cases hY
      rcases visH_get ops.size m' b' h2 with g1' | ⟨k', g1', _, g3'⟩
      · obtain ⟨X', hX', _⟩ := hS.1.blk m' b' g1'
        obtain rfl : X' = L' := by have := hI.le.1 m' X' hX'; rw [h4] at this; exact (Option.some.inj this).symm
        have hXg := (hS.2 m' X' hX').2
        omega
      · exact .inl (hI.apart k k' m m' b b' L L' g1 g1' (hD k m b g1 g3) (hD k' m' b' g1' g3') g3 g3' h3 h4 h5)
  · obtain ⟨m, b, L, h1, h2, h3, h4⟩ := ho
    rcases visH_get ops.size m b h1 with g1 | ⟨k, g1, _, g3⟩
    · obtain ⟨X, hX, _⟩ := hS.1.blk m b g1
      obtain rfl : X = L := by have := hI.le.1 m X hX; rw [h3] at this; exact (Option.some.inj this).symm
      rcases (hI.fz g cs hg).1 with hz | hz
      · exact (hS.1.fz g cs hz).2 ⟨m, b, X, g1, h2, hX, h4⟩
      · have := (hS.2 m X hX).2
        omega
    · exact (hI.fz g cs hg).2.2 k m b L g1 (hD k m b g1 g3) g3 h3 h4
  · obtain ⟨m, b, L, h1, h2, h3, h4⟩ := hg
    rcases visH_get ops.size m b h1 with g1 | ⟨k, g1, _, g3⟩
    · obtain ⟨X, hX, _⟩ := hS.1.blk m b g1
      obtain rfl : X = L := by have := hI.le.1 m X hX; rw [h3] at this; exact (Option.some.inj this).symm
      exact .inl ⟨m, b, X, g1, h2, hX, h4⟩
    · obtain ⟨Y, hY, hYg, _⟩ := hI.made k m b g1 (hD k m b g1 g3) g3
      rw [h3] at hY
      cases hY
      exact .inr (by omega)
  · rcases (hI.ids m L hm).2 with h | ⟨k, _, _, hown⟩
    · exact .inl h
    · right
      unfold ownN at hown
      omega

theorem T_same [Syms] {tl early : Nat → Bool} {T : Nat → Heap} (hd : Drawn2 P N ops M s v nw tl early T) : ∀ {i j : Nat}, i ≤ j → (∀ k, i ≤ k → k < j → tl k = false) → T j = T i
  | i, 0, h, _ => by rw [Nat.le_zero.1 h]
  | i, j + 1, h, hk => by
    rcases Nat.lt_or_ge j i with h' | h'
    · rw [show i = j + 1 by omega]
    · rw [hd.Tcalm j (hk j h' (by omega)), T_same hd h' (fun k h1 h2 => hk k h1 (by omega))]

theorem RelH.ro' [Syms] {ι : Inj} {H : Heap} {w : World} (h : RelH ι H w) : RelH ι (roAll H) w := by
  refine ⟨fun m b hb => ?_, fun m m' b b' L L' h1 h2 _ _ _ => .inr ?_, fun g cs hg => ⟨(h.fz g cs hg).1, not_own_ro⟩⟩
  · obtain ⟨rows, ro, hb1, rfl⟩ := roAll_some hb
    obtain ⟨L, hL, hB⟩ := h.blk m _ hb1
    obtain ⟨cs, e, fz, h1, h2, h3, h4, h5⟩ := hB.rows
    exact ⟨L, hL, RelB.mk h1 h2 h3 h4 (fun h => by cases h)⟩
  · obtain ⟨_, _, _, rfl⟩ := roAll_some h1
    obtain ⟨_, _, _, rfl⟩ := roAll_some h2
    exact ⟨rfl, rfl⟩

/-- A step that only reads, seen from any heap. -/
theorem StepN.of_ro [Syms] {ι : Inj} {G : Heap} (H : Heap) {m : Nat} {w w' : World} (h : StepN ι (roAll G) m w ι (roAll G) m w') : StepN ι H m w ι H m w' ∧ ∀ g, g < w.heap.size → w'.heap[g]? = w.heap[g]? :=
  have same : ∀ g, g < w.heap.size → w'.heap[g]? = w.heap[g]? := fun g hg => h.st.same g hg not_own_ro
  ⟨⟨⟨Inj.le_refl ι, h.st.os, h.st.tape, h.st.output, h.st.size, fun g hg _ => same g hg, fun g hg => .inl hg, fun _ _ h => .inl h⟩, Nat.le_refl _, fun n L hn => .inl hn⟩, same⟩

theorem RelS.bump [Syms] {ι : Inj} {e : Env} {H : Heap} {n m : Nat} {a : Act} {w : World} (h : RelS N ι ⟨e, H, n⟩ a w) (hn : n ≤ m) : RelS N ι ⟨e, H, m⟩ a w :=
  ⟨h.defers, h.size, h.env, h.heap, fun k L hk => ⟨Nat.lt_of_lt_of_le (h.bound k L hk).1 hn, (h.bound k L hk).2⟩⟩
theorem StepN.bump [Syms] {ι κ : Inj} {H H' : Heap} {nx n m : Nat} {w w' : World} (h : StepN ι H nx w κ H' n w') (hn : n ≤ m) : StepN ι H nx w κ H' m w' := ⟨h.st, Nat.le_trans h.up hn, h.fresh⟩

theorem draw_any2 [Syms] {tl early : Nat → Bool} {T : Nat → Heap} {Q : Exit → Act → World → Prop} (hd : Drawn2 P N ops M s v nw tl early T) (hS : RelH ι0 s.heap w0 ∧ Bound ι0 s.nx w0)
    (hQ : ∀ κ a' w', RelS N κ ⟨envAt s.env (dstAt ops) v ops.size, T ops.size, s.nx + ops.size * RR + ops.size⟩ a' w' → StepN ι0 s.heap s.nx w0 κ (T ops.size) (s.nx + ops.size * RR + ops.size) w' → Q .normal a' w') : ∀ (fuel : Nat) (listed : Array Bool) (a : Act) (w : World) (ι : Inj), Cl ops listed → left listed ≤ fuel →
    (((∀ k, k < ops.size → tl k = true → ¬ Lst listed k) ∧ (∀ k, Lst listed k → k < ops.size) ∧ DInv N ops ops.size M s v nw ι0 w0 (Lst listed) ι a w) ∨
      ∃ j, j ≤ ops.size ∧ (∀ k, k < ops.size → tl k = true → (Lst listed k ↔ k < j)) ∧ (∀ k, k < ops.size → tl k = false → early k = true → Lst listed k) ∧
        RelS N ι ⟨(envAt s.env (dstAt ops) v ops.size).cut (settled ops (Lst listed)), T j, s.nx + ops.size * RR + j⟩ a w ∧ StepN ι0 s.heap s.nx w0 ι (T j) (s.nx + ops.size * RR + j) w) →
    wpAny P .any ops Q fuel listed a w := by
  have pl := hd.plan
  -- from the first phase to the second
  have turn : ∀ (listed : Array Bool) (a : Act) (w : World) (ι : Inj) (j : Nat), j ≤ ops.size → (∀ k, k < ops.size → tl k = true → ¬ Lst listed k) → (∀ k, k < j → tl k = false) → (∀ k, k < ops.size → tl k = false → early k = true → Lst listed k) →
      DInv N ops ops.size M s v nw ι0 w0 (Lst listed) ι a w →
      RelS N ι ⟨(envAt s.env (dstAt ops) v ops.size).cut (settled ops (Lst listed)), T j, s.nx + ops.size * RR + j⟩ a w ∧ StepN ι0 s.heap s.nx w0 ι (T j) (s.nx + ops.size * RR + j) w := by
    intro listed a w ι j hj hno hlow hearly hI
    rw [T_same hd (Nat.zero_le j) (fun k _ h => hlow k h), hd.T0]
    have hh := dinv_part pl hS hI (fun k hk => by
      cases ht : tl k with
      | true => exact .inr (hd.newsLoose k (.inl ht))
      | false =>
        cases he : early k with
        | true => exact .inl (hearly k hk ht he)
        | false => exact .inr (hd.newsLoose k (.inr he)))
    exact ⟨hh.1.bump (Nat.le_add_right _ j), hh.2.bump (Nat.le_add_right _ j)⟩
  have fin : ∀ (listed : Array Bool) (a : Act) (w : World) (ι : Inj), (∀ k, k < ops.size → Lst listed k) →
      (((∀ k, k < ops.size → tl k = true → ¬ Lst listed k) ∧ (∀ k, Lst listed k → k < ops.size) ∧ DInv N ops ops.size M s v nw ι0 w0 (Lst listed) ι a w) ∨
      ∃ j, j ≤ ops.size ∧ (∀ k, k < ops.size → tl k = true → (Lst listed k ↔ k < j)) ∧ (∀ k, k < ops.size → tl k = false → early k = true → Lst listed k) ∧
        RelS N ι ⟨(envAt s.env (dstAt ops) v ops.size).cut (settled ops (Lst listed)), T j, s.nx + ops.size * RR + j⟩ a w ∧ StepN ι0 s.heap s.nx w0 ι (T j) (s.nx + ops.size * RR + j) w) → Q .normal a w := by
    intro listed a w ι hall hst
    have key : RelS N ι ⟨(envAt s.env (dstAt ops) v ops.size).cut (settled ops (Lst listed)), T ops.size, s.nx + ops.size * RR + ops.size⟩ a w ∧ StepN ι0 s.heap s.nx w0 ι (T ops.size) (s.nx + ops.size * RR + ops.size) w := by
      rcases hst with ⟨h1, h2, h3⟩ | ⟨j, h1, h2, h3, h4, h5⟩
      · refine turn listed a w ι ops.size (Nat.le_refl _) h1 (fun k hk => ?_) (fun k hk _ _ => hall k hk) h3
        cases ht : tl k with
        | false => rfl
        | true => exact absurd (hall k hk) (h1 k hk ht)
      · have : T ops.size = T j := T_same hd h1 (fun k hk1 hk2 => by
          cases ht : tl k with
          | false => rfl
          | true => have := (h2 k hk2 ht).1 (hall k hk2); omega)
        rw [this]
        exact ⟨h4.bump (by omega), h5.bump (by omega)⟩
    obtain ⟨g1, g2⟩ := key
    refine hQ ι a w ⟨g1.defers, g1.size, fun t => ?_, g1.heap, g1.bound⟩ g2
    have := g1.env t
    rwa [(Env.cut_get (settled ops (Lst listed)) _ t).1 (fun k hk _ => hall k hk)] at this
  intro fuel
  induction fuel with
  | zero =>
    intro listed a w ι hc hf hst
    have hall : ∀ k, k < ops.size → Lst listed k := fun k hk => left_zero (by omega) k (by rw [hc.size]; exact hk)
    refine ⟨?_, fin listed a w ι hall hst⟩
    cases hr : Region.ready .any ops listed with
    | nil => rfl
    | cons x xs =>
      have hx : x ∈ Region.ready .any ops listed := by rw [hr]; exact List.mem_cons_self ..
      obtain ⟨h1, o, ho, _⟩ := mem_ready.1 hx
      have hxs : x < ops.size := (Array.getElem?_eq_some_iff.1 ho).1
      have := hall x hxs
      unfold Lst at this
      have hxl : x < listed.size := by rw [hc.size]; exact hxs
      simp [hxl] at this h1
      rw [this] at h1
      cases h1
  | succ fuel ih =>
    intro listed a w ι hc hf hst
    refine ⟨fun hr => fin listed a w ι (all_listed pl hc hr) hst, fun i hir => ?_⟩
    obtain ⟨hun, o, ho, hedges⟩ := mem_ready.1 hir
    have hisz : i < ops.size := (Array.getElem?_eq_some_iff.1 ho).1
    obtain ⟨hleft, hilt⟩ := left_set hun
    have hnl : ¬ Lst listed i := by
      unfold Lst
      simp [hilt] at hun ⊢
      exact hun
    have hpre : ∀ k, M i k = true → Lst listed k := by
      intro k hm
      rcases pl.by_ i k hm with hv | ⟨o', ho', e, he, hb, hor⟩
      · cases hv
      rw [ho] at ho'
      cases ho'
      have hl := hedges e he hb
      rcases hor with rfl | h
      · exact hl
      · exact cl_pre pl hc (fun _ h => nomatch h) e.on k hl h
    have hpost : ∀ k, M k i = true → ¬ Lst listed k := fun k hm hl => hnl (cl_pre pl hc (fun _ h => nomatch h) k i hl hm)
    have hc' : Cl ops (listed.setIfInBounds i true) := by
      refine ⟨by simp [hc.size], fun k p hp hl e he hb => ?_⟩
      rw [lst_set hilt] at hl ⊢
      rcases hl with hl | rfl
      · exact .inl (hc.closed k p hp hl e he hb)
      · rw [ho] at hp
        cases hp
        exact .inl (hedges e he hb)
    have hdst : dstAt ops i = o.dst := by simp [dstAt, ho]
    -- the slots that a late operation looks at are settled
    have looks : tl i = true ∨ early i = false → ∀ x ∈ o.looksAt ops, settled ops (Lst listed) x := by
      intro hlate x hx k hk hkd
      have hk' : ops[k]? = some (ops[k]'hk) := Array.getElem?_eq_getElem _
      have hkd' : (ops[k]'hk).dst = some x := by simpa [dstAt, hk'] using hkd
      exact hpre k (hd.uses2 i k o _ x hlate ho hk' hkd' hx)
    have agree : tl i = true ∨ early i = false → ∀ x ∈ o.looksAt ops, ((envAt s.env (dstAt ops) v ops.size).cut (settled ops (Lst listed))).get x = (envAt s.env (dstAt ops) v ops.size).get x :=
      fun hlate x hx => (Env.cut_get (settled ops (Lst listed)) _ x).1 (looks hlate x hx)
    -- a store, in the second phase
    have tailStep : ∀ (j : Nat), j ≤ ops.size → tl i = true → (∀ k, k < ops.size → tl k = true → (Lst listed k ↔ k < j)) → (∀ k, k < ops.size → tl k = false → early k = true → Lst listed k) →
        RelS N ι ⟨(envAt s.env (dstAt ops) v ops.size).cut (settled ops (Lst listed)), T j, s.nx + ops.size * RR + j⟩ a w → StepN ι0 s.heap s.nx w0 ι (T j) (s.nx + ops.size * RR + j) w →
        wpOp P ops Q i (wpAny P .any ops Q fuel (listed.setIfInBounds i true)) a w := by
      intro j hj hti hlist hearly hRS hSt
      have hod := hd.tlDst i o ho hti
      have hij : j ≤ i := by
        rcases Nat.lt_or_ge i j with h | h
        · exact absurd ((hlist i hisz hti).2 h) hnl
        · exact h
      have hTi : T i = T j := T_same hd hij (fun k h1 h2 => by
        cases ht : tl k with
        | false => rfl
        | true =>
          have := (hlist k (by omega) ht).1 (hpre k (hd.tailOrd k i ht hti h2 hisz))
          omega)
      rw [← hTi] at hRS hSt
      replace hRS := hRS.bump (m := s.nx + ops.size * RR + i) (by omega)
      replace hSt := hSt.bump (m := s.nx + ops.size * RR + i) (by omega)
      unfold wpOp
      rw [ho]
      refine hd.tail i o ho hti _ (agree (.inl hti)) ι a w _ Q hRS (fun κ a' w' hRS' hSt' => ?_)
      have hcut : (envAt s.env (dstAt ops) v ops.size).cut (settled ops (Lst (listed.setIfInBounds i true))) = (envAt s.env (dstAt ops) v ops.size).cut (settled ops (Lst listed)) := by
        have : settled ops (Lst (listed.setIfInBounds i true)) = settled ops (Lst listed) := by
          funext x
          refine propext ⟨fun h k hk hkd => ?_, fun h k hk hkd => (lst_set hilt).2 (.inl (h k hk hkd))⟩
          rcases (lst_set hilt).1 (h k hk hkd) with h' | rfl
          · exact h'
          · rw [hdst, hod] at hkd; cases hkd
        rw [this]
      refine ih _ a' w' κ hc' (by omega) (.inr ⟨i + 1, by omega, fun k hk htk => ?_, fun k hk h1 h2 => (lst_set hilt).2 (.inl (hearly k hk h1 h2)), by rw [hcut]; exact hRS', hSt.trans hSt'⟩)
      rw [lst_set hilt, hlist k hk htk]
      constructor
      · rintro (h | rfl) <;> omega
      · intro h
        rcases Nat.lt_or_ge k i with h' | h'
        · exact .inl ((hlist k hk htk).1 (hpre k (hd.tailOrd k i htk hti h' hisz)))
        · exact .inr (by omega)
    rcases hst with ⟨h1, h2, h3⟩ | ⟨j, h1, h2, h3, h4, h5⟩
    · cases hti : tl i with
      | false =>
        unfold wpOp
        rw [ho]
        refine dinv_step pl hS h3 ho hisz hnl hpre hpost (hd.dst i o ho hti) (fun k _ => hd.news k) (hd.calm i o ho hti) (fun κ a' w' hI => ?_)
        refine ih _ a' w' κ hc' (by omega) (.inl ⟨fun k hk htk => ?_, fun k hk => ?_, ?_⟩)
        · rw [lst_set hilt]
          rintro (h | rfl)
          · exact h1 k hk htk h
          · rw [hti] at htk; cases htk
        · rcases (lst_set hilt).1 hk with h | rfl
          · exact h2 k h
          · exact hisz
        · have : (fun k => Lst listed k ∨ k = i) = Lst (listed.setIfInBounds i true) := funext fun k => propext (lst_set hilt).symm
          rw [← this]
          exact hI
      | true =>
        have hearly : ∀ k, k < ops.size → tl k = false → early k = true → Lst listed k := fun k hk hk1 hk2 => hpre k (hd.earlyM k i hk hk1 hk2 hti hisz)
        have hlow : ∀ k, k < i → tl k = false := fun k hk => by
          cases ht : tl k with
          | false => rfl
          | true => exact absurd (hpre k (hd.tailOrd k i ht hti hk hisz)) (h1 k (by omega) ht)
        obtain ⟨g1, g2⟩ := turn listed a w ι i (by omega) h1 hlow hearly h3
        exact tailStep i (by omega) hti (fun k hk htk => ⟨fun h => absurd h (h1 k hk htk), fun h => by have := hlow k h; rw [htk] at this; cases this⟩) hearly g1 g2
    · cases hti : tl i with
      | true => exact tailStep j h1 hti h2 h3 h4 h5
      | false =>
        have hel : early i = false := by
          cases he : early i with
          | false => rfl
          | true => exact absurd (h3 i hisz hti he) hnl
        unfold wpOp
        rw [ho]
        refine hd.loose i o ho hti hel j h1 _ (agree (.inr hel)) ι _ a w _ Q h4.env h4.heap.ro' h4.bound (fun u w' hu hst' => ?_)
        obtain ⟨k1, k2⟩ := hst'.of_ro (T j)
        have hdok := hd.dst i o ho hti
        refine ih _ _ w' ι hc' (by omega) (.inr ⟨j, h1, fun k hk htk => ?_, fun k hk e1 e2 => (lst_set hilt).2 (.inl (h3 k hk e1 e2)), ⟨by rw [put_defers]; exact h4.defers, ?_, fun t => ?_, ?_, ?_⟩, h5.trans k1⟩)
        · rw [lst_set hilt, h2 k hk htk]
          constructor
          · rintro (h | rfl)
            · exact h
            · rw [hti] at htk; cases htk
          · exact .inl
        · have := h4.size
          cases o.dst <;> simpa [Act.put] using this
        · show RelV ι (((envAt s.env (dstAt ops) v ops.size).cut (settled ops (Lst (listed.setIfInBounds i true)))).get t) _
          by_cases hset : settled ops (Lst (listed.setIfInBounds i true)) t
          · rw [(Env.cut_get (settled ops (Lst (listed.setIfInBounds i true))) _ t).1 hset]
            by_cases hot : o.dst = some t
            · have htN : t < N := by
                have := hdok
                rw [hot] at this
                simpa [dstOk, Nat.blt_eq] using this
              rw [hot, put_get_eq a (Nat.lt_of_lt_of_le htN h4.size), end_get pl hisz (by rw [hdst]; exact hot)]
              exact hu
            · rw [put_get_ne a hot]
              have := h4.env t
              rwa [(Env.cut_get (settled ops (Lst listed)) _ t).1 (fun k hk hkd => by
                rcases (lst_set hilt).1 (hset k hk hkd) with h | rfl
                · exact h
                · rw [hdst] at hkd; exact absurd hkd hot)] at this
          · rw [(Env.cut_get (settled ops (Lst (listed.setIfInBounds i true))) _ t).2 hset]
            exact .any _
        · exact ⟨fun n b hn => let ⟨L, hL, hB⟩ := h4.heap.blk n b hn; ⟨L, hL, hB.keep (Inj.le_refl ι) (k2 _ (h4.bound n L hL).2)⟩, h4.heap.inj, h4.heap.fz_keep k1.st rfl⟩
        · exact fun n L hn => ⟨(h4.bound n L hn).1, Nat.lt_of_lt_of_le (h4.bound n L hn).2 k1.st.size⟩

theorem drawn2_region [Syms] {tl early : Nat → Bool} {T : Nat → Heap} {Q : Exit → Act → World → Prop} {id : Nat} {a : Act} {w : World} {ι : Inj} (hm : P.follows .mixedOrders = true) (hd : Drawn2 P N ops M s v nw tl early T) (hS : RelS N ι s a w)
    (hQ : ∀ κ a' w', RelS N κ ⟨envAt s.env (dstAt ops) v ops.size, T ops.size, s.nx + ops.size * RR + ops.size⟩ a' w' → StepN ι s.heap s.nx w κ (T ops.size) (s.nx + ops.size * RR + ops.size) w' → Q .normal a' w') : (Code.region id ops true).wp P Q a w := by
  refine wp_region_any hm ?_
  have hH : RelH ι s.heap { w with drawn := w.drawn + 1 } := ⟨fun n b hb => let ⟨L, h1, h2⟩ := hS.heap.blk n b hb; ⟨L, h1, h2.keep (Inj.le_refl ι) rfl⟩, hS.heap.inj, hS.heap.fz⟩
  have hst : StepN ι s.heap s.nx w ι s.heap s.nx { w with drawn := w.drawn + 1 } := ⟨Step.drew ι s.heap w _, Nat.le_refl _, fun _ _ h => .inl h⟩
  have no : ∀ k, ¬ Lst (Array.replicate ops.size false) k := by
    intro k h
    unfold Lst at h
    rcases Nat.lt_or_ge k ops.size with h' | h'
    · simp [h'] at h
    · simp [h'] at h
  refine draw_any2 (w0 := { w with drawn := w.drawn + 1 }) hd ⟨hH, hS.bound⟩ (fun κ a' w' h1 h2 => hQ κ a' w' h1 (hst.trans h2)) _ _ a _ ι ⟨by simp, fun k o ho h => absurd h (no k)⟩ (by simp [left]) (.inl ⟨fun k _ _ => no k, fun k h => absurd h (no k), ?_⟩)
  exact ⟨hS.defers, hS.size, Inj.le_refl ι, fun m L hm => ⟨(hS.bound m L hm).2, .inl hm⟩, rfl, rfl, rfl, Nat.le_refl _, fun _ _ => rfl, fun t _ => hS.env t, fun k t _ h => absurd h (no k), fun k id b _ h => absurd h (no k), fun k k' id id' b b' L L' _ _ h => absurd h (no k), fun g cs hg => ⟨.inl hg, (hS.heap.fz g cs hg).1, fun k id b L _ h => absurd h (no k)⟩⟩

end
end Go.Av
