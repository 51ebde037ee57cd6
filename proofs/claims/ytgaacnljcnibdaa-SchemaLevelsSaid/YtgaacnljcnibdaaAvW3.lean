/-
  Such a region, run. Over every program.
-/
import Derived.Test.YtgaacnljcnibdaaAvW2
set_option linter.unusedVariables false
set_option linter.unusedSimpArgs false
noncomputable section
namespace Go.Av

/-- Operations that answer a value, and take no number. -/
def isPure : Op → Bool
  | .move _ | .assign _ | .pick _ _ _ | .load _ _ | .fieldAddr _ _ _ | .field _ _ _ | .indexAddr _ _ _ | .index _ _ _ | .binOp _ _ _ _ _ | .unOp _ _ _ | .extract _ _ | .nilCheck _ | .slice _ _ _ _ _ => true
  | _ => false
theorem aop_m {tt : TT} {ρ : Operand → AVal} {H : Heap} {op : Op} (h : isPure op = true) (m m' : Nat) : aop tt ρ H m op = aop tt ρ H m' op := by
  cases op <;> first | rfl | (simp [isPure] at h)

def isStore : Op → Bool
  | .store _ _ _ => true
  | _ => false
def tl2 (ops : Array Oper) (i : Nat) : Bool := match ops[i]? with
  | some o => isStore o.op
  | none => false
def early2 (ops : Array Oper) (ms : List Nat) (i : Nat) : Bool := !tl2 ops i && allBelow (fun t => !tl2 ops t || (ms.getD t 0).testBit i) ops.size

def erase (ws : List Nat) : Heap → Heap
  | [] => []
  | (k, b) :: h => (k, bif ws.contains k then none else b) :: erase ws h
theorem erase_get (ws : List Nat) : ∀ (H : Heap) (n : Nat), (erase ws H).get n = if ws.contains n then none else H.get n
  | [], n => by simp [erase, Heap.get_nil]
  | (k, b) :: h, n => by
    simp only [erase, Heap.get_cons, erase_get ws h n]
    by_cases hk : n = k
    · subst hk
      cases hb : ws.contains n <;> simp [Nat.beq_refl]
    · rw [beq_ff hk]
      rfl

theorem visH_nil {H0 : Heap} {p : Nat → Bool} : ∀ i, visH H0 (fun _ => []) p i = H0
  | 0 => rfl
  | i + 1 => by
    simp only [visH, visH_nil i]
    split <;> rfl

/-- What a calm operation says with less of the heap in sight it says with more. -/
theorem roAll_sub [Syms] {G H : Heap} (h : ∀ n b, G.get n = some b → H.get n = some b) : ∀ n b, (roAll G).get n = some b → (roAll H).get n = some b := by
  intro n b hb
  obtain ⟨rows, ro, h1, rfl⟩ := roAll_some hb
  rw [roAll_get, h n _ h1]
  rfl
theorem RelH.less [Syms] {ι : Inj} {G H : Heap} {w : World} (h : RelH ι (roAll H) w) (hs : ∀ n b, G.get n = some b → H.get n = some b) : RelH ι (roAll G) w := h.sub (roAll_sub hs)
theorem CalmSem.more [Syms] {P : Program} {N : Nat} {ops : Array Oper} {o : Oper} {env : Env} {G H : Heap} {m : Nat} {v : AVal} {news : List (Nat × Blk)} (h : CalmSem P N ops o env G m v news) (hs : ∀ n b, G.get n = some b → H.get n = some b) :
    CalmSem P N ops o env H m v news := fun ι a w K Q hd hN he hH hb hK => h ι a w K Q hd hN he (hH.less hs) hb hK


def pass2 (call : CallF) (tt : TT) (N : Nat) (ops : Array Oper) (ws : List Nat) (ea : Nat → Bool) (H : Heap) (nx : Nat) : Nat → List Oper → Env → Option (List AVal)
  | _, [], _ => some []
  | i, o :: l, e =>
    if isStore o.op then (match pass2 call tt N ops ws ea H nx (i + 1) l e with | some vs => some (.any :: vs) | none => none)
    else if dstOk N o.dst then
      match (if ea i then calmOp call tt ops o e H (nx + i * RR) else if isPure o.op then calmOp call tt ops o e (erase ws H) (nx + i * RR) else none) with
      | some (v, []) => (match pass2 call tt N ops ws ea H nx (i + 1) l (e.put o.dst v) with | some vs => some (v :: vs) | none => none)
      | _ => none
    else none

theorem pass2_spec {call : CallF} {tt : TT} {N : Nat} {ops : Array Oper} {ws : List Nat} {ea : Nat → Bool} {H : Heap} {nx : Nat} {env0 : Env} (hst : ∀ (k : Nat) (o : Oper), ops[k]? = some o → isStore o.op = true → o.dst = none) :
    ∀ (l : List Oper) (i : Nat) (e : Env) (vs : List AVal), (∀ j, j < l.length → l[j]? = ops[i + j]?) → pass2 call tt N ops ws ea H nx i l e = some vs →
      vs.length = l.length ∧ ∀ v : Nat → AVal, (∀ j, j < l.length → vs[j]? = some (v (i + j))) → e = envAt env0 (dstAt ops) v i →
        ∀ k o, i ≤ k → k < i + l.length → ops[k]? = some o → isStore o.op = false → dstOk N o.dst = true ∧
          (ea k = true → calmOp call tt ops o (envAt env0 (dstAt ops) v k) H (nx + k * RR) = some (v k, [])) ∧
          (ea k = false → isPure o.op = true ∧ calmOp call tt ops o (envAt env0 (dstAt ops) v k) (erase ws H) (nx + k * RR) = some (v k, []))
  | [], i, e, vs, _, h => by
    simp only [pass2, Option.some.injEq] at h
    subst h
    exact ⟨rfl, fun v _ _ k o h1 h2 => by simp at h2; omega⟩
  | o :: l, i, e, vs, hl, h => by
    have ho : ops[i]? = some o := by have := hl 0 (by simp); simpa using this.symm
    have hl' : ∀ j, j < l.length → l[j]? = ops[i + 1 + j]? := fun j hj => by
      have := hl (j + 1) (by simpa using hj)
      simpa [Nat.add_assoc, Nat.add_comm 1 j] using this
    simp only [pass2] at h
    split at h
    · rename_i hs
      split at h
      · rename_i us hus
        cases h
        obtain ⟨ih1, ih2⟩ := pass2_spec hst l (i + 1) e us hl' hus
        refine ⟨by simp [ih1], fun v hv he k p h1 h2 hp hps => ?_⟩
        have hd : dstAt ops i = none := by simp [dstAt, ho, hst i o ho hs]
        have := ih2 v (fun j hj => by have := hv (j + 1) (by simpa using hj); simpa [Nat.add_assoc, Nat.add_comm 1 j] using this) (by simp only [envAt, hd, Env.put]; exact he) k p
        rcases Nat.lt_or_ge i k with hik | hik
        · exact this (by omega) (by simp at h2; omega) hp hps
        · obtain rfl : k = i := by omega
          rw [ho] at hp; cases hp
          rw [hs] at hps; cases hps
      · cases h
    · rename_i hs
      split at h
      rotate_left
      · cases h
      rename_i hdok
      split at h
      rotate_left
      · cases h
      rename_i x hop
      split at h
      rotate_left
      · cases h
      rename_i us hus
      cases h
      obtain ⟨ih1, ih2⟩ := pass2_spec hst l (i + 1) _ us hl' hus
      refine ⟨by simp [ih1], fun v hv he k p h1 h2 hp hps => ?_⟩
      have hvi : v i = x := by have := hv 0 (by simp); simpa using this.symm
      have hd : dstAt ops i = o.dst := by simp [dstAt, ho]
      rcases Nat.lt_or_ge i k with hik | hik
      · exact ih2 v (fun j hj => by have := hv (j + 1) (by simpa using hj); simpa [Nat.add_assoc, Nat.add_comm 1 j] using this) (by simp only [envAt, hd, hvi]; rw [he]) k p (by omega) (by simp at h2; omega) hp hps
      · obtain rfl : k = i := by omega
        rw [ho] at hp; cases hp
        refine ⟨hdok, fun hea => ?_, fun hea => ?_⟩
        · rw [hea] at hop
          simp only [if_true] at hop
          rw [← he, hvi]
          exact hop
        · rw [hea] at hop
          simp only [Bool.false_eq_true, if_false] at hop
          split at hop
          · rename_i hpu
            rw [← he, hvi]
            exact ⟨hpu, hop⟩
          · cases hop


theorem aop_store_nx {tt : TT} {ρ : Operand → AVal} {H : Heap} {op : Op} (h : isStore op = true) (m m' : Nat) : aop tt ρ H m op = aop tt ρ H m' op := by
  cases op <;> first | rfl | (simp [isStore] at h)

/-- Where does a store go? -/
def storeTo (env : Env) : Op → Option Nat
  | .store _ x _ => match evE env x with
    | .ptr n _ _ => some n
    | _ => none
  | _ => none

def tails2 (tt : TT) (ops : Array Oper) (E : Env) (ws : List Nat) (nx : Nat) : List Oper → Heap → Option (List Heap)
  | [], H => some [H]
  | o :: l, H =>
    if isStore o.op then
      match wantedA ops E o with
      | some false => (match tails2 tt ops E ws nx l H with | some Ts => some (H :: Ts) | none => none)
      | some true => match aop tt (evE E) H nx o.op, storeTo E o.op with
        | some (.upd H' _), some n => if ws.contains n then (match tails2 tt ops E ws nx l H' with | some Ts => some (H :: Ts) | none => none) else none
        | _, _ => none
      | none => none
    else (match tails2 tt ops E ws nx l H with | some Ts => some (H :: Ts) | none => none)

theorem store_keeps [Syms] {tt : TT} {E : Env} {H H' : Heap} {m : Nat} {op : Op} {v : AVal} {n k : Nat} (h : aop tt (evE E) H m op = some (.upd H' v)) (hn : storeTo E op = some n) (hk : k ≠ n) : H'.get k = H.get k := by
  unfold storeTo at hn
  split at hn
  · rename_i t x y
    split at hn
    · rename_i n' kk j hp
      cases hn
      simp only [aop, hp, astore] at h
      split at h
      · split at h
        · split at h
          · simp only [Option.map_some, Option.some.injEq, Res.upd.injEq] at h
            rw [← h.1, Heap.get_set_ne _ _ hk]
          · simp at h
        · simp at h
      · simp at h
    · cases hn
  · cases hn

theorem tails2_spec [Syms] {tt : TT} {ops : Array Oper} {E : Env} {ws : List Nat} {nx : Nat} : ∀ (l : List Oper) (H : Heap) (Ts : List Heap), tails2 tt ops E ws nx l H = some Ts →
    Ts.length = l.length + 1 ∧ Ts.getD 0 [] = H ∧ (∀ j, j < l.length + 1 → ∀ k, ws.contains k = false → (Ts.getD j []).get k = H.get k) ∧
    ∀ j o, l[j]? = some o → (isStore o.op = false → Ts.getD (j + 1) [] = Ts.getD j []) ∧
      (isStore o.op = true → (wantedA ops E o = some false ∧ Ts.getD (j + 1) [] = Ts.getD j []) ∨ (wantedA ops E o = some true ∧ ∃ v, aop tt (evE E) (Ts.getD j []) nx o.op = some (.upd (Ts.getD (j + 1) []) v)))
  | [], H, Ts, h => by
    simp only [tails2, Option.some.injEq] at h
    subst h
    refine ⟨rfl, rfl, fun j hj k _ => ?_, fun j o h => by simp at h⟩
    have : j = 0 := by simpa using hj
    subst this
    rfl
  | o :: l, H, Ts, h => by
    have step : ∀ (H' : Heap) (Us : List Heap), tails2 tt ops E ws nx l H' = some Us → Ts = H :: Us → (∀ k, ws.contains k = false → H'.get k = H.get k) →
        ((isStore o.op = false → H' = H) ∧ (isStore o.op = true → (wantedA ops E o = some false ∧ H' = H) ∨ (wantedA ops E o = some true ∧ ∃ v, aop tt (evE E) H nx o.op = some (.upd H' v)))) →
        Ts.length = (o :: l).length + 1 ∧ Ts.getD 0 [] = H ∧ (∀ j, j < (o :: l).length + 1 → ∀ k, ws.contains k = false → (Ts.getD j []).get k = H.get k) ∧
        ∀ j p, (o :: l)[j]? = some p → (isStore p.op = false → Ts.getD (j + 1) [] = Ts.getD j []) ∧
          (isStore p.op = true → (wantedA ops E p = some false ∧ Ts.getD (j + 1) [] = Ts.getD j []) ∨ (wantedA ops E p = some true ∧ ∃ v, aop tt (evE E) (Ts.getD j []) nx p.op = some (.upd (Ts.getD (j + 1) []) v))) := by
      rintro H' Us hU rfl hk ⟨hs1, hs2⟩
      obtain ⟨i1, i2, i3, i4⟩ := tails2_spec l H' Us hU
      refine ⟨by simp [i1], rfl, fun j hj k hkw => ?_, fun j p hp => ?_⟩
      · cases j with
        | zero => rfl
        | succ j =>
          have := i3 j (by simpa using hj) k hkw
          rw [← hk k hkw]
          simpa using this
      · cases j with
        | zero =>
          have : o = p := by simpa using hp
          subst this
          have e1 : (H :: Us).getD (0 + 1) [] = H' := by simpa using i2
          have e0 : (H :: Us).getD 0 [] = H := rfl
          rw [e1, e0]
          exact ⟨hs1, hs2⟩
        | succ j =>
          have := i4 j p (by simpa using hp)
          simpa using this
    simp only [tails2] at h
    split at h
    · rename_i hs
      split at h
      · rename_i hw
        split at h
        · rename_i Us hU
          cases h
          exact step H Us hU rfl (fun _ _ => rfl) ⟨fun _ => rfl, fun _ => .inl ⟨hw, rfl⟩⟩
        · cases h
      · rename_i hw
        split at h
        · rename_i H' v n ha hn
          split at h
          · rename_i hws
            split at h
            · rename_i Us hU
              cases h
              refine step H' Us hU rfl (fun k hk => store_keeps ha hn (fun e => ?_)) ⟨fun h => (by rw [hs] at h; cases h), fun _ => .inr ⟨hw, v, ha⟩⟩
              subst e
              rw [hws] at hk
              cases hk
            · cases h
          · cases h
        · cases h
      · cases h
    · rename_i hs
      split at h
      · rename_i Us hU
        cases h
        exact step H Us hU rfl (fun _ _ => rfl) ⟨fun _ => rfl, fun h => absurd h hs⟩
      · cases h


theorem wantedA_congr {ops : Array Oper} {o : Oper} {e e' : Env} (h : ∀ x ∈ o.looksAt ops, e.get x = e'.get x) : wantedA ops e o = wantedA ops e' o := by
  unfold wantedA
  cases hg : o.guard with
  | none => rfl
  | some g =>
    obtain ⟨j, want⟩ := g
    simp only
    cases hd : (ops[j]?).bind (·.dst) with
    | none => rfl
    | some d =>
      simp only
      rw [h d (List.mem_append_right _ (by rw [hg]; simp [hd]))]
theorem evE_congr {ops : Array Oper} {o : Oper} {e e' : Env} (h : ∀ x ∈ o.looksAt ops, e.get x = e'.get x) {x : Operand} (hx : x ∈ o.op.operands) : evE e x = evE e' x := by
  cases x with
  | tmp t => exact h t (List.mem_append_left _ (List.mem_filterMap.2 ⟨.tmp t, by simpa using hx, rfl⟩))
  | _ => rfl
theorem evE_eq (s : St) : s.ev = evE s.env := by
  funext x
  cases x <;> rfl

theorem LooseSem.more [Syms] {P : Program} {N : Nat} {ops : Array Oper} {o : Oper} {env : Env} {G H : Heap} {v : AVal} (h : LooseSem P N ops o env G v) (hs : ∀ n b, G.get n = some b → H.get n = some b) : LooseSem P N ops o env H v :=
  fun ι m a w K Q he hH hb hK => h ι m a w K Q he (hH.less hs) hb (fun u w' hu hst => hK u w' hu (hst.of_ro (roAll H)).1)

/-- What is asked of a region's plan. -/
def plan2Ok (ops : Array Oper) (ms : List Nat) : Bool :=
  planOk ops ms [] ops.size &&
  allBelow (fun i => match ops[i]? with
    | some o =>
      (!isStore o.op || o.dst.isNone) &&
      allBelow (fun k =>
        (!(tl2 ops i && tl2 ops k && Nat.blt k i) || (ms.getD i 0).testBit k) &&
        (!(tl2 ops i || !early2 ops ms i) || (match ops[k]? with
          | some p => (match p.dst with
            | some d => !(o.looksAt ops).contains d || (ms.getD i 0).testBit k
            | none => true)
          | none => true))) ops.size
    | none => true) ops.size

def envOf : List Oper → List AVal → Env → Env
  | o :: l, v :: vs, e => envOf l vs (e.put o.dst v)
  | _, _, e => e
theorem envOf_eq {ops : Array Oper} {env0 : Env} : ∀ (l : List Oper) (vs : List AVal) (i : Nat) (e : Env) (v : Nat → AVal), (∀ j, j < l.length → l[j]? = ops[i + j]?) → (∀ j, j < l.length → vs[j]? = some (v (i + j))) → vs.length = l.length → e = envAt env0 (dstAt ops) v i →
    envOf l vs e = envAt env0 (dstAt ops) v (i + l.length)
  | [], vs, i, e, v, _, _, hlen, he => by
    have : vs = [] := List.length_eq_zero_iff.1 hlen
    subst this
    exact he
  | o :: l, x :: vs, i, e, v, hl, hv, hlen, he => by
    have ho : ops[i]? = some o := by have := hl 0 (by simp); simpa using this.symm
    have hvi : v i = x := by have := hv 0 (by simp); simpa using this.symm
    simp only [envOf]
    rw [List.length_cons, show i + (l.length + 1) = i + 1 + l.length by omega]
    refine envOf_eq l vs (i + 1) _ v (fun j hj => ?_) (fun j hj => ?_) (by simpa using hlen) ?_
    · have := hl (j + 1) (by simpa using hj)
      simpa [Nat.add_assoc, Nat.add_comm 1 j] using this
    · have := hv (j + 1) (by simpa using hj)
      simpa [Nat.add_assoc, Nat.add_comm 1 j] using this
    · simp only [envAt, show dstAt ops i = o.dst by simp [dstAt, ho], hvi, he]
  | o :: l, [], i, e, v, _, _, hlen, _ => by simp at hlen

def region2Run (call : CallF) (tt : TT) (N : Nat) (ops : Array Oper) (s : St) : Option St :=
  if plan2Ok ops (masks ops) then
    match pass2 call tt N ops [] (early2 ops (masks ops)) s.heap s.nx 0 ops.toList s.env with
    | some vs0 =>
      let ws := ops.toList.filterMap fun o => storeTo (envOf ops.toList vs0 s.env) o.op
      match pass2 call tt N ops ws (early2 ops (masks ops)) s.heap s.nx 0 ops.toList s.env with
      | some vs =>
        match tails2 tt ops (envOf ops.toList vs s.env) ws (s.nx + ops.size * RR) ops.toList s.heap with
        | some Ts => some ⟨envOf ops.toList vs s.env, Ts.getD ops.size [], s.nx + ops.size * RR + ops.size⟩
        | none => none
      | none => none
    | none => none
  else none


theorem OpSem.bump [Syms] {P : Program} {N : Nat} {ops : Array Oper} {o : Oper} {s : St} {e : Env} {H : Heap} {n m : Nat} (h : OpSem P N ops o s ⟨e, H, n⟩) (hn : n ≤ m) : OpSem P N ops o s ⟨e, H, m⟩ :=
  fun ι a w K Q hS hK => h ι a w K Q hS (fun κ a' w' h1 h2 => hK κ a' w' (h1.bump hn) (h2.bump hn))

theorem region2Run_sound [Syms] {P : Program} {call : CallF} {tt : TT} {N : Nat} (htt : TT.ok P tt) (hcall : call.ok P) (hm : P.follows .mixedOrders = true) {id : Nat} {ops : Array Oper} {s s' : St} (h : region2Run call tt N ops s = some s')
    {Q : Exit → Act → World → Prop} {ι : Inj} {a : Act} {w : World} (hS : RelS N ι s a w) (hQ : ∀ κ a' w', RelS N κ s' a' w' → StepN ι s.heap s.nx w κ s'.heap s'.nx w' → Q .normal a' w') : (Code.region id ops true).wp P Q a w := by
  unfold region2Run at h
  split at h
  rotate_left
  · cases h
  rename_i hplan
  split at h
  rotate_left
  · cases h
  rename_i vs0 _
  simp only at h
  generalize ops.toList.filterMap (fun o => storeTo (envOf ops.toList vs0 s.env) o.op) = ws at h
  split at h
  rotate_left
  · cases h
  rename_i vs hvs
  split at h
  rotate_left
  · cases h
  rename_i Ts hTs
  cases h
  generalize hms : masks ops = ms at *
  simp only [plan2Ok, Bool.and_eq_true] at hplan
  obtain ⟨hp1, hp2⟩ := hplan
  have pl : Plan ops ops.size _ nomv := (planOk_plan hp1).1
  have at_ : ∀ (i : Nat) (o : Oper), ops[i]? = some o → (isStore o.op = true → o.dst = none) ∧ ∀ k, k < ops.size → (tl2 ops i = true → tl2 ops k = true → k < i → (ms.getD i 0).testBit k = true) ∧
      (tl2 ops i = true ∨ early2 ops ms i = false → ∀ p d, ops[k]? = some p → p.dst = some d → d ∈ o.looksAt ops → (ms.getD i 0).testBit k = true) := by
    intro i o ho
    have := allBelow_spec hp2 i (Array.getElem?_eq_some_iff.1 ho).1
    rw [ho] at this
    simp only [Bool.and_eq_true] at this
    obtain ⟨g1, g2⟩ := this
    refine ⟨fun hs => ?_, fun k hk => ?_⟩
    · rw [hs] at g1
      simpa using g1
    · have := allBelow_spec g2 k hk
      simp only [Bool.and_eq_true] at this
      obtain ⟨g4, g5⟩ := this
      refine ⟨fun h1 h2 h3 => ?_, fun h1 p d hp hd hl => ?_⟩
      · have hb : Nat.blt k i = true := by simpa [Nat.blt_eq] using h3
        simpa [h1, h2, hb] using g4
      · have h1' : (tl2 ops i || !early2 ops ms i) = true := by
          rcases h1 with h | h <;> simp [h]
        rw [h1', hp] at g5
        simp only [Bool.not_true, Bool.false_or, hd] at g5
        simpa [hl] using g5
  have hl0 : ∀ j, j < ops.toList.length → ops.toList[j]? = ops[0 + j]? := fun j _ => by simp
  have hst : ∀ (k : Nat) (o : Oper), ops[k]? = some o → isStore o.op = true → o.dst = none := fun k o ho => (at_ k o ho).1
  obtain ⟨hlen, hspec⟩ := pass2_spec (env0 := s.env) hst ops.toList 0 s.env vs hl0 hvs
  have hvv : ∀ j, j < ops.toList.length → vs[j]? = some ((fun k => vs.getD k .any) (0 + j)) := fun j hj => by
    have : j < vs.length := by rw [hlen]; exact hj
    simp [this]
  have hE := envOf_eq (ops := ops) (env0 := s.env) ops.toList vs 0 s.env (fun k => vs.getD k .any) hl0 hvv hlen rfl
  have hspec := hspec (fun k => vs.getD k .any) hvv rfl
  rw [Nat.zero_add, Array.length_toList] at hE
  rw [hE] at hTs hQ
  obtain ⟨hT1, hT2, hT3, hT4⟩ := tails2_spec ops.toList s.heap Ts hTs
  have tlo : ∀ (i : Nat) (o : Oper), ops[i]? = some o → tl2 ops i = isStore o.op := fun i o ho => by simp [tl2, ho]
  have tlN : ∀ i, tl2 ops i = true → ∃ o, ops[i]? = some o ∧ isStore o.op = true := fun i h => by
    unfold tl2 at h
    split at h
    · rename_i o ho; exact ⟨o, ho, h⟩
    · cases h
  have agreeE : ∀ (i : Nat) (o : Oper), ops[i]? = some o → early2 ops ms i = false → ∀ x ∈ o.looksAt ops, (envAt s.env (dstAt ops) (fun k => vs.getD k .any) i).get x = (envAt s.env (dstAt ops) (fun k => vs.getD k .any) ops.size).get x := by
    intro i o ho he x hx
    have hi := (Array.getElem?_eq_some_iff.1 ho).1
    by_cases hex : ∃ k, k < ops.size ∧ dstAt ops k = some x
    · obtain ⟨k, hk, hd⟩ := hex
      have hk' : ops[k]? = some (ops[k]'hk) := Array.getElem?_eq_getElem _
      have hki := pl.lt i k (((at_ i o ho).2 k hk).2 (.inr he) _ x hk' (by simpa [dstAt, hk'] using hd) hx)
      rw [at_get pl (by omega) hki hd, end_get pl hk hd]
    · rw [envAt_miss (fun k hk hd => hex ⟨k, by omega, hd⟩), envAt_miss (fun k hk hd => hex ⟨k, hk, hd⟩)]
  have hTend : Ts.getD ops.size [] = (fun i => Ts.getD (min i ops.size) []) ops.size := by simp
  rw [hTend] at hQ
  refine drawn2_region (M := fun i k => (ms.getD i 0).testBit k) (v := fun k => vs.getD k .any) (nw := fun _ => []) (tl := tl2 ops) (early := early2 ops ms) (T := fun i => Ts.getD (min i ops.size) []) hm
    ⟨pl, fun t o ho ht => hst t o ho (by rw [← tlo t o ho]; exact ht), fun t u ht hu htu hus => ?_, fun k t hk hkt hke ht hts => ?_, fun i k o p d hl ho hp hd hlook => ?_, fun i o ho hi => ?_, fun k id b hin => (by cases hin), fun _ _ => rfl, fun i o ho hi => ?_, ?_, fun i hi => ?_, fun t o ho ht env' hag => ?_, fun i o ho hi he j hj env' hag => ?_⟩ hS hQ
  · obtain ⟨o, ho, _⟩ := tlN u hu
    exact ((at_ u o ho).2 t (by omega)).1 hu ht htu
  · simp only [early2, Bool.and_eq_true] at hke
    have := allBelow_spec hke.2 t hts
    rw [ht] at this
    simpa using this
  · have hk := (Array.getElem?_eq_some_iff.1 hp).1
    exact ((at_ i o ho).2 k hk).2 hl p d hp hd hlook
  · rw [tlo i o ho] at hi
    exact (hspec i o (Nat.zero_le _) (by simpa using (Array.getElem?_eq_some_iff.1 ho).1) ho hi).1
  · have hi' := hi
    rw [tlo i o ho] at hi
    obtain ⟨_, k1, k2⟩ := hspec i o (Nat.zero_le _) (by simpa using (Array.getElem?_eq_some_iff.1 ho).1) ho hi
    rw [visH_nil]
    cases he : early2 ops ms i with
    | true =>
      have := k1 he
      rw [← calmOp_only] at this
      exact (calmOp_sound (P := P) (N := N) htt hcall this).1
    | false =>
      have := (k2 he).2
      rw [← calmOp_only] at this
      refine CalmSem.more (calmOp_sound (P := P) (N := N) htt hcall this).1 (fun n b hn => ?_)
      rw [erase_get] at hn
      split at hn
      · cases hn
      · exact hn
  · rw [visH_nil]
    simpa using hT2
  · rcases Nat.lt_or_ge i ops.size with h | h
    · have ho : ops[i]? = some ops[i] := Array.getElem?_eq_getElem h
      have hi := hi
      rw [tlo i _ ho] at hi
      have := (hT4 i ops[i] (by simp only [Array.getElem?_toList]; exact ho)).1 hi
      simp only [show min (i + 1) ops.size = i + 1 by omega, show min i ops.size = i by omega]
      exact this
    · simp only [show min (i + 1) ops.size = ops.size by omega, show min i ops.size = ops.size by omega]
  · have hsz := (Array.getElem?_eq_some_iff.1 ho).1
    have hst1 : isStore o.op = true := by rw [← tlo t o ho]; exact ht
    have hdn := hst t o ho hst1
    simp only [show min (t + 1) ops.size = t + 1 by omega, show min t ops.size = t by omega]
    have hdok : dstOk N o.dst = true := by rw [hdn]; rfl
    rcases (hT4 t o (by simpa using ho)).2 hst1 with ⟨hw, hT⟩ | ⟨hw, x, hx⟩
    · rw [hT]
      have := opSem_skip (P := P) (N := N) (ops := ops) (o := o) (s := ⟨env', Ts.getD t [], s.nx + ops.size * RR + t⟩) (by rw [wantedA_congr hag]; exact hw) hdok
      rw [hdn] at this
      exact this.bump (Nat.le_succ _)
    · have := opSem_aop (P := P) htt (N := N) (ops := ops) (o := o) (s := ⟨env', Ts.getD t [], s.nx + ops.size * RR + t⟩) (r := .upd (Ts.getD (t + 1) []) x) (by rw [wantedA_congr hag]; exact hw) hdok (by
        rw [evE_eq, aop_congr o.op (fun y hy => evE_congr hag hy), aop_store_nx hst1 _ (s.nx + ops.size * RR)]
        exact hx)
      rw [hdn] at this
      exact this
  · rw [tlo i o ho] at hi
    have hisz := (Array.getElem?_eq_some_iff.1 ho).1
    obtain ⟨_, _, k2⟩ := hspec i o (Nat.zero_le _) (by simpa using hisz) ho hi
    obtain ⟨hpu, hc⟩ := k2 he
    have hag' : ∀ x ∈ o.looksAt ops, env'.get x = (envAt s.env (dstAt ops) (fun k => vs.getD k .any) i).get x := fun x hx => by rw [hag x hx, agreeE i o ho he x hx]
    refine LooseSem.more (G := erase ws s.heap) ?_ (fun n b hn => ?_)
    · unfold calmOp at hc
      split at hc
      · rename_i hw
        simp only [Option.some.injEq, Prod.mk.injEq] at hc
        rw [← hc.1]
        exact loose_skip (by rw [wantedA_congr hag']; exact hw)
      · rename_i hw
        have hno : asCall o.op = none := by
          cases hop : o.op <;> rw [hop] at hpu <;> first | rfl | (simp [isPure] at hpu)
        rw [hno] at hc
        simp only at hc
        split at hc
        · rename_i r hr
          split at hc
          · rename_i hcalm
            simp only [Option.some.injEq, Prod.mk.injEq] at hc
            have hrv : r = .val (vs.getD i .any) := by
              cases r with
              | val y => rw [← hc.1]; rfl
              | new b y => simp [Res.news] at hc
              | upd h y => simp [Res.calm] at hcalm
            subst hrv
            refine loose_aop htt (by rw [wantedA_congr hag']; exact hw) (fun m => ?_)
            rw [aop_congr o.op (fun y hy => evE_congr hag' hy), aop_m hpu m (s.nx + i * RR)]
            exact hr
          · cases hc
        · cases hc
      · cases hc
    · rw [erase_get] at hn
      split at hn
      · cases hn
      · rename_i hnw
        have hj' : min j ops.size < ops.toList.length + 1 := by simp; omega
        rw [hT3 _ hj' n (by simpa using hnw)]
        exact hn


/-- A region, run the one way or the other. -/
def regionAny (call : CallF) (tt : TT) (N : Nat) (ops : Array Oper) (draw : Bool) (s : St) : Option St :=
  match regionRunF call tt N ops draw s with
  | some s1 => some s1
  | none => if draw then region2Run call tt N ops s else none
theorem regionAny_sound [Syms] {P : Program} {call : CallF} {tt : TT} {N : Nat} (htt : TT.ok P tt) (hcall : call.ok P) (hm : P.follows .mixedOrders = true) {id : Nat} {ops : Array Oper} {draw : Bool} {s s' : St} (h : regionAny call tt N ops draw s = some s')
    {Q : Exit → Act → World → Prop} {ι : Inj} {a : Act} {w : World} (hS : RelS N ι s a w) (hQ : ∀ κ a' w', RelS N κ s' a' w' → StepN ι s.heap s.nx w κ s'.heap s'.nx w' → Q .normal a' w') : (Code.region id ops draw).wp P Q a w := by
  unfold regionAny at h
  split at h
  · rename_i s1 h1
    cases h
    exact regionRun_sound htt hcall hm (regionRunF_eq h1) hS hQ
  · split at h
    · rename_i hd
      subst hd
      exact region2Run_sound htt hcall hm h hS hQ
    · cases h

end Go.Av
