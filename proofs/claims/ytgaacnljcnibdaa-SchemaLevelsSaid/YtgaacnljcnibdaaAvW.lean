/-
  Code, run abstractly. Over every program.
-/
import Derived.Test.YtgaacnljcnibdaaAvV
set_option linter.unusedVariables false
set_option linter.unusedSimpArgs false
noncomputable section
namespace Go.Av

/-- The calm part, operation by operation: values, what was made, the environment, the heap. -/
structure CalmSt where
  vals : List AVal
  nws : List (List (Nat × Blk))
  env : Env
  heap : Heap

/-- The heap that an operation sees. -/
def visL (H0 : Heap) (m : Nat) : Nat → List (List (Nat × Blk)) → Heap
  | _, [] => H0
  | k, nw :: l => if m.testBit k then visL (addNews H0 nw) m (k + 1) l else visL H0 m (k + 1) l

def calmRun (call : CallF) (tt : TT) (N : Nat) (ops : Array Oper) (ms : List Nat) (s : St) : Nat → List Oper → CalmSt → Option CalmSt
  | _, [], c => some c
  | i, o :: l, c =>
    if dstOk N o.dst then
      match calmOp call tt ops o (c.env.only (o.looksAt ops)) (visL s.heap (ms.getD i 0) 0 c.nws) (s.nx + i * RR) with
      | some (v, news) => calmRun call tt N ops ms s (i + 1) l ⟨c.vals ++ [v], c.nws ++ [news], c.env.put o.dst v, addNews c.heap news⟩
      | none => none
    else none

theorem visL_eq {nw : Nat → List (Nat × Blk)} {p : Nat → Bool} {m : Nat} (hp : ∀ k, p k = m.testBit k) : ∀ (l : List (List (Nat × Blk))) (k : Nat) (H0 H : Heap), (∀ j, j < l.length → l[j]? = some (nw (k + j))) → H = visH H0 nw p k → visL H m k l = visH H0 nw p (k + l.length)
  | [], k, H0, H, _, h => by simpa [visL] using h
  | x :: l, k, H0, H, hl, h => by
    have hx : x = nw k := by have := hl 0 (by simp); simpa using this
    have hrest : ∀ j, j < l.length → l[j]? = some (nw (k + 1 + j)) := fun j hj => by
      have := hl (j + 1) (by simpa using hj)
      simpa [Nat.add_assoc, Nat.add_comm 1 j] using this
    simp only [visL]
    have hstep : visH H0 nw p (k + 1) = if m.testBit k then addNews H x else H := by
      simp only [visH, hp k, ← h, hx]
    rw [List.length_cons, show k + (l.length + 1) = k + 1 + l.length by omega]
    by_cases hb : m.testBit k = true
    · rw [if_pos hb]
      rw [if_pos hb] at hstep
      exact visL_eq hp l (k + 1) H0 _ hrest hstep.symm
    · rw [if_neg hb]
      rw [if_neg hb] at hstep
      exact visL_eq hp l (k + 1) H0 _ hrest hstep.symm

theorem envAt_congr {env0 : Env} {dst dst' : Nat → Option Tmp} {v v' : Nat → AVal} : ∀ {i : Nat}, (∀ k, k < i → dst k = dst' k ∧ v k = v' k) → envAt env0 dst v i = envAt env0 dst' v' i
  | 0, _ => rfl
  | i + 1, h => by
    simp only [envAt]
    rw [envAt_congr (fun k hk => h k (by omega)), (h i (by omega)).1, (h i (by omega)).2]
theorem visH_congr {H0 : Heap} {nw nw' : Nat → List (Nat × Blk)} {p : Nat → Bool} : ∀ {i : Nat}, (∀ k, k < i → nw k = nw' k) → visH H0 nw p i = visH H0 nw' p i
  | 0, _ => rfl
  | i + 1, h => by
    simp only [visH]
    rw [visH_congr (fun k hk => h k (by omega)), h i (by omega)]

theorem calmRun_sound [Syms] {P : Program} {call : CallF} {tt : TT} {N : Nat} {ops : Array Oper} {ms : List Nat} {s : St} (htt : TT.ok P tt) (hcall : call.ok P) :
    ∀ (l : List Oper) (i : Nat) (c c' : CalmSt), (∀ j, j < l.length → l[j]? = ops[i + j]?) → c.vals.length = i → c.nws.length = i → calmRun call tt N ops ms s i l c = some c' →
      c'.vals.length = i + l.length ∧ c'.nws.length = i + l.length ∧ (∃ vs, c'.vals = c.vals ++ vs) ∧ (∃ ws, c'.nws = c.nws ++ ws) ∧
      ∀ (v : Nat → AVal) (nw : Nat → List (Nat × Blk)), (∀ k, k < i + l.length → c'.vals[k]? = some (v k) ∧ c'.nws[k]? = some (nw k)) → c.env = envAt s.env (dstAt ops) v i → c.heap = visH s.heap nw (fun _ => true) i →
        c'.env = envAt s.env (dstAt ops) v (i + l.length) ∧ c'.heap = visH s.heap nw (fun _ => true) (i + l.length) ∧
        ∀ k o, i ≤ k → k < i + l.length → ops[k]? = some o → dstOk N o.dst = true ∧ CalmSem P N ops o ((envAt s.env (dstAt ops) v k).only (o.looksAt ops)) (visH s.heap nw (fun q => (ms.getD k 0).testBit q) k) (s.nx + k * RR) (v k) (nw k) ∧
          ∀ id b, (id, b) ∈ nw k → ownN s.nx k id
  | [], i, c, c', _, hv, hn, h => by
    simp only [calmRun, Option.some.injEq] at h
    subst h
    exact ⟨by simpa using hv, by simpa using hn, ⟨[], by simp⟩, ⟨[], by simp⟩, fun v nw _ he hh => ⟨by simpa using he, by simpa using hh, fun k o h1 h2 => by simp at h2; omega⟩⟩
  | o :: l, i, c, c', hl, hv, hn, h => by
    simp only [calmRun] at h
    split at h
    rotate_left
    · cases h
    rename_i hdst
    split at h
    rotate_left
    · cases h
    rename_i x news hop
    obtain ⟨ih1, ih2, ⟨vs, ih3⟩, ⟨ws, ih4⟩, ih5⟩ := calmRun_sound htt hcall l (i + 1) _ c' (fun j hj => by have := hl (j + 1) (by simpa using hj); simpa [Nat.add_assoc, Nat.add_comm 1 j] using this) (by simp [hv]) (by simp [hn]) h
    have ho : ops[i]? = some o := by have := hl 0 (by simp); simpa using this.symm
    refine ⟨by simp; omega, by simp; omega, ⟨x :: vs, by simp [ih3]⟩, ⟨news :: ws, by simp [ih4]⟩, fun v nw hvn he hh => ?_⟩
    have hvi : v i = x := by
      have := (hvn i (by simp)).1
      rw [ih3] at this
      simp [hv] at this
      exact this.symm
    have hni : nw i = news := by
      have := (hvn i (by simp)).2
      rw [ih4] at this
      simp [hn] at this
      exact this.symm
    obtain ⟨g1, g2, g3⟩ := ih5 v nw (fun k hk => hvn k (by simp at hk ⊢; omega)) (by
        simp only [envAt]
        rw [he, hvi, show dstAt ops i = o.dst by simp [dstAt, ho]]) (by
        simp only [visH, if_true]
        rw [hh, hni])
    rw [List.length_cons, show i + (l.length + 1) = i + 1 + l.length by omega]
    refine ⟨g1, g2, fun k p h1 h2 hp => ?_⟩
    rcases Nat.lt_or_ge i k with hik | hik
    · exact g3 k p (by omega) h2 hp
    · obtain rfl : k = i := by omega
      rw [ho] at hp
      cases hp
      obtain ⟨f1, f2⟩ := calmOp_sound (P := P) (N := N) htt hcall hop
      have hvis : visL s.heap (ms.getD k 0) 0 c.nws = visH s.heap nw (fun q => (ms.getD k 0).testBit q) k := by
        have := visL_eq (nw := nw) (p := fun q => (ms.getD k 0).testBit q) (m := ms.getD k 0) (fun _ => rfl) c.nws 0 s.heap s.heap (fun j hj => by
          have := (hvn j (by simp; omega)).2
          rw [ih4, List.append_assoc, List.getElem?_append_left hj] at this
          simpa using this) rfl
        rw [this, Nat.zero_add, hn]
      rw [hvis, he] at f1
      refine ⟨hdst, by rw [hvi, hni]; exact f1, fun id b hin => ?_⟩
      rw [hni] at hin
      have := f2 id b hin
      refine ⟨this.1, ?_⟩
      rw [Nat.add_mul]
      omega

def regionRun (call : CallF) (tt : TT) (N : Nat) (ops : Array Oper) (draw : Bool) (s : St) : Option St :=
  if draw then
    let ms := masksM ops
    let n := tailM ops
    if planOk ops ms (mvs ops) n then
      match calmRun call tt N ops ms s 0 (ops.toList.take n) ⟨[], [], s.env, s.heap⟩ with
      | some c => seqRun call tt N ops (ops.toList.drop n) ⟨c.env, c.heap, s.nx + n * RR⟩
      | none => none
    else none
  else seqRun call tt N ops ops.toList s

theorem regionRun_sound [Syms] {P : Program} {call : CallF} {tt : TT} {N : Nat} (htt : TT.ok P tt) (hcall : call.ok P) (hm : P.follows .mixedOrders = true) {id : Nat} {ops : Array Oper} {draw : Bool} {s s' : St} (h : regionRun call tt N ops draw s = some s')
    {Q : Exit → Act → World → Prop} {ι : Inj} {a : Act} {w : World} (hS : RelS N ι s a w) (hQ : ∀ κ a' w', RelS N κ s' a' w' → StepN ι s.heap s.nx w κ s'.heap s'.nx w' → Q .normal a' w') : (Code.region id ops draw).wp P Q a w := by
  unfold regionRun at h
  split at h
  · rename_i hd
    subst hd
    simp only at h
    split at h
    · rename_i hplan
      split at h
      · rename_i c hc
        obtain ⟨pl, hmv⟩ := planOk_plan hplan
        have hle := pl.le
        obtain ⟨hnd, hmo⟩ := movList_spec ops ops.size
        generalize hmvs : mvs ops = l at *
        unfold mvs at hmvs
        rw [hmvs] at hnd hmo
        generalize tailM ops = n at *
        generalize masksM ops = ms at *
        have hlen : (ops.toList.take n).length = n := by simp; omega
        obtain ⟨h1, h2, _, _, h3⟩ := calmRun_sound (P := P) htt hcall (ops.toList.take n) 0 _ c (fun j hj => by
          rw [hlen] at hj
          rw [List.getElem?_take_of_lt hj]
          simp) rfl rfl hc
        rw [hlen, Nat.zero_add] at h1 h2
        obtain ⟨g1, g2, g3⟩ := h3 (fun k => c.vals.getD k .any) (fun k => c.nws.getD k []) (fun k hk => by
          rw [hlen, Nat.zero_add] at hk
          have e1 : k < c.vals.length := by omega
          have e2 : k < c.nws.length := by omega
          simp [e1, e2]) rfl rfl
        rw [hlen, Nat.zero_add] at g1 g2 g3
        refine drawn_region (n := n) (M := fun i k => (ms.getD i 0).testBit k) (v := fun k => c.vals.getD k .any) (nw := fun k => c.nws.getD k []) hm ⟨pl, fun i o ho hi => (g3 i o (Nat.zero_le _) hi ho).1, fun k hk id b hin => ?_, fun i o ho hi => (g3 i o (Nat.zero_le _) hi ho).2.1, ?_⟩ (l := l) (fun k hk => List.contains_iff_mem.1 hk) hnd (fun i hi => ⟨movOk_movable (hmo i hi).2, (hmv i hi).1, fun k => by rw [(hmv i hi).2]; exact Nat.zero_testBit k⟩) hS hQ
        · exact (g3 k _ (Nat.zero_le _) hk (Array.getElem?_eq_getElem (by omega))).2.2 id b hin
        · have : calmEnd ops n s (fun k => c.vals.getD k .any) (fun k => c.nws.getD k []) = ⟨c.env, c.heap, s.nx + n * RR⟩ := by
            unfold calmEnd
            rw [g1, g2]
          rw [this]
          exact seqRun_sound htt hcall h
      · cases h
    · cases h
  · rename_i hd
    have hd : draw = false := by simpa using hd
    subst hd
    exact chain_region (seqRun_sound htt hcall h) hS hQ

/-! The same, quicker to run -/

theorem aop_congr {tt : TT} {ρ ρ' : Operand → AVal} {H : Heap} {m : Nat} (op : Op) (h : ∀ x ∈ op.operands, ρ x = ρ' x) : aop tt ρ H m op = aop tt ρ' H m op := by
  have pairs : ∀ ps : Array (Nat × Operand), (∀ x ∈ ps.map (·.2), ρ x = ρ' x) → (ps.toList.map fun p => (p.1, ρ p.2)) = (ps.toList.map fun p => (p.1, ρ' p.2)) := fun ps hp =>
    List.map_congr_left fun p hm => by
      rw [hp p.2 (Array.mem_map.2 ⟨p, by simpa using hm, rfl⟩)]
  have many : ∀ xs : Array Operand, (∀ x ∈ xs, ρ x = ρ' x) → xs.toList.map ρ = xs.toList.map ρ' := fun xs hp => List.map_congr_left fun x hx => hp x (by simpa using hx)
  cases op <;> simp only [Op.operands] at h <;> simp only [aop]
  case build t ps => rw [pairs ps fun x hx => h x (by simpa using hx)]
  case buildSlice t n ps => rw [pairs ps fun x hx => h x (by simpa using hx)]
  case makeFunc fn first captured =>
    cases fn <;> simp only [aop]
    rw [many captured fun x hx => h x (by simp [hx])]
  case slice t x lo hi mx => cases lo <;> cases hi <;> cases mx <;> simp_all
  case call c =>
    obtain ⟨callee, args, argTypes⟩ := c
    cases callee <;> simp only [aop]
    rw [many args fun x hx => h x (by simp [Call.operands, hx])]
  case next it b => cases b <;> simp_all [aop]
  all_goals (first | rfl | (simp_all; done))

theorem evE_only [Syms] {ops : Array Oper} {o : Oper} {env : Env} {x : Operand} (hx : x ∈ o.op.operands) : evE (env.only (o.looksAt ops)) x = evE env x := by
  cases x with
  | tmp t =>
    show (env.only (o.looksAt ops)).get t = env.get t
    rw [Env.only_get, if_pos]
    have : t ∈ o.looksAt ops := List.mem_append_left _ (List.mem_filterMap.2 ⟨.tmp t, by simpa using hx, rfl⟩)
    simpa using this
  | _ => rfl

theorem wantedA_only [Syms] {ops : Array Oper} {o : Oper} {env : Env} : wantedA ops (env.only (o.looksAt ops)) o = wantedA ops env o := by
  unfold wantedA
  cases hg : o.guard with
  | none => rfl
  | some g =>
    obtain ⟨j, want⟩ := g
    simp only
    cases hd : (ops[j]?).bind (·.dst) with
    | none => rfl
    | some d =>
      simp only
      have : d ∈ o.looksAt ops := List.mem_append_right _ (by rw [hg]; simp [hd])
      rw [Env.only_get, if_pos (by simpa using this)]

theorem calmOp_only [Syms] {call : CallF} {tt : TT} {ops : Array Oper} {o : Oper} {env : Env} {Hv : Heap} {m : Nat} : calmOp call tt ops o (env.only (o.looksAt ops)) Hv m = calmOp call tt ops o env Hv m := by
  unfold calmOp
  rw [wantedA_only, aop_congr o.op (fun x hx => evE_only hx)]
  cases hc : asCall o.op with
  | none => rfl
  | some p =>
    obtain ⟨fo, args⟩ := p
    obtain ⟨at_, ho⟩ := asCall_spec hc
    have h1 : evE (env.only (o.looksAt ops)) fo = evE env fo := evE_only (by rw [ho]; simp [Op.operands, Call.operands])
    have h2 : args.toList.map (evE (env.only (o.looksAt ops))) = args.toList.map (evE env) := List.map_congr_left fun x hx => evE_only (by rw [ho]; simp [Op.operands, Call.operands]; exact .inr (by simpa using hx))
    dsimp only
    rw [h1, h2]

/-- What was made, none left out but the empty. -/
def visS (H0 : Heap) (m : Nat) : List (Nat × List (Nat × Blk)) → Heap
  | [] => H0
  | (k, nw) :: l => if m.testBit k then visS (addNews H0 nw) m l else visS H0 m l
def sparse : Nat → List (List (Nat × Blk)) → List (Nat × List (Nat × Blk))
  | _, [] => []
  | k, [] :: l => sparse (k + 1) l
  | k, nw :: l => (k, nw) :: sparse (k + 1) l
theorem visS_eq {m : Nat} : ∀ {l : List (List (Nat × Blk))} {k : Nat} {H0 : Heap}, visS H0 m (sparse k l) = visL H0 m k l
  | [], _, _ => rfl
  | [] :: l, k, H0 => by
    simp only [sparse, visL, addNews, List.foldl_nil, ite_self]
    exact visS_eq
  | (x :: nw) :: l, k, H0 => by
    simp only [sparse, visL, visS]
    split <;> exact visS_eq
theorem sparse_snoc (nw : List (Nat × Blk)) : ∀ (l : List (List (Nat × Blk))) (k : Nat), sparse k (l ++ [nw]) = sparse k l ++ (match nw with | [] => [] | x :: y => [(k + l.length, x :: y)])
  | [], k => by cases nw <;> simp [sparse]
  | [] :: l, k => by
    simp only [List.cons_append, sparse, sparse_snoc nw l (k + 1), List.length_cons]
    rw [show k + 1 + l.length = k + (l.length + 1) by omega]
  | (x :: y) :: l, k => by
    simp only [List.cons_append, sparse, sparse_snoc nw l (k + 1), List.length_cons]
    rw [show k + 1 + l.length = k + (l.length + 1) by omega]

def calmRunF (call : CallF) (tt : TT) (N : Nat) (ops : Array Oper) (ms : List Nat) (s : St) (l : List Oper) : Nat → Env → Heap → List (Nat × List (Nat × Blk)) → Option (Env × Heap) :=
  @List.rec Oper (fun _ => Nat → Env → Heap → List (Nat × List (Nat × Blk)) → Option (Env × Heap)) (fun _ e h _ => some (e, h))
    (fun o _ ih i e h sp => @Bool.rec (fun _ => Option (Env × Heap)) none (
      match calmOp call tt ops o e (visS s.heap (ms.getD i 0) sp) (s.nx + i * RR) with
      | some (v, []) => ih (i + 1) (e.put o.dst v) h sp
      | some (v, x :: y) => ih (i + 1) (e.put o.dst v) (addNews h (x :: y)) (sp ++ [(i, x :: y)])
      | none => none) (dstOk N o.dst)) l

theorem calmRunF_eq [Syms] {call : CallF} {tt : TT} {N : Nat} {ops : Array Oper} {ms : List Nat} {s : St} : ∀ (l : List Oper) (i : Nat) (c : CalmSt) (e' : Env) (h' : Heap), c.nws.length = i → calmRunF call tt N ops ms s l i c.env c.heap (sparse 0 c.nws) = some (e', h') →
    ∃ c', calmRun call tt N ops ms s i l c = some c' ∧ c'.env = e' ∧ c'.heap = h'
  | [], i, c, e', h', _, h => by
    have h : some (c.env, c.heap) = some (e', h') := h
    cases h
    exact ⟨c, rfl, rfl, rfl⟩
  | o :: l, i, c, e', h', hlen, h => by
    have h : @Bool.rec (fun _ => Option (Env × Heap)) none (
      match calmOp call tt ops o c.env (visS s.heap (ms.getD i 0) (sparse 0 c.nws)) (s.nx + i * RR) with
      | some (v, []) => calmRunF call tt N ops ms s l (i + 1) (c.env.put o.dst v) c.heap (sparse 0 c.nws)
      | some (v, x :: y) => calmRunF call tt N ops ms s l (i + 1) (c.env.put o.dst v) (addNews c.heap (x :: y)) (sparse 0 c.nws ++ [(i, x :: y)])
      | none => none) (dstOk N o.dst) = some (e', h') := h
    simp only [calmRun]
    cases hd : dstOk N o.dst with
    | false => rw [hd] at h; cases h
    | true =>
      rw [hd] at h
      simp only [if_true]
      rw [calmOp_only, ← visS_eq]
      split at h
      · rename_i v hop
        rw [hop]
        simp only
        exact calmRunF_eq l (i + 1) ⟨c.vals ++ [v], c.nws ++ [[]], c.env.put o.dst v, addNews c.heap []⟩ e' h' (by simp [hlen]) (by
          simp only [sparse_snoc, List.append_nil]
          exact h)
      · rename_i v x y hop
        rw [hop]
        simp only
        exact calmRunF_eq l (i + 1) ⟨c.vals ++ [v], c.nws ++ [x :: y], c.env.put o.dst v, addNews c.heap (x :: y)⟩ e' h' (by simp [hlen]) (by
          simp only [sparse_snoc, Nat.zero_add, hlen]
          exact h)
      · cases h

def regionRunF (call : CallF) (tt : TT) (N : Nat) (ops : Array Oper) (draw : Bool) (s : St) : Option St :=
  @Bool.rec (fun _ => Option St) (seqRun call tt N ops ops.toList s)
    (@Bool.rec (fun _ => Option St) none (
      match calmRunF call tt N ops (masksM ops) s (ops.toList.take (tailM ops)) 0 s.env s.heap [] with
      | some (e, h) => seqRun call tt N ops (ops.toList.drop (tailM ops)) ⟨e, h, s.nx + tailM ops * RR⟩
      | none => none) (planOk ops (masksM ops) (mvs ops) (tailM ops))) draw

theorem regionRunF_eq [Syms] {call : CallF} {tt : TT} {N : Nat} {ops : Array Oper} {draw : Bool} {s s' : St} (h : regionRunF call tt N ops draw s = some s') : regionRun call tt N ops draw s = some s' := by
  unfold regionRunF at h
  unfold regionRun
  cases draw with
  | false => exact h
  | true =>
    simp only [if_true]
    cases hp : planOk ops (masksM ops) (mvs ops) (tailM ops) with
    | false => rw [hp] at h; cases h
    | true =>
      rw [hp] at h
      simp only [if_true]
      simp only at h
      split at h
      · rename_i e h' hc
        obtain ⟨c', h1, h2, h3⟩ := calmRunF_eq (s := s) _ 0 ⟨[], [], s.env, s.heap⟩ e h' rfl hc
        rw [h1]
        simp only [h2, h3]
        exact h
      · cases h

end Go.Av
