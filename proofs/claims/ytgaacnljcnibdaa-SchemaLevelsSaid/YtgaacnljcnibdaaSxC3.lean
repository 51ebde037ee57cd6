/-
  A region that draws its order, walked in every order; operations that hang on no world are taken first. Over every program.
-/
import Derived.Test.YtgaacnljcnibdaaSxC2
import Derived.OrdersHeld
set_option linter.unusedVariables false
set_option linter.unusedSimpArgs false
noncomputable section
namespace Go.Av

section
variable {P : Program} {tt : TT} {ι : Inj}

/-- What is written no more lies there. -/
def Fz (ι : Inj) (w : World) : Prop := ∀ g cs, ι.fz g = some cs → ∃ e z, w.heap[g]? = some (.cells cs e z)

/-- May an operation be taken first? -/
def firstOp0 (ρ : Operand → AVal) : Op → Bool
  | .move _ | .assign _ => true
  | .indexAddr _ x _ => match ρ x with | .vs _ _ => true | _ => false
  | .fieldAddr _ x _ => match ρ x with | .vp _ _ => true | _ => false
  | .load _ x => match ρ x with | .vp _ _ => true | _ => false
  | _ => false

def firstOp (ρ : Operand → AVal) (op : Op) : Bool := firstOp0 (fun x => (ρ x).un) op
theorem first_rows {tt : TT} {ρ : Operand → AVal} {m : Nat} {op : Op} {r : Res} (h : firstOp ρ op = true) (ha : aop tt ρ [] m op = some r) : firstOp0 ρ op = true := by
  cases op <;> first | rfl | exact h | skip
  case indexAddr t x ix =>
    simp only [firstOp, firstOp0] at h ⊢
    simp only [aop, Option.map_eq_some_iff] at ha
    obtain ⟨v, hv, _⟩ := ha
    cases hx : ρ x with
    | vt sz n f =>
      rw [hx] at hv
      unfold aindexAddr at hv
      split at hv <;> simp_all
    | _ => first | (rw [hx]; rw [hx] at h; exact h) | (rw [hx] at h; cases h) | simp_all [AVal.un]
  case fieldAddr s x f =>
    simp only [firstOp, firstOp0] at h ⊢
    cases hx : ρ x <;> simp only [hx] at h <;> first | rfl | exact h | cases h
  case load t x =>
    simp only [firstOp, firstOp0] at h ⊢
    cases hx : ρ x <;> simp only [hx] at h <;> first | rfl | exact h | cases h
theorem first_sound [Syms] (htt : TT.ok P tt) {ρ : Operand → AVal} {σ : Operand → Value} (hev : ∀ x, RelV ι (ρ x) (σ x)) {o : Oper} {m : Nat} {v : AVal} (hf : firstOp0 ρ o.op = true) (h : aop tt ρ [] m o.op = some (.val v)) :
    ∃ u, RelV ι v u ∧ ∀ w, Fz ι w → (execOp σ o).run P w = .ok (.value u) w := by
  unfold execOp
  cases ho : o.op <;> rw [ho] at hf h <;> simp only [firstOp0] at hf <;> simp only [aop] at h <;> simp only
  case move x => cases h; exact ⟨σ x, hev x, fun w _ => rfl⟩
  case assign x => cases h; exact ⟨σ x, hev x, fun w _ => rfl⟩
  case indexAddr t x ix =>
    split at hf
    rotate_left
    · cases hf
    rename_i sz rows hx
    rw [Option.map_eq_some_iff] at h
    obtain ⟨z, hz, he⟩ := h
    cases he
    have hxv := hev x
    rw [hx] at hz hxv
    unfold aindexAddr at hz
    split at hz
    · cases ‹AVal.vs _ _ = AVal.slice _ _ _ _ _›
    · rename_i sz' rows' kk iv hty he1 he2
      cases he1
      have hyv := hev ix
      rw [he2] at hyv
      obtain ⟨d, i, hd, hi, hk, _⟩ := tt_at htt hty
      obtain rfl := (fits_of hk).2.2.2.1 _ rfl
      split at hz
      · rename_i ety hety
        obtain ⟨ed, ei, hed, hei, hek, hes, _⟩ := tt_at htt hety
        split at hz
        · rename_i hc
          obtain ⟨h0, h1, h2⟩ := hc
          cases hz
          have hyv := hyv.of_int
          obtain ⟨gg, o', c, cs, g1, g2, g3, g4, g5, g6, g7, hxe⟩ := hxv.of_vs (fun e => by rw [e, List.length_nil] at h1; omega)
          have hlt : iv.toNat < rows.length := by omega
          have hrow : rows[iv.toNat]? = some (rows.getD iv.toNat []) := by simp [hlt]
          have hlen := g5 _ _ hrow
          have hmul : iv.toNat * sz + sz ≤ rows.length * sz := by
            have := Nat.mul_le_mul_right sz (show iv.toNat + 1 ≤ rows.length by omega)
            rwa [Nat.add_mul, Nat.one_mul] at this
          refine ⟨_, .vp _ 0 gg (o' + iv.toNat * sz) cs g1 (by omega) (fun q v hq hv => g6 iv.toNat q v hlt (by omega) hv) (fun q x v hq hv => g7 iv.toNat q _ x v hrow hq hv), fun w _ => ?_⟩
          have hcond := And.intro h0 h1
          rw [hxe, hyv]
          simp only [Instr.indexAt, Sem.run_bind, asIntOf, Sem.run_pure, run_underlying hd, Result.andThen_ok, hcond, and_self, if_true, size_of hei, addr_add, hes, h2, Nat.add_zero]
        · cases hz
      · cases hz
    · cases ‹AVal.vs _ _ = AVal.ptr _ _ _›
    · cases hz
  case fieldAddr s x f =>
    split at hf
    rotate_left
    · cases hf
    rename_i row j hx
    rw [Option.map_eq_some_iff] at h
    obtain ⟨z, hz, he⟩ := h
    cases he
    have hxv := hev x
    rw [hx] at hz hxv
    unfold afieldAddr at hz
    split at hz
    · cases ‹AVal.vp _ _ = AVal.ptr _ _ _›
    · rename_i row' j' hty he1
      cases he1
      obtain ⟨d, i, hd, hi, hk, _⟩ := tt_at htt hty
      obtain ⟨gs, rfl, rfl⟩ := (fits_of hk).2.2.2.2.2.2 _ rfl
      split at hz
      · rename_i off t ht
        rw [List.getElem?_map, Option.map_eq_some_iff] at ht
        obtain ⟨g, hg, he⟩ := ht
        obtain ⟨e1, e2⟩ := Prod.mk.inj he
        subst e1; subst e2
        split at hz
        · rename_i fty hfty
          obtain ⟨fd, fi, hfd, hfi, hfk, hfs, _⟩ := tt_at htt hfty
          split at hz
          · cases hz
          · rename_i hne
            cases hz
            obtain ⟨gg, b, cs, f1, f2, f3, f4, hxe⟩ := hxv.of_vp
            have hg' : gs[f]? = some g := by simpa using hg
            refine ⟨_, .vp _ _ gg b cs f1 f2 f3 f4, fun w _ => ?_⟩
            have hne' : ¬ fi.size = 0 := by omega
            rw [hxe]
            simp only [Instr.fieldAt, Sem.run_bind, run_underlying hd, Result.andThen_ok, hg', Instr.sureAddr, Sem.run_pure, fieldPlace, size_of hfi, hne', if_false, addr_add, Nat.add_assoc]
        · cases hz
      · cases hz
    · cases hz
  case load t x =>
    split at hf
    rotate_left
    · cases hf
    rename_i row j hx
    rw [Option.map_eq_some_iff] at h
    obtain ⟨z, hz, he⟩ := h
    cases he
    have hxv := hev x
    rw [hx] at hz hxv
    simp only [aload] at hz
    obtain ⟨gg, b, cs, f1, f2, f3, f4, hxe⟩ := hxv.of_vp
    rw [hxe]
    split at hz
    · rename_i ty hty
      obtain ⟨d, i, hd, hi, hk, hsz, _⟩ := tt_at htt hty
      have cell : ∀ (q : Nat) (x : AVal), row[q]? = some x → ∃ v, cs[b + q]? = some v ∧ RelV ι x v := by
        intro q x hq
        have hlt := (List.getElem?_eq_some_iff.1 hq).1
        have hv : cs[b + q]? = some (cs[b + q]'(by omega)) := Array.getElem?_eq_getElem _
        exact ⟨_, hv, (f4 q x _ hq hv).mono ι.bare_le⟩
      split at hz
      · rename_i ha
        split at hz
        · rename_i hle
          cases hz
          obtain ⟨us, hus, hc⟩ := pick_list (ι := ι) (Pr := fun q v => cs[b + j + q]? = some v) ((row.drop j).take ty.size) 0 (fun q x hq => by
            have hlt : q < ty.size := by
              have := (List.getElem?_eq_some_iff.1 hq).1
              simp at this; omega
            rw [List.getElem?_take_of_lt hlt, List.getElem?_drop] at hq
            obtain ⟨v, hv, hr⟩ := cell _ x hq
            refine ⟨v, ?_, hr⟩
            rw [← hv]
            congr 1
            omega)
          refine ⟨.agg ⟨us⟩, .mk_agg hus, fun w hS => ?_⟩
          obtain ⟨e, fz, hw⟩ := hS gg cs f1
          have hlen : us.length = i.size := by
            rw [← hus.1, hsz]; simp; omega
          have hload := run_loadCells_list (P := P) w ⟨gg, b + j, none⟩ us (fun q v hq => by
            rw [addr_add, cell_of_row w gg _ cs e fz hw]; simpa using hc q v hq)
          rw [hlen] at hload
          simp only [Instr.loadAt, Instr.sureAddr, Sem.run_bind, Sem.run_pure, Result.andThen_ok, loadVar, isAgg_of hd hk, ha, if_true, size_of hi, hload]
        · cases hz
      · rename_i ha
        have ha : isAggK ty.kd = false := by simpa using ha
        obtain ⟨u, hv, hr⟩ := cell j _ hz
        refine ⟨u, hr, fun w hS => ?_⟩
        obtain ⟨e, fz, hw⟩ := hS gg cs f1
        have hcell : w.cell? ⟨gg, b + j, none⟩ = some u := by rw [cell_of_row w gg _ cs e fz hw]; exact hv
        simp only [Instr.loadAt, Instr.sureAddr, Sem.run_bind, Sem.run_pure, Result.andThen_ok, loadVar, isAgg_of hd hk, ha, Bool.false_eq_true, if_false, run_load, hcell]
    · cases hz
  all_goals cases hf
end

theorem wpAnyH_mono {P : Program} {md : Region.Mode} {ops : Array Oper} {Q : Exit → Act → World → Prop} {S S' : World → Prop} (hS : ∀ w, S w → S' w) : ∀ (fuel : Nat) (listed : Array Bool) (a : Act) (w : World), wpAnyH P md ops Q S fuel listed a w → wpAnyH P md ops Q S' fuel listed a w
  | 0, _, _, _, h => h
  | fuel + 1, _, _, _, h => ⟨h.1, fun i hi => wpOp_mono (fun a' w' h' => ⟨hS _ h'.1, wpAnyH_mono hS fuel _ a' w' h'.2⟩) (h.2 i hi)⟩

inductive NoSel (ops : Array Oper) : Prop where
  | mk (h : (ops.all fun o => match o.op with | .select _ _ => false | _ => true) = true)
def apartB (ops : Array Oper) (listed : Array Bool) (i : Nat) (o : Oper) : Bool :=
  (List.range ops.size).all fun j => Nat.beq j i || listed.getD j true || (match ops[j]? with | some oj => (oj.after.any fun e => Region.binds .any e && Nat.beq e.on i) || o.apart ops oj | none => true)
inductive Apart (ops : Array Oper) (listed : Array Bool) (i : Nat) (o : Oper) : Prop where
  | mk (h : apartB ops listed i o = true)

/-- The first of some that may be taken first. -/
def firstOf (ops : Array Oper) (e : Env) : List Nat → Option (Nat × Oper)
  | [] => none
  | i :: l => match ops[i]? with
    | some o => match o.guard with
      | none => @Bool.rec (fun _ => Option (Nat × Oper)) (firstOf ops e l) (some (i, o)) (firstOp (evE e) o.op)
      | some _ => firstOf ops e l
    | none => firstOf ops e l
theorem firstOf_mem {ops : Array Oper} {e : Env} : ∀ {l : List Nat} {i : Nat} {o : Oper}, firstOf ops e l = some (i, o) → i ∈ l ∧ ops[i]? = some o ∧ o.guard = none ∧ firstOp (evE e) o.op = true
  | [], i, o, h => by cases h
  | k :: l, i, o, h => by
    unfold firstOf at h
    split at h
    · rename_i o' ho
      split at h
      · rename_i hg
        cases hf : firstOp (evE e) o'.op with
        | true =>
          rw [hf] at h
          cases h
          exact ⟨List.mem_cons_self .., ho, hg, hf⟩
        | false =>
          rw [hf] at h
          obtain ⟨h1, h2⟩ := firstOf_mem (l := l) h
          exact ⟨List.mem_cons_of_mem _ h1, h2⟩
      · obtain ⟨h1, h2⟩ := firstOf_mem h
        exact ⟨List.mem_cons_of_mem _ h1, h2⟩
    · obtain ⟨h1, h2⟩ := firstOf_mem h
      exact ⟨List.mem_cons_of_mem _ h1, h2⟩

/-- For each of some. -/
def eachT (p : Nat → Prop) (l : List Nat) : Prop := @List.rec Nat (fun _ => Prop) True (fun i t ih => @List.rec Nat (fun _ => Prop) (p i) (fun _ _ _ => p i ∧ ih) t) l
theorem eachT_one (p : Nat → Prop) (k : Nat) : eachT p [k] = p k := rfl
theorem eachT_two (p : Nat → Prop) (k k' : Nat) (l : List Nat) : eachT p (k :: k' :: l) = (p k ∧ eachT p (k' :: l)) := rfl
theorem eachT_mem {p : Nat → Prop} : ∀ {l : List Nat}, eachT p l → ∀ i ∈ l, p i
  | [], _, i, h => by cases h
  | [k], h, i, hi => by simp at hi; subst hi; exact h
  | k :: k' :: l, h, i, hi => by
    rw [eachT_two] at h
    rcases List.mem_cons.1 hi with rfl | hi
    · exact h.1
    · exact eachT_mem (l := k' :: l) h.2 i hi

/-- What may come next, by lists. -/
def readyL (ops : Array Oper) (listed : Array Bool) : List Nat :=
  (List.range ops.size).filter fun i => !listed.getD i true && ((ops[i]?).map fun o => o.after.toList.all fun e => !Region.binds .any e || listed.getD e.on false).getD false
theorem readyL_eq (ops : Array Oper) (listed : Array Bool) : readyL ops listed = Region.ready .any ops listed := by
  unfold readyL Region.ready
  simp only [Array.all_toList]
/-- A row of marks, run out. -/
def forceBs : List Bool → (List Bool → Prop) → Prop
  | [], K => K []
  | b :: l, K => forceBs l fun l => @Bool.rec (fun _ => Prop) (K (false :: l)) (K (true :: l)) b
theorem forceBs_eq : ∀ (l : List Bool) (K : List Bool → Prop), forceBs l K = K l
  | [], K => rfl
  | b :: l, K => by
    rw [forceBs, forceBs_eq l]
    cases b <;> rfl
def forceA (a : Array Bool) (K : Array Bool → Prop) : Prop := forceBs a.toList fun l => K ⟨l⟩
theorem forceA_eq (a : Array Bool) (K : Array Bool → Prop) : forceA a K = K a := by
  obtain ⟨l⟩ := a
  exact forceBs_eq l _
def anyZ (ops : Array Oper) (listed : Array Bool) (e : Env) (H : Heap) (nx : Nat) (K : Env → Heap → Nat → Prop) : Prop :=
  match readyL ops listed with
  | [] => K e H nx
  | _ :: _ => False
def anyS (ci : CallT) (tt : TT) (N : Nat) (ops : Array Oper) (ih : Array Bool → Kn → Env → Heap → Nat → (Env → Heap → Nat → Prop) → Prop) (listed : Array Bool) (kn : Kn) (e : Env) (H : Heap) (nx : Nat) (K : Env → Heap → Nat → Prop) : Prop :=
  match readyL ops listed with
    | [] => K e H nx
    | r :: rs => match firstOf ops e (r :: rs) with
      | some (i, o) => Apart ops listed i o ∧ (bif dstOk N o.dst then opT tt (evE e) [] nx o.op fun r => match r with
          | .val v => putE e o.dst v fun e => forceA (listed.setIfInBounds i true) fun listed => ih listed kn e H nx K
          | _ => False
        else False)
      | none => eachT (fun i => match ops[i]? with
          | some o => execE ci tt N ops o kn e H nx fun kn e H nx => forceA (listed.setIfInBounds i true) fun listed => ih listed kn e H nx K
          | none => False) (r :: rs)
def anyT (ci : CallT) (tt : TT) (N : Nat) (ops : Array Oper) (f : Nat) : Array Bool → Kn → Env → Heap → Nat → (Env → Heap → Nat → Prop) → Prop :=
  @Nat.rec (fun _ => Array Bool → Kn → Env → Heap → Nat → (Env → Heap → Nat → Prop) → Prop) (fun listed _ e H nx K => anyZ ops listed e H nx K) (fun _ ih listed kn e H nx K => anyS ci tt N ops ih listed kn e H nx K) f
theorem anyT_zero (ci : CallT) (tt : TT) (N : Nat) (ops : Array Oper) (listed : Array Bool) (kn : Kn) (e : Env) (H : Heap) (nx : Nat) (K : Env → Heap → Nat → Prop) : anyT ci tt N ops 0 listed kn e H nx K = anyZ ops listed e H nx K := rfl
theorem anyT_succ (ci : CallT) (tt : TT) (N : Nat) (ops : Array Oper) (f : Nat) (listed : Array Bool) (kn : Kn) (e : Env) (H : Heap) (nx : Nat) (K : Env → Heap → Nat → Prop) : anyT ci tt N ops (f + 1) listed kn e H nx K = anyS ci tt N ops (anyT ci tt N ops f) listed kn e H nx K := rfl

theorem anyT_sound [Syms] {P : Program} {ci : CallT} {tt : TT} {N : Nat} {ops : Array Oper} {Q : Exit → Act → World → Prop} (htt : TT.ok P tt) (hci : ci.ok P) (hsel : NoSel ops) (hQp : ∀ c a w, ¬ Q (.panic c) a w) : ∀ (f : Nat) (listed : Array Bool) (kn : Kn) (e : Env) (H : Heap) (nx : Nat) (K : Env → Heap → Nat → Prop),
    anyT ci tt N ops f listed kn e H nx K → ∀ (ι : Inj) (a : Act) (w : World), RelS N ι ⟨e, H, nx⟩ a w → (∀ e' H' nx' κ a' w', K e' H' nx' → RelS N κ ⟨e', H', nx'⟩ a' w' → StepN ι H nx w κ H' nx' w' → Q .normal a' w') → wpAnyH P .any ops Q (Fz ι) f listed a w
  | 0, listed, kn, e, H, nx, K, h, ι, a, w, hS, hQ => by
    rw [anyT_zero] at h
    unfold anyZ at h
    split at h
    · rename_i hr
      rw [readyL_eq] at hr
      exact ⟨hr, hQ e H nx ι a w h hS (StepN.refl ..)⟩
    · exact h.elim
  | f + 1, listed, kn, e, H, nx, K, h, ι, a, w, hS, hQ => by
    have ih := anyT_sound (N := N) htt hci hsel hQp (Q := Q) f
    have hfzw : Fz ι w := fun g cs hg => (hS.heap.fz g cs hg).1
    rw [anyT_succ] at h
    unfold anyS at h
    simp only [forceA_eq] at h
    split at h
    · rename_i hr
      rw [readyL_eq] at hr
      exact ⟨fun _ => hQ e H nx ι a w h hS (StepN.refl ..), fun i hi => by rw [hr] at hi; cases hi⟩
    · rename_i r rs hr
      rw [readyL_eq] at hr
      split at h
      · rename_i i o hfo
        obtain ⟨hmem, ho, hg, hf⟩ := firstOf_mem hfo
        obtain ⟨⟨hap⟩, h⟩ := h
        cases hd : dstOk N o.dst with
        | false => rw [hd] at h; exact h.elim
        | true =>
        rw [hd] at h
        simp only [cond_true] at h
        have hevE : ∀ x, RelV ι (evE e x) (a.eval x) := fun x => by have := hS.ev x; rwa [evE_eq] at this
        obtain ⟨res, h2, hval⟩ : ∃ res : Res, (match res with
          | .val v => putE e o.dst v fun e => anyT ci tt N ops f (listed.setIfInBounds i true) kn e H nx K
          | _ => False) ∧ ∀ v, res = .val v → ∃ u, RelV ι v u ∧ ∀ w, Fz ι w → (execOp a.eval o).run P w = .ok (.value u) w := by
          rcases opT_sound h with ⟨r, h1, h2⟩ | ⟨r', r, h1, h2, h3⟩
          · exact ⟨r, h2, fun v hv => by subst hv; exact first_sound (P := P) htt hevE (first_rows hf h1) h1⟩
          · refine ⟨r, h3, fun v hv => ?_⟩
            subst hv
            cases r' with
            | val v' =>
              obtain ⟨u, g1, g2⟩ := first_sound (P := P) (ι := ι) (ρ := fun x => (evE e x).un) htt (fun x => (hevE x).un) hf h1
              exact ⟨u, h2 _ _ g1, g2⟩
            | new b v' => exact h2.elim
            | upd b v' => exact h2.elim
        split at h2
        rotate_left
        · exact h2.elim
        rename_i v
        rw [putE_eq] at h2
        obtain ⟨u, hu, hrun⟩ := hval v rfl
        have hready : i ∈ Region.ready .any ops listed := by rw [hr]; exact hmem
        have hselp : ∀ (j : Nat) (o : Oper) cs b, ops[j]? = some o → o.op ≠ .select cs b := by
          intro j oj cs b hoj he
          have := hsel.1
          rw [Array.all_eq_true'] at this
          have := this oj (by obtain ⟨hlt, rfl⟩ := Array.getElem?_eq_some_iff.1 hoj; exact Array.getElem_mem hlt)
          rw [he] at this
          cases this
        refine wpAnyH_first ho hselp (fun c a w h => (hQp _ _ _ h).elim) f listed a w (fun j oj hoj hne hun hnot => ?_) hready (.inl ⟨by simp [Region.wanted, hg], hrun⟩) hfzw ?_
        · unfold apartB at hap
          rw [List.all_eq_true] at hap
          have hj := hap j (List.mem_range.2 (Array.getElem?_eq_some_iff.1 hoj).1)
          rw [hoj, hun, beq_ff hne] at hj
          simp only [Bool.false_or, Bool.or_eq_true] at hj
          rcases hj with hj | hj
          · rw [Array.any_eq_true'] at hj
            obtain ⟨ed, hed, hb⟩ := hj
            simp only [Bool.and_eq_true] at hb
            exact absurd (Nat.eq_of_beq_eq_true hb.2) (hnot ed hed hb.1)
          · exact hj
        · obtain ⟨g1, g2⟩ := env_put hS (Inj.le_refl ι) hd hu
          exact ih _ kn _ H nx K h2 ι _ w ⟨by rw [put_defers]; exact hS.defers, g1, g2, hS.heap, hS.bound⟩ hQ
      · refine ⟨fun hno => (by rw [hr] at hno; cases hno), fun i hi => ?_⟩
        rw [hr] at hi
        have hi := eachT_mem h i hi
        split at hi
        rotate_left
        · exact hi.elim
        rename_i o ho
        have hx : execT ci tt N ops o kn ⟨e, H, nx⟩ (fun kn' s' => anyT ci tt N ops f (listed.setIfInBounds i true) kn' s'.env s'.heap s'.nx K) := by rw [← execE_eq]; exact hi
        have := execT_sound htt hci hx ι a w (fun a' w' => Fz ι w' ∧ wpAnyH P .any ops Q (Fz ι) f (listed.setIfInBounds i true) a' w') Q hS (fun s' κ a' w' ⟨kn', hk⟩ hS' hst => ?_)
        · unfold wpOp
          rw [ho]
          exact this
        · have hfz' : ∀ w'', Fz κ w'' → Fz ι w'' := fun w'' hw g cs hg => hw g cs (hst.st.le.2 g cs hg)
          exact ⟨hfz' w' fun g cs hg => (hS'.heap.fz g cs hg).1, wpAnyH_mono hfz' f _ a' w' (ih _ kn' s'.env s'.heap s'.nx K hk κ a' w' hS' fun e' H' nx' μ a'' w'' hk' hS'' hst' => hQ e' H' nx' μ a'' w'' hk' hS'' (hst.trans hst'))⟩

/-! 'x == nil' of a slice whose elements alone are known: it is one or the other -/
theorem vnil_sound [Syms] {P : Program} {tt : TT} {ι : Inj} {w : World} (htt : TT.ok P tt) {t : TypeId} {sz : Nat} {rows : List (List AVal)} {v u : Value} {ty : Ty} {e : TypeId} (hty : tt t = some ty) (hk : ty.kd = .slice e) (hx : RelV ι (.vs sz rows) v) (hy : RelV ι .nils u) (ox oy : Operand) :
    ∃ b, (rows ≠ [] → b = false) ∧ (do eqGuard .eql t ox oy v u; binOp .eql t v u : Sem Value).run P w = .ok (.bool b) w ∧ (do eqGuard .neq t ox oy v u; binOp .neq t v u : Sem Value).run P w = .ok (.bool (!b)) w := by
  obtain ⟨d, i, hd, _, hf, _⟩ := tt_at htt hty
  obtain rfl := (fits_of hf).2.2.2.1 _ hk
  cases hy
  have key : ∀ (a : Option Addr) (n c : Nat), ∃ b, (a.isSome = true → b = false) ∧ (do eqGuard .eql t ox oy (.slice a n c) (.slice none 0 0); binOp .eql t (.slice a n c) (.slice none 0 0) : Sem Value).run P w = .ok (.bool b) w ∧ (do eqGuard .neq t ox oy (.slice a n c) (.slice none 0 0); binOp .neq t (.slice a n c) (.slice none 0 0) : Sem Value).run P w = .ok (.bool (!b)) w := by
    intro a n c
    have hg : ∀ op, (eqGuard op t ox oy (.slice a n c) (.slice none 0 0)).run P w = .ok () w := fun op => by unfold eqGuard; cases op <;> rfl
    have hE : ∀ b, (∀ d, (Op.equalIn (d + 1) t (.slice a n c) (.slice none 0 0)).run P w = .ok b w) → (binOp .eql t (.slice a n c) (.slice none 0 0)).run P w = .ok (.bool b) w ∧ (binOp .neq t (.slice a n c) (.slice none 0 0)).run P w = .ok (.bool (!b)) w := by
      intro b h
      have := eq_of_in (P := P) (w := w) (t := t) (v := .slice a n c) (u := .slice none 0 0) (b := b) h
      exact ⟨by simp only [binOp, Sem.run_bind, this, Result.andThen_ok, Sem.run_pure], by simp only [binOp, Sem.run_bind, this, Result.andThen_ok, Sem.run_pure]⟩
    cases a with
    | none =>
      obtain ⟨h1, h2⟩ := hE true (fun d => by simp only [Op.equalIn, Sem.run_bind, run_underlying hd, Result.andThen_ok, Sem.run_pure]; rfl)
      exact ⟨true, fun h => (nomatch h), by rw [Sem.run_bind, hg]; exact h1, by rw [Sem.run_bind, hg]; exact h2⟩
    | some a =>
      obtain ⟨h1, h2⟩ := hE false (fun d => by simp only [Op.equalIn, Sem.run_bind, run_underlying hd, Result.andThen_ok, Sem.run_pure])
      exact ⟨false, fun _ => rfl, by rw [Sem.run_bind, hg]; exact h1, by rw [Sem.run_bind, hg]; exact h2⟩
  cases hx with
  | vs _ _ g o c cs hf hl hm hp hr h1 h =>
    obtain ⟨b, k1, k2, k3⟩ := key (some ⟨g, o, none⟩) rows.length c
    exact ⟨b, fun _ => k1 rfl, k2, k3⟩
  | vz _ a c hm hc =>
    obtain ⟨b, k1, k2, k3⟩ := key a 0 c
    exact ⟨b, fun h => absurd rfl h, k2, k3⟩

/-- Which test it is. -/
def nilAsk (tt : TT) (ρ : Operand → AVal) (o : Oper) : Option (Bool × List (List AVal)) :=
  match o.guard, o.op with
  | none, .binOp .eql t x y _ => match tt t, (ρ x).un, ρ y with | some ⟨.slice _, _, _, _⟩, .vs _ rows, .nils => some (false, rows) | _, _, _ => none
  | none, .binOp .neq t x y _ => match tt t, (ρ x).un, ρ y with | some ⟨.slice _, _, _, _⟩, .vs _ rows, .nils => some (true, rows) | _, _, _ => none
  | _, _ => none
theorem nilAsk_run [Syms] {P : Program} {tt : TT} {ι : Inj} {w : World} (htt : TT.ok P tt) {ρ : Operand → AVal} {σ : Operand → Value} (hev : ∀ x, RelV ι (ρ x) (σ x)) {o : Oper} {ng : Bool} {rows : List (List AVal)} (h : nilAsk tt ρ o = some (ng, rows)) :
    o.guard = none ∧ ∃ b, (rows ≠ [] → b = false) ∧ (execOp σ o).run P w = .ok (.value (.bool (bif ng then !b else b))) w := by
  unfold nilAsk at h
  split at h
  · rename_i t x y ty hg ho
    split at h
    · rename_i e _ _ _ _ _ hty hx hy
      cases h
      have hxv := hev x
      have hyv := hev y
      replace hxv := hxv.un
      rw [hx] at hxv
      rw [hy] at hyv
      obtain ⟨b, h1, h2, h3⟩ := vnil_sound (w := w) htt hty rfl hxv hyv x y
      refine ⟨hg, b, h1, ?_⟩
      unfold execOp
      simp only [ho]
      simp only [Sem.run_bind] at h2 ⊢
      cases hq : (eqGuard .eql t x y (σ x) (σ y)).run P w with
      | ok u w' => rw [hq] at h2; simp only [Result.andThen_ok] at h2 ⊢; rw [h2]; rfl
      | halt hlt w' => rw [hq] at h2; cases h2
    · cases h
  · rename_i t x y ty hg ho
    split at h
    · rename_i e _ _ _ _ _ hty hx hy
      cases h
      have hxv := hev x
      have hyv := hev y
      replace hxv := hxv.un
      rw [hx] at hxv
      rw [hy] at hyv
      obtain ⟨b, h1, h2, h3⟩ := vnil_sound (w := w) htt hty rfl hxv hyv x y
      refine ⟨hg, b, h1, ?_⟩
      unfold execOp
      simp only [ho]
      simp only [Sem.run_bind] at h3 ⊢
      cases hq : (eqGuard .neq t x y (σ x) (σ y)).run P w with
      | ok u w' => rw [hq] at h3; simp only [Result.andThen_ok] at h3 ⊢; rw [h3]; rfl
      | halt hlt w' => rw [hq] at h3; cases h3
    · cases h
  · cases h

/-- One operation in order. -/
def execN (c : CallT) (tt : TT) (N : Nat) (ops : Array Oper) (o : Oper) (kn : Kn) (e : Env) (H : Heap) (nx : Nat) (K : Kn → Env → Heap → Nat → Prop) : Prop :=
  match nilAsk tt (evE e) o with
  | some (ng, rows) => bif dstOk N o.dst then ∀ b : Bool, (rows ≠ [] → b = false) → putE e o.dst (.bool (bif ng then !b else b)) fun e => K kn e H nx else False
  | none => execE c tt N ops o kn e H nx K
theorem execN_sound [Syms] {P : Program} {c : CallT} {tt : TT} {N : Nat} {ops : Array Oper} {o : Oper} {kn : Kn} {e : Env} {H : Heap} {nx : Nat} {K : Kn → St → Prop} (htt : TT.ok P tt) (hc : c.ok P) (h : execN c tt N ops o kn e H nx fun kn e H nx => K kn ⟨e, H, nx⟩) : OpK P N ops o ⟨e, H, nx⟩ fun s' => ∃ kn', K kn' s' := by
  unfold execN at h
  split at h
  · rename_i ng rows hn
    cases hd : dstOk N o.dst with
    | false => rw [hd] at h; exact h.elim
    | true =>
      rw [hd] at h
      simp only [cond_true] at h
      intro ι a w C Q hS hC
      have hevE : ∀ x, RelV ι (evE e x) (a.eval x) := fun x => by have := hS.ev x; rwa [evE_eq] at this
      obtain ⟨hg, b, h1, h2⟩ := nilAsk_run (P := P) (w := w) htt hevE hn
      have hw : Region.wanted o (yielded ops a.tmps) = true := by simp [Region.wanted, hg]
      rw [hw]
      simp only [if_true]
      left
      unfold Oper.wp
      rw [h2]
      have hb := h b h1
      rw [putE_eq] at hb
      obtain ⟨g1, g2⟩ := env_put hS (Inj.le_refl ι) hd (RelV.bool (ι := ι) (bif ng then !b else b))
      exact hC _ ι _ w ⟨kn, hb⟩ ⟨by rw [put_defers]; exact hS.defers, g1, g2, hS.heap, hS.bound⟩ (StepN.refl ..)
  · rw [execE_eq] at h
    exact execT_sound htt hc h
def seqN (c : CallT) (tt : TT) (N : Nat) (ops : Array Oper) : List Oper → Kn → Env → Heap → Nat → (Env → Heap → Nat → Prop) → Prop
  | [], _, e, H, nx, K => K e H nx
  | o :: l, kn, e, H, nx, K => execN c tt N ops o kn e H nx fun kn e H nx => seqN c tt N ops l kn e H nx K
theorem seqN_sound [Syms] {P : Program} {c : CallT} {tt : TT} {N : Nat} {ops : Array Oper} {K : Env → Heap → Nat → Prop} {Q : Exit → Act → World → Prop} (htt : TT.ok P tt) (hc : c.ok P) : ∀ (l : List Oper) (k : Nat) (kn : Kn) (e : Env) (H : Heap) (nx : Nat) (ι : Inj) (a : Act) (w : World), (∀ j, l[j]? = ops[k + j]?) → seqN c tt N ops l kn e H nx K → RelS N ι ⟨e, H, nx⟩ a w →
    (∀ e' H' nx' κ a' w', K e' H' nx' → RelS N κ ⟨e', H', nx'⟩ a' w' → StepN ι H nx w κ H' nx' w' → Q .normal a' w') → wpOps P ops Q (List.range' k l.length) a w
  | [], k, kn, e, H, nx, ι, a, w, _, h, hS, hQ => hQ e H nx ι a w h hS (StepN.refl ..)
  | o :: l, k, kn, e, H, nx, ι, a, w, hl, h, hS, hQ => by
    have ho : ops[k]? = some o := by simpa using (hl 0).symm
    rw [List.length_cons, List.range'_succ]
    simp only [wpOps, ho]
    have h : execN c tt N ops o kn e H nx fun kn e H nx => (fun (kn : Kn) (s : St) => seqN c tt N ops l kn s.env s.heap s.nx K) kn ⟨e, H, nx⟩ := h
    refine execN_sound (K := fun kn s => seqN c tt N ops l kn s.env s.heap s.nx K) htt hc h ι a w _ Q hS (fun s1 κ a' w' ⟨kn1, h1⟩ hS' hst => ?_)
    exact seqN_sound htt hc l (k + 1) kn1 s1.env s1.heap s1.nx κ a' w' (fun j => by have := hl (j + 1); simpa [Nat.add_assoc, Nat.add_comm 1 j] using this) h1 hS' (fun e' H' nx' μ a'' w'' h2 hS'' hst' => hQ e' H' nx' μ a'' w'' h2 hS'' (hst.trans hst'))

/-- The region. -/
theorem any_region [Syms] {P : Program} {ci : CallT} {tt : TT} {N : Nat} (htt : TT.ok P tt) (hci : ci.ok P) (hm : P.follows .mixedOrders = true) {id : Nat} {ops : Array Oper} {e : Env} {H : Heap} {nx : Nat} {K : Env → Heap → Nat → Prop} (hsel : NoSel ops)
    (h : anyT ci tt N ops ops.size (Array.replicate ops.size false) [] e H nx K) {Q : Exit → Act → World → Prop} {ι : Inj} {a : Act} {w : World} (hS : RelS N ι ⟨e, H, nx⟩ a w) (hQ : ∀ e' H' nx' κ a' w', K e' H' nx' → RelS N κ ⟨e', H', nx'⟩ a' w' → StepN ι H nx w κ H' nx' w' → Q .normal a' w') :
    (Code.region id ops true).wp P Q a w := by
  refine Code.wp_mono (Q := fun e a w => e = .normal ∧ Q e a w) (fun _ _ _ h => h.2) ?_
  refine wp_region_any hm ?_
  have hH : RelH ι H { w with drawn := w.drawn + 1 } := ⟨fun n b hb => let ⟨L, h1, h2⟩ := hS.heap.blk n b hb; ⟨L, h1, h2.keep (Inj.le_refl ι) rfl⟩, hS.heap.inj, hS.heap.fz⟩
  have hst : StepN ι H nx w ι H nx { w with drawn := w.drawn + 1 } := ⟨Step.drew ι H w _, Nat.le_refl _, fun _ _ h => .inl h⟩
  exact wpAny_of_held _ _ _ _ (anyT_sound (Q := fun e a w => e = .normal ∧ Q e a w) htt hci hsel (fun c a w h => nomatch h.1) _ _ _ _ _ _ K h ι a _ ⟨hS.defers, hS.size, hS.env, hH, hS.bound⟩ fun e' H' nx' κ a' w' hk hS' hst' => ⟨rfl, hQ e' H' nx' κ a' w' hk hS' (hst.trans hst')⟩)

end Go.Av
