/-
  The abstract step of every operation is sound. Over every program.
-/
import Derived.Test.YtgaacnljcnibdaaAvP
set_option linter.unusedVariables false
set_option linter.unusedSimpArgs false
noncomputable section
namespace Go.Av

section
variable {P : Program} {tt : TT} {ι : Inj} {w : World} {H : Heap} {m : Nat}

theorem RelV.of_bool [Syms] {b : Bool} {v : Value} (h : RelV ι (.bool b) v) : v = .bool b := by cases h; rfl
theorem RelV.of_str [Syms] {s : List UInt8} {v : Value} (h : RelV ι (.str s) v) : v = .string ⟨⟨s⟩⟩ := by cases h; rfl

theorem abuiltin_sound [Syms] (htt : TT.ok P tt) (hH : RelH ι H w) (hl : Lies ι w) (hm : ι m = none) {ρ : Operand → AVal} {σ : Operand → Value} (hev : ∀ x, RelV ι (ρ x) (σ x)) {b : Builtin} {args : Array Operand} {argTypes : Array TypeId} {ty : TypeId} {consts : Array Bool} {r : Res}
    (h : abuiltin tt H m b argTypes (args.toList.map ρ) = some r) : Out ι H w m r ((builtin b argTypes ty consts (args.map σ)).run P w) := by
  obtain ⟨l⟩ := args
  have hargs : (Array.mk l).map σ = ⟨l.map σ⟩ := by simp
  rw [hargs]
  simp only at h
  unfold abuiltin at h
  split at h
  · rename_i x hx
    match l, hx with
    | [x0], hx =>
      simp only [List.map_cons, List.map_nil, List.cons.injEq, and_true] at hx
      subst hx
      rw [Option.map_eq_some_iff] at h
      obtain ⟨z, hz, rfl⟩ := h
      exact Out.of_val hH (alen_sound htt (hev _) hz)
  · rename_i s x hx
    match l, hx with
    | [s0, x0], hx =>
      simp only [List.map_cons, List.map_nil, List.cons.injEq, and_true] at hx
      obtain ⟨rfl, rfl⟩ := hx
      exact aappend_sound htt hH hl hm (hev _) (hev _) h
  · rename_i s x hx
    match l, hx with
    | [s0, x0], hx =>
      simp only [List.map_cons, List.map_nil, List.cons.injEq, and_true] at hx
      obtain ⟨rfl, rfl⟩ := hx
      rw [Option.map_eq_some_iff] at h
      obtain ⟨z, hz, rfl⟩ := h
      exact Out.of_val hH (amin2_sound (hev _) (hev _) hz)
  · rename_i s x hx
    match l, hx with
    | [s0, x0], hx =>
      simp only [List.map_cons, List.map_nil, List.cons.injEq, and_true] at hx
      obtain ⟨rfl, rfl⟩ := hx
      rw [Option.map_eq_some_iff] at h
      obtain ⟨z, hz, rfl⟩ := h
      exact Out.of_val hH (amax2_sound (hev _) (hev _) hz)
  · cases h

theorem aop_sound [Syms] (htt : TT.ok P tt) (hH : RelH ι H w) (hl : Lies ι w) (hm : ι m = none) {ρ : Operand → AVal} {σ : Operand → Value} (hev : ∀ x, RelV ι (ρ x) (σ x)) {o : Oper} {r : Res}
    (h : aop tt ρ H m o.op = some r) : Out ι H w m r ((execOp σ o).run P w) := by
  unfold execOp
  cases ho : o.op <;> rw [ho] at h <;> simp only [aop] at h <;> simp only
  case move x => cases h; exact Out.val hH rfl (hev _)
  case assign x => cases h; exact Out.val hH rfl (hev _)
  case pick c a b =>
    split at h
    · rename_i t hc
      cases h
      have hcv := hev c
      rw [hc] at hcv
      have hcv' : σ c = .bool t := hcv.of_bool
      refine Out.val (v := if t then σ a else σ b) hH ?_ ?_
      · simp only [Sem.run_bind, hcv', asBool, Sem.run_pure, Result.andThen_ok]
      · have ha := hev a
        have hb := hev b
        split
        · rename_i x y hx hy
          rw [hx] at ha
          rw [hy] at hb
          have e1 : σ a = .bool x := ha.of_bool
          have e2 : σ b = .bool y := hb.of_bool
          rw [e1, e2]
          cases t
          · exact .bool y
          · exact .bool x
        · cases t
          · exact hb
          · exact ha
    · cases h
  case alloc e =>
    split at h
    · rename_i ty hty
      split at h
      · rename_i hc
        cases h
        obtain ⟨d, i, hd, hi, hk, hsz, _, hz, _⟩ := tt_at htt hty
        obtain ⟨z, hz1, hz2⟩ := hz.resolve_right (fun e => by rw [e] at hc; simp [AVal.cells, allLeaf, AVal.leaf] at hc)
        refine box_sound (x := ty.zero) (v := z) (e := e) hH hl hm (valFits_cells hz2 hc ι) ?_
        simp only [Instr.alloc, Sem.run_bind, zero_of hi hz1, Result.andThen_ok, newVar, newRow, run_newObj, Sem.run_pure]
      · cases h
    · cases h
  case box e x =>
    split at h
    · rename_i hc
      cases h
      refine box_sound (x := ρ x) (v := σ x) (e := e) hH hl hm ((hev x).cells (by simpa [allLeaf] using hc)) ?_
      simp only [Instr.box, Sem.run_bind, Result.andThen_ok, newVar, newRow, run_newObj, Sem.run_pure]
    · cases h
  case build t parts =>
    rw [Option.map_eq_some_iff] at h
    obtain ⟨z, hz, rfl⟩ := h
    exact Out.of_val hH (abuild_sound htt hev hz)
  case buildSlice t len parts => exact abuildSlice_sound htt hH hl hm hev h
  case load t x =>
    rw [Option.map_eq_some_iff] at h
    obtain ⟨z, hz, rfl⟩ := h
    exact Out.of_val hH (aload_sound htt hH (hev _) hz)
  case store t x v =>
    rw [Option.map_eq_some_iff] at h
    obtain ⟨H', hz, rfl⟩ := h
    obtain ⟨w', h1, h2, h3⟩ := astore_sound htt hH (hev _) (hev _) hz
    exact ⟨undef, w', ι, .inr ⟨by simp only [Sem.run_bind, h1, Result.andThen_ok, Sem.run_pure], rfl⟩, .any _, h2, h3, fun _ _ h => .inl h, fun _ => rfl⟩
  case nilCheck x =>
    split at h
    · rename_i n k j hx
      cases h
      have hv := hev x
      rw [hx] at hv
      obtain ⟨L, hL, he⟩ := hv.of_ptr
      rw [he]
      exact Out.val hH rfl (.ptr _ _ _ L hL)
    · rename_i row j hx
      cases h
      have hv := hev x
      rw [hx] at hv
      obtain ⟨g, b, cs, h1, h2, h3, h4, he⟩ := hv.of_vp
      rw [he]
      exact Out.val hH rfl (.vp _ _ g b cs h1 h2 h3 h4)
    · rename_i f cs hx
      cases h
      have hv := hev x
      rw [hx] at hv
      generalize σ x = v at hv
      cases hv with
      | func _ _ vs hl2 h2 => exact Out.val hH rfl (.func _ _ vs hl2 h2)
    · cases h
  case binOp op t x y ty =>
    split at h
    · rename_i xs ys hx hy
      have hv := hev x
      have hu := hev y
      rw [hx] at hv
      rw [hy] at hu
      split at h
      · rw [Option.map_eq_some_iff] at h
        obtain ⟨b, hb, rfl⟩ := h
        obtain ⟨g1, g2, _⟩ := aggEq_sound (w := w) htt hv hu hb .eql x y
        exact Out.of_val hH ⟨.bool b, by simp only [Sem.run_bind, g1, Result.andThen_ok, g2], .bool _⟩
      · rw [Option.map_eq_some_iff] at h
        obtain ⟨b, hb, rfl⟩ := h
        obtain ⟨g1, _, g2⟩ := aggEq_sound (w := w) htt hv hu hb .neq x y
        exact Out.of_val hH ⟨.bool (!b), by simp only [Sem.run_bind, g1, Result.andThen_ok, g2], .bool _⟩
      · cases h
    · rw [Option.map_eq_some_iff] at h
      obtain ⟨z, hz, rfl⟩ := h
      exact Out.of_val hH (binop_any htt (hev x) (hev y) hz)
  case unOp op t x =>
    rw [Option.map_eq_some_iff] at h
    obtain ⟨z, hz, rfl⟩ := h
    exact Out.of_val hH (aunop_sound (hev _) hz)
  case convert src dst x => exact aconvert_sound htt hH hl hm (hev _) h
  case makeFunc fn first caps =>
    cases fn <;> simp only at h
    case func f =>
      split at h
      · rename_i h0
        cases h
        obtain ⟨l⟩ := first
        have : l = [] := List.eq_nil_of_length_eq_zero h0
        subst this
        refine Out.val (v := .func (.func f) #[] ⟨caps.toList.map σ⟩) hH ?_ ?_
        · have e : caps.map σ = ⟨caps.toList.map σ⟩ := by apply Array.ext'; simp
          have e0 : (Array.mk ([] : List Operand)).map σ = #[] := by apply Array.ext'; simp
          simp only [Instr.makeFunc, Sem.run_bind, Sem.run_pure, Result.andThen_ok, e, e0]
        · refine .func f _ _ (by simp) (fun i c v h1 h2 => ?_)
          rw [List.getElem?_map, Option.map_eq_some_iff] at h1 h2
          obtain ⟨x, hx, rfl⟩ := h1
          obtain ⟨y, hy, rfl⟩ := h2
          rw [hx] at hy
          cases hy
          exact hev x
      · cases h
    all_goals cases h
  case makeSlice t l c => exact amakeSlice_sound htt hH hl hm (hev _) (hev _) h
  case slice t x lo hi mx =>
    rw [Option.map_eq_some_iff] at h
    obtain ⟨z, hz, rfl⟩ := h
    exact Out.of_val hH (aslice_sound htt (hev _) (relO_map hev lo) (relO_map hev hi) (relO_map hev mx) hz)
  case fieldAddr s x f =>
    rw [Option.map_eq_some_iff] at h
    obtain ⟨z, hz, rfl⟩ := h
    exact Out.of_val hH (afieldAddr_sound htt (hev _) hz)
  case field s x f =>
    rw [Option.map_eq_some_iff] at h
    obtain ⟨z, hz, rfl⟩ := h
    exact Out.of_val hH (afield_sound htt (hev _) hz)
  case indexAddr t x ix =>
    rw [Option.map_eq_some_iff] at h
    obtain ⟨z, hz, rfl⟩ := h
    exact Out.of_val hH (aindexAddr_sound htt (hev _) (hev _) hz)
  case index t x ix =>
    rw [Option.map_eq_some_iff] at h
    obtain ⟨z, hz, rfl⟩ := h
    exact Out.of_val hH (aindex_sound htt (hev _) (hev _) hz)
  case range t x =>
    split at h
    · rename_i s hty hx
      cases h
      obtain ⟨d, i, hd, hi, hk, _⟩ := tt_at htt hty
      obtain rfl := (fits_of hk).2.2.1 rfl
      have hv := hev x
      rw [hx] at hv
      have he : σ x = .string ⟨⟨s⟩⟩ := hv.of_str
      refine Out.new (L := ⟨w.heap.size, 0, 0, 0⟩) (o := .stringIter ⟨⟨s⟩⟩ 0) (w' := { w with heap := w.heap.push (.stringIter ⟨⟨s⟩⟩ 0) }) (v := .pointer (some ⟨w.heap.size, 0, none⟩)) hH hl hm ?_ rfl rfl rfl rfl rfl (by simp [RelB]) (.obj m _ (Inj.put_same _ _ _))
      simp only [Instr.range, Sem.run_bind, run_underlying hd, Result.andThen_ok, he, Sem.run_pure, run_newObj]
    · cases h
  case next it s =>
    cases s <;> simp only at h
    · cases h
    · exact anext_sound hH (hev _) h
  case extract t ix =>
    split at h
    · rename_i vs hx
      rw [Option.map_eq_some_iff] at h
      obtain ⟨z, hz, rfl⟩ := h
      have hv := hev t
      rw [hx] at hv
      obtain ⟨us, he, hl2⟩ := hv.of_tup
      obtain ⟨v, h1, h2⟩ := hl2.get hz
      have h1' : (⟨us⟩ : Array Value)[ix]? = some v := by simpa using h1
      exact Out.of_val hH ⟨v, by simp only [Instr.extract, he, h1', Sem.run_pure], h2⟩
    · cases h
  case call c =>
    obtain ⟨callee, args, argTypes⟩ := c
    cases callee <;> simp only at h
    case builtin b =>
      have := abuiltin_sound (P := P) (ty := o.type) (consts := args.map fun | .const _ => true | _ => false) htt hH hl hm hev h
      simp only [resolve, invoke, Sem.run_bind, Sem.run_pure, Result.andThen_ok]
      exact this
    all_goals cases h
  all_goals (cases h; done)

end
end Go.Av
