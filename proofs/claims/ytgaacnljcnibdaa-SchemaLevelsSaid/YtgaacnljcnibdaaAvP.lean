/-
  The abstract step of an operation is sound. Over every program.
-/
import Derived.Test.YtgaacnljcnibdaaAvO
set_option linter.unusedVariables false
set_option linter.unusedSimpArgs false
noncomputable section
namespace Go.Av

section
variable {P : Program} {tt : TT} {ι : Inj} {w : World} {H : Heap} {m : Nat}

theorem alen_sound [Syms] (htt : TT.ok P tt) {argTypes : Array TypeId} {ty : TypeId} {x z : AVal} {v : Value} (hx : RelV ι x v) (h : alen tt argTypes x = some z) : ∃ r, (Builtin.len_ argTypes ty #[v]).run P w = .ok r w ∧ RelV ι z r := by
  unfold alen at h
  split at h
  · rename_i s h0
    obtain ⟨t, h1, h2⟩ := Option.bind_eq_some_iff.1 h0
    obtain ⟨d, i, hd, hi, hk, _⟩ := tt_at htt h2
    obtain rfl := (fits_of hk).2.2.1 rfl
    cases h
    cases hx
    exact ⟨.int .i64 s.length, by simp [Builtin.len_, h1, run_underlying hd, goInt, ba_size], .int _ _⟩
  · rename_i e _ _ _ h0
    obtain ⟨t, h1, h2⟩ := Option.bind_eq_some_iff.1 h0
    obtain ⟨d, i, hd, hi, hk, _⟩ := tt_at htt h2
    obtain rfl := (fits_of hk).2.2.2.1 _ rfl
    cases h
    cases hx
    exact ⟨.int .i64 0, by simp [Builtin.len_, h1, run_underlying hd, goInt], .int _ _⟩
  · rename_i e _ _ _ n off len sz cap h0
    obtain ⟨t, h1, h2⟩ := Option.bind_eq_some_iff.1 h0
    obtain ⟨d, i, hd, hi, hk, _⟩ := tt_at htt h2
    obtain rfl := (fits_of hk).2.2.2.1 _ rfl
    cases h
    obtain ⟨L, a, c, _, _, _, _, _, _, _, rfl⟩ := hx.of_slice
    exact ⟨.int .i64 len, by simp [Builtin.len_, h1, run_underlying hd, goInt], .int _ _⟩
  · rename_i e _ _ _ sz rows h0
    obtain ⟨t, h1, h2⟩ := Option.bind_eq_some_iff.1 h0
    obtain ⟨d, i, hd, hi, hk, _⟩ := tt_at htt h2
    obtain rfl := (fits_of hk).2.2.2.1 _ rfl
    cases h
    obtain ⟨a, c, rfl⟩ := hx.vs_len
    exact ⟨.int .i64 rows.length, by simp [Builtin.len_, h1, run_underlying hd, goInt], .int _ _⟩
  · rename_i e _ _ _ sz h0
    obtain ⟨t, h1, h2⟩ := Option.bind_eq_some_iff.1 h0
    obtain ⟨d, i, hd, hi, hk, _⟩ := tt_at htt h2
    obtain rfl := (fits_of hk).2.2.2.1 _ rfl
    cases h
    obtain ⟨a, rfl⟩ := hx.of_zs
    exact ⟨.int .i64 0, by simp [Builtin.len_, h1, run_underlying hd, goInt], .int _ _⟩
  · rename_i h0
    obtain ⟨t, h1, h2⟩ := Option.bind_eq_some_iff.1 h0
    obtain ⟨d, i, hd, hi, hk, _⟩ := tt_at htt h2
    obtain rfl := (fits_of hk).2.2.2.2.1 _ _ rfl
    cases h
    refine ⟨_, ?_, .int _ _⟩
    simp [Builtin.len_, h1, run_underlying hd, goInt]
  · cases h

theorem amin2_sound [Syms] {a b z : AVal} {v u : Value} (hx : RelV ι a v) (hy : RelV ι b u) (h : amin2 a b = some z) {at' : Array TypeId} {ty : TypeId} : ∃ r, (Builtin.min_ at' ty #[v, u]).run P w = .ok r w ∧ RelV ι z r := by
  unfold amin2 at h
  split at h
  · rename_i k x k' y
    cases h
    obtain rfl := hx.of_int
    obtain rfl := hy.of_int
    exact ⟨_, by simp [Builtin.min_, Builtin.min2], .int _ _⟩
  · cases h
theorem amax2_sound [Syms] {a b z : AVal} {v u : Value} (hx : RelV ι a v) (hy : RelV ι b u) (h : amax2 a b = some z) {at' : Array TypeId} {ty : TypeId} : ∃ r, (Builtin.max_ at' ty #[v, u]).run P w = .ok r w ∧ RelV ι z r := by
  unfold amax2 at h
  split at h
  · rename_i k x k' y
    cases h
    obtain rfl := hx.of_int
    obtain rfl := hy.of_int
    exact ⟨_, by simp [Builtin.max_, Builtin.max2], .int _ _⟩
  · cases h

theorem anext_sound [Syms] (hH : RelH ι H w) {x : AVal} {v : Value} {r : Res} {ty : TypeId} (hx : RelV ι x v) (h : anext H x = some r) : Out ι H w m r ((do let v ← Instr.next v true ty; pure (.value v) : Sem Next).run P w) := by
  unfold anext at h
  split at h
  · rename_i n
    split at h
    · rename_i s pos hb
      cases hx with
      | obj n L hL =>
      obtain ⟨L', hL', hB⟩ := hH.blk n _ hb
      obtain rfl : L = L' := by rw [hL] at hL'; exact Option.some.inj hL'
      simp only [RelB] at hB
      have hlt : L.g < w.heap.size := (Array.getElem?_eq_some_iff.1 hB).1
      have hget : (getObj L.g).run P w = .ok (.stringIter ⟨⟨s⟩⟩ pos) w := by simp [getObj, Sem.run, hB]
      split at h
      · rename_i hp
        cases h
        have hset : (setObj L.g (.stringIter ⟨⟨s⟩⟩ (pos + (Utf8.decode ⟨⟨s⟩⟩ pos).2))).run P w = .ok () { w with heap := w.heap.setIfInBounds L.g (.stringIter ⟨⟨s⟩⟩ (pos + (Utf8.decode ⟨⟨s⟩⟩ pos).2)) } := by simp [setObj, Sem.run, hB]
        obtain ⟨s1, s2⟩ := set_block (w' := { w with heap := w.heap.setIfInBounds L.g (.stringIter ⟨⟨s⟩⟩ (pos + (Utf8.decode ⟨⟨s⟩⟩ pos).2)) }) (b' := .iter s (pos + (Utf8.decode ⟨⟨s⟩⟩ pos).2)) hH hb rfl hL (by simp)
          (fun g hg => by simp [Array.getElem?_setIfInBounds, Ne.symm hg]) rfl rfl rfl (by simp [RelB, hlt]) rfl
        have hp' : pos < (ByteArray.mk ⟨s⟩).size := hp
        refine Out.of_run (κ := ι) (v := .tuple #[.bool true, .int .i64 pos, .int .i32 (Utf8.decode ⟨⟨s⟩⟩ pos).1]) ?_ ?_ s1 s2 (fun _ _ h => .inl h)
        · simp only [Instr.next, Sem.run_bind, Sem.run_pure, Result.andThen_ok, hget, hp', if_true, hset, goInt]
        · exact .mk_tup (.cons (.bool _) (.cons (.int _ _) (.cons (.int _ _) (.nil ι))))
      · rename_i hp
        cases h
        have hp' : ¬ pos < (ByteArray.mk ⟨s⟩).size := hp
        refine Out.val (v := .tuple #[.bool false]) hH ?_ (.mk_tup (.cons (.bool _) (.nil ι)))
        simp only [Instr.next, Sem.run_bind, Sem.run_pure, Result.andThen_ok, hget, hp', if_false]
    · cases h
  · cases h

theorem Out.of_val [Syms] {x : AVal} {X : Sem Value} (hH : RelH ι H w) (h : ∃ r, X.run P w = .ok r w ∧ RelV ι x r) : Out ι H w m (.val x) ((do let v ← X; pure (.value v) : Sem Next).run P w) := by
  obtain ⟨r, h1, h2⟩ := h
  exact Out.val hH (by simp only [Sem.run_bind, h1, Result.andThen_ok, Sem.run_pure]) h2

theorem relO_map [Syms] {ρ : Operand → AVal} {σ : Operand → Value} (hev : ∀ x, RelV ι (ρ x) (σ x)) (x : Option Operand) : RelO ι (x.map ρ) (x.map σ) := by
  cases x with
  | none => trivial
  | some a => exact hev a

theorem binop_any [Syms] (htt : TT.ok P tt) {op : BinOp} {t : TypeId} {ox oy : Operand} {a b z : AVal} {v u : Value} (hx : RelV ι a v) (hy : RelV ι b u) (h : abinop tt op t a b = some z) :
    ∃ r, (do eqGuard op t ox oy v u; binOp op t v u : Sem Value).run P w = .ok r w ∧ RelV ι z r := by
  have guard : ∀ {r : Value}, (∀ xs, v ≠ .agg xs) → v ≠ .nilIface → (binOp op t v u).run P w = .ok r w → (do eqGuard op t ox oy v u; binOp op t v u : Sem Value).run P w = .ok r w := by
    intro r h1 h2 h3
    have hg : (eqGuard op t ox oy v u).run P w = .ok () w := by
      unfold eqGuard
      cases v <;> first | (exact absurd rfl h2) | (exact absurd rfl (h1 _)) | (cases op <;> rfl)
    simp only [Sem.run_bind, hg, Result.andThen_ok, h3]
  unfold abinop at h
  split at h
  · rename_i z' hz
    cases h
    cases hx
    case int k a =>
      cases hy
      case int k' b => obtain ⟨r, h1, h2⟩ := abin_int (P := P) (w := w) (ι := ι) hz; exact ⟨r, guard (by simp) (by simp) h1, h2⟩
      all_goals (simp [abin] at hz)
    case str s =>
      cases hy
      case str s' => obtain ⟨r, h1, h2⟩ := abin_str (P := P) (w := w) (ι := ι) hz; exact ⟨r, guard (by simp) (by simp) h1, h2⟩
      all_goals (simp [abin] at hz)
    case bool x =>
      cases hy
      case bool y => obtain ⟨r, h1, h2⟩ := abin_bool (P := P) (w := w) (ι := ι) htt hz; exact ⟨r, guard (by simp) (by simp) h1, h2⟩
      all_goals (simp [abin] at hz)
    all_goals (simp [abin] at hz)
  · have ne : ∀ {b' : Bool}, anil tt t a b = some b' → (∀ xs, v ≠ .agg xs) ∧ v ≠ .nilIface := by
      intro b' hb
      cases hx <;> first | (exfalso; simp [anil] at hb; done) | exact ⟨by simp, by simp⟩
    split at h
    · rw [Option.map_eq_some_iff] at h
      obtain ⟨b', hb, rfl⟩ := h
      exact ⟨.bool b', guard (ne hb).1 (ne hb).2 (anil_sound htt hx hy hb).1, .bool _⟩
    · rw [Option.map_eq_some_iff] at h
      obtain ⟨b', hb, rfl⟩ := h
      exact ⟨.bool (!b'), guard (ne hb).1 (ne hb).2 (anil_sound htt hx hy hb).2, .bool _⟩
    · cases h

end
end Go.Av
