/-
  The abstract step is sound: operations that only compute. Over every program.
-/
import Derived.Test.YtgaacnljcnibdaaAvE
import Derived.IntWalk
import Derived.WalkSpells
set_option linter.unusedVariables false
set_option linter.unusedSimpArgs false
noncomputable section
namespace Go.Av

theorem wrap_in (k : IntKind) (x : Int) (h : k.min ≤ x ∧ x ≤ k.max) : k.wrap x = x := by
  cases k <;> simp [IntKind.min, IntKind.max, IntKind.signed, IntKind.bits] at h
  · exact IntWalk.i8_in x (by omega)
  · exact IntWalk.i16_in x (by omega)
  · exact IntWalk.i32_in x (by omega)
  · exact IntWalk.i64_in x (by omega)
  · exact IntWalk.u8_in x (by omega)
  · exact IntWalk.u16_in x (by omega)
  · exact IntWalk.u32_in x (by omega)
  · exact IntWalk.u64_in x (by omega)
theorem wr_eq [Syms] (k : IntKind) (x : Int) : wr k x = k.wrap x := by
  unfold wr
  split
  · rename_i h; exact (wrap_in k x h).symm
  · rfl

section
variable {P : Program} {tt : TT} (htt : TT.ok P tt) {ι : Inj} {w : World}

theorem tt_at [Syms] {t : TypeId} {ty : Ty} (htt : TT.ok P tt) (h : tt t = some ty) : ∃ d i, P.underlying t = some d ∧ P.info? t = some i ∧ ty.kd.fits d = true ∧ i.size = ty.size ∧ i.bytes = ty.bytes ∧
    ((∃ z, i.zero = some z ∧ valFits ty.zero z = true) ∨ ty.zero = .any) ∧ ∀ fs, d = .struct fs → P.stoodInHeld t = false ∧ ∀ f ∈ fs.toList, f.name ≠ "_" := ty_spec (htt _ _ h)

theorem abin_int [Syms] {op : BinOp} {t : TypeId} {k k' : IntKind} {a b : Int} {z : AVal} (h : abin tt op t (.int k a) (.int k' b) = some z) :
    ∃ r, (binOp op t (.int k a) (.int k' b)).run P w = .ok r w ∧ RelV ι z r := by
  by_cases hsh : op = .shl ∨ op = .shr
  · simp only [abin] at h
    rcases hsh with rfl | rfl <;> simp only at h
    · split at h
      · rename_i h0
        cases h
        exact ⟨.int k (k.wrap (a * 2 ^ min b.toNat k.bits)), by simp [binOp, Op.shift, Int.not_lt.2 h0], by rw [wr_eq]; exact .int _ _⟩
      · cases h
    · split at h
      · rename_i h0
        cases h
        exact ⟨.int k (a.fdiv (2 ^ min b.toNat k.bits)), by simp [binOp, Op.shift, Int.not_lt.2 h0], .int _ _⟩
      · cases h
  have hk : k = k' := by
    rcases Decidable.em (k = k') with h1 | h1
    · exact h1
    · simp only [abin] at h
      cases op <;> simp_all
  subst hk
  simp only [abin, beq_self_eq_true, if_true] at h
  cases op <;> simp only at h
  case shl => simp at hsh
  case shr => simp at hsh
  case add => cases h; exact ⟨.int k (k.wrap (a + b)), by simp [binOp, Op.intArith], by rw [wr_eq]; exact .int _ _⟩
  case sub => cases h; exact ⟨.int k (k.wrap (a - b)), by simp [binOp, Op.intArith], by rw [wr_eq]; exact .int _ _⟩
  case mul => cases h; exact ⟨.int k (k.wrap (a * b)), by simp [binOp, Op.intArith], by rw [wr_eq]; exact .int _ _⟩
  case quo =>
    split at h
    · cases h
    · rename_i hb; cases h; exact ⟨.int k (k.wrap (a.tdiv b)), by simp [binOp, Op.intDiv, hb], by rw [wr_eq]; exact .int _ _⟩
  case rem =>
    split at h
    · cases h
    · rename_i hb; cases h; exact ⟨.int k (a.tmod b), by simp [binOp, Op.intDiv, hb], .int _ _⟩
  case eql => cases h; exact ⟨.bool (a == b), by simp [binOp, Op.intCmp], by rw [show (decide (a = b)) = (a == b) from by simp [BEq.beq]]; exact .bool _⟩
  case neq => cases h; exact ⟨.bool (a != b), by simp [binOp, Op.intCmp], by rw [show (decide (a ≠ b)) = (a != b) from by simp [bne, BEq.beq]]; exact .bool _⟩
  case lss => cases h; exact ⟨.bool (decide (a < b)), by simp [binOp, Op.intCmp], .bool _⟩
  case leq => cases h; exact ⟨.bool (decide (a ≤ b)), by simp [binOp, Op.intCmp], .bool _⟩
  case gtr => cases h; exact ⟨.bool (decide (b < a)), by simp [binOp, Op.intCmp], .bool _⟩
  case geq => cases h; exact ⟨.bool (decide (b ≤ a)), by simp [binOp, Op.intCmp], .bool _⟩
  case and => simp only [abits] at h; cases h; exact ⟨.int k _, by simp only [binOp, ne_eq, not_true_eq_false, if_false, Op.intBits, Sem.run_pure], .int _ _⟩
  case or => simp only [abits] at h; cases h; exact ⟨.int k _, by simp only [binOp, ne_eq, not_true_eq_false, if_false, Op.intBits, Sem.run_pure], .int _ _⟩
  case xor => simp only [abits] at h; cases h; exact ⟨.int k _, by simp only [binOp, ne_eq, not_true_eq_false, if_false, Op.intBits, Sem.run_pure], .int _ _⟩
  case andNot => simp only [abits] at h; cases h; exact ⟨.int k _, by simp only [binOp, ne_eq, not_true_eq_false, if_false, Op.intBits, Sem.run_pure], .int _ _⟩

end
end Go.Av
