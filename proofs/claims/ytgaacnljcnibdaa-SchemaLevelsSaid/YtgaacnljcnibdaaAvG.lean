/-
  The abstract step is sound: texts, comparisons, conversions, cuts, addresses. Over every program.
-/
import Derived.Test.YtgaacnljcnibdaaAvF
set_option linter.unusedVariables false
set_option linter.unusedSimpArgs false
noncomputable section
namespace Go.Av

theorem ba_toList (l : List UInt8) : (ByteArray.mk ⟨l⟩).toList = l := by rw [ByteArray.toList_eq]
theorem ba_extract (l : List UInt8) (a b : Nat) : (ByteArray.mk ⟨l⟩).extract a b = ⟨⟨(l.drop a).take (b - a)⟩⟩ := by
  apply ByteArray.ext
  simp
theorem ba_append (l k : List UInt8)  : (ByteArray.mk ⟨l⟩) ++ (ByteArray.mk ⟨k⟩) = ⟨⟨l ++ k⟩⟩ := by
  apply ByteArray.ext
  simp
theorem ba_size (l : List UInt8) : (ByteArray.mk ⟨l⟩).size = l.length := rfl
theorem ba_get (l : List UInt8) (i : Nat) : (ByteArray.mk ⟨l⟩)[i]? = l[i]? := by
  by_cases h : i < l.length
  · rw [List.getElem?_eq_getElem h, getElem?_pos (c := ByteArray.mk ⟨l⟩) (i := i) (h := h)]
    rfl
  · rw [List.getElem?_eq_none (by omega), getElem?_neg (c := ByteArray.mk ⟨l⟩) (i := i) (h := h)]

section
variable {P : Program} {tt : TT} {ι : Inj} {w : World}

theorem abin_str [Syms] {op : BinOp} {t : TypeId} {a b : List UInt8} {z : AVal} (h : abin tt op t (.str a) (.str b) = some z) :
    ∃ r, (binOp op t (.string ⟨⟨a⟩⟩) (.string ⟨⟨b⟩⟩)).run P w = .ok r w ∧ RelV ι z r := by
  have he : (a == b) = eqb a b := by
    rw [eqb_eq, Bool.eq_iff_iff]
    simp
  simp only [abin] at h
  cases op <;> simp only at h
  case add =>
    split at h
    · rename_i hc
      cases h
      refine ⟨.string ⟨⟨a ++ b⟩⟩, ?_, .str _⟩
      have hm : ¬ ((a.length : Int) + (b.length : Int) > IntKind.i64.max) := by
        simp [IntKind.max, IntKind.signed, IntKind.bits]; omega
      simp only [binOp, Op.stringOp, ba_size, ba_append, Int.natCast_add, if_neg hm, Sem.run_pure]
    · cases h
  case eql => cases h; exact ⟨.bool (a == b), by simp [binOp, Op.stringOp, ba_toList], by rw [he]; exact .bool _⟩
  case neq => cases h; exact ⟨.bool (!(a == b)), by simp only [binOp, Op.stringOp, ba_toList, Sem.run_pure], by rw [he]; exact .bool _⟩
  case lss => cases h; exact ⟨.bool (Op.bytesLess a b), by simp [binOp, Op.stringOp, ba_toList], .bool _⟩
  case leq => cases h; exact ⟨.bool (Op.bytesLess a b || (a == b)), by simp only [binOp, Op.stringOp, ba_toList, Sem.run_pure], by rw [he]; exact .bool _⟩
  case gtr => cases h; exact ⟨.bool (!(Op.bytesLess a b || (a == b))), by simp only [binOp, Op.stringOp, ba_toList, Sem.run_pure], by rw [he]; exact .bool _⟩
  case geq => cases h; exact ⟨.bool (!Op.bytesLess a b), by simp only [binOp, Op.stringOp, ba_toList, Sem.run_pure], .bool _⟩
  all_goals cases h

theorem eq_of_in {t : TypeId} {v u : Value} {b : Bool} (h : ∀ d, (Op.equalIn (d + 1) t v u).run P w = .ok b w) : (Op.equal t v u).run P w = .ok b w := h 9999

theorem abin_bool [Syms] (htt : TT.ok P tt) {op : BinOp} {t : TypeId} {a b : Bool} {z : AVal} (h : abin tt op t (.bool a) (.bool b) = some z) :
    ∃ r, (binOp op t (.bool a) (.bool b)).run P w = .ok r w ∧ RelV ι z r := by
  simp only [abin] at h
  split at h
  · rename_i ty hty
    obtain ⟨d, i, hd, _, hk, _⟩ := tt_at htt hty
    cases d <;> simp [Kd.fits] at hk
    cases h
    have hE := eq_of_in (P := P) (w := w) (t := t) (v := .bool a) (u := .bool b) (b := a == b) (fun d => by simp [Op.equalIn, run_underlying hd])
    exact ⟨.bool (a == b), by simp only [binOp, Sem.run_bind, hE, Result.andThen_ok, Sem.run_pure], by rw [show decide (a = b) = (a == b) from by cases a <;> cases b <;> rfl]; exact .bool _⟩
  · rename_i ty hty
    obtain ⟨d, i, hd, _, hk, _⟩ := tt_at htt hty
    cases d <;> simp [Kd.fits] at hk
    cases h
    have hE := eq_of_in (P := P) (w := w) (t := t) (v := .bool a) (u := .bool b) (b := a == b) (fun d => by simp [Op.equalIn, run_underlying hd])
    exact ⟨.bool (!(a == b)), by simp only [binOp, Sem.run_bind, hE, Result.andThen_ok, Sem.run_pure], by rw [show decide (a ≠ b) = (!(a == b)) from by cases a <;> cases b <;> rfl]; exact .bool _⟩
  · cases h

theorem anil_sound [Syms] (htt : TT.ok P tt) {t : TypeId} {x y : AVal} {v u : Value} {b : Bool} (hx : RelV ι x v) (hy : RelV ι y u) (h : anil tt t x y = some b) :
    (binOp .eql t v u).run P w = .ok (.bool b) w ∧ (binOp .neq t v u).run P w = .ok (.bool (!b)) w := by
  unfold anil at h
  split at h
  all_goals first | (cases h; done) | skip
  all_goals
    split at h
    all_goals first | (cases h; done) | skip
    cases h
    rename_i ty hty
    obtain ⟨d, i, hd, _, hk, _⟩ := tt_at htt hty
    cases d <;> simp [Kd.fits] at hk
    cases hx
    cases hy
    refine ⟨?_, ?_⟩
    all_goals simp only [binOp, Sem.run_bind]
    all_goals rw [eq_of_in (fun d => by simp only [Op.equalIn, Sem.run_bind, run_underlying hd, Result.andThen_ok, Sem.run_pure]; rfl)]
    all_goals rfl

theorem part_one {t : TypeId} {d : TypeDesc} (h : P.underlying t = some d) (hd : ∀ fs, d ≠ .struct fs) (he : ∀ n e, d ≠ .array n e) (cs : Array Value) (off : Nat) {v : Value} (hv : cs[off]? = some v) :
    (part t cs off).run P w = .ok v w := by
  have : (isAgg t).run P w = .ok false w := by
    simp only [isAgg, Sem.run_bind, run_underlying h, Result.andThen_ok]
    cases d <;> first | rfl | (exact absurd rfl (hd _)) | (exact absurd rfl (he _ _))
  simp [part, this, hv]

theorem fits_of {ty : Ty} {d : TypeDesc} (h : ty.kd.fits d = true) : (∀ k, ty.kd = .int k → d = .int k) ∧ (ty.kd = .bool → d = .bool) ∧ (ty.kd = .string → d = .string) ∧ (∀ e, ty.kd = .slice e → d = .slice e) ∧
    (∀ n e, ty.kd = .array n e → d = .array n e) ∧ (ty.kd = .ptr → ∃ e, d = .pointer e) ∧ ∀ fs, ty.kd = .struct fs → ∃ gs, d = .struct gs ∧ fs = gs.toList.map fun f => (f.offset, f.type) := by
  cases hk : ty.kd <;> rw [hk] at h <;> cases d <;> simp_all [Kd.fits, Nat.beq_eq]

theorem eqFieldsA_sound [Syms] (htt : TT.ok P tt) (n : Nat) : ∀ (fs : List Field) (k : Nat) (xs ys : List AVal) (vs us : Array Value) (b : Bool), (∀ f ∈ fs, f.name ≠ "_") →
    RelL ι xs (vs.toList.drop k) → RelL ι ys (us.toList.drop k) → eqFieldsA tt k (fs.map fun f => (f.offset, f.type)) xs ys = some b → (Op.eqFields (n + 1) vs us fs).run P w = .ok b w
  | [], k, [], [], vs, us, b, _, _, _, h => by simp [eqFieldsA] at h; subst h; simp [Op.eqFields]
  | f :: fs, k, x :: xs, y :: ys, vs, us, b, hn, hx, hy, h => by
    simp only [List.map_cons, eqFieldsA] at h
    split at h
    rotate_left
    · cases h
    rename_i hoff
    have hoff := Nat.eq_of_beq_eq_true hoff
    obtain ⟨v, vs', hv1, hv2, hv3⟩ := hx.uncons
    obtain ⟨u, us', hu1, hu2, hu3⟩ := hy.uncons
    have e1 : vs[f.offset]? = some v := by
      have : (vs.toList.drop k)[0]? = some v := by rw [hv1]; rfl
      rw [List.getElem?_drop] at this
      rw [hoff, ← Array.getElem?_toList]; simpa using this
    have e2 : us[f.offset]? = some u := by
      have : (us.toList.drop k)[0]? = some u := by rw [hu1]; rfl
      rw [List.getElem?_drop] at this
      rw [hoff, ← Array.getElem?_toList]; simpa using this
    have hx' : RelL ι xs (vs.toList.drop (k + 1)) := by
      have : vs.toList.drop (k + 1) = vs' := by rw [← List.drop_drop, hv1]; rfl
      rw [this]; exact hv3
    have hy' : RelL ι ys (us.toList.drop (k + 1)) := by
      have : us.toList.drop (k + 1) = us' := by rw [← List.drop_drop, hu1]; rfl
      rw [this]; exact hu3
    have hname := hn f (by simp)
    have fin : ∀ (c b' : Bool) (d : TypeDesc), P.underlying f.type = some d → (∀ fs, d ≠ .struct fs) → (∀ n e, d ≠ .array n e) → (Op.equalIn (n + 1) f.type v u).run P w = .ok c w →
        eqFieldsA tt (k + 1) (fs.map fun f => (f.offset, f.type)) xs ys = some b' → b = (c && b') → (Op.eqFields (n + 1) vs us (f :: fs)).run P w = .ok b w := by
      intro c b' d hd h1 h2 hE hr hb
      have ih := eqFieldsA_sound htt n fs (k + 1) xs ys vs us b' (fun g hg => hn g (by simp [hg])) hx' hy' hr
      simp only [Op.eqFields, hname, ne_eq, not_false_eq_true, if_true, Sem.run_bind, part_one hd h1 h2 vs f.offset e1, part_one hd h1 h2 us f.offset e2, hE, Result.andThen_ok]
      subst hb
      cases c
      · simp
      · simpa using ih
    split at h
    · rename_i ty hty
      obtain ⟨d, i, hd, _, hk, _⟩ := tt_at htt hty
      obtain rfl := (fits_of hk).1 _ rfl
      split at h
      rotate_left
      · cases h
      rename_i hq
      obtain rfl := by simpa using hq
      rw [Option.map_eq_some_iff] at h
      obtain ⟨b', hb1, hb2⟩ := h
      cases hv2; cases hu2
      exact fin _ b' _ hd (by simp) (by simp) (run_equalIn_int w n _ _ _ _ _ hd) hb1 (by rw [← hb2]; congr 1)
    · rename_i ty hty
      obtain ⟨d, i, hd, _, hk, _⟩ := tt_at htt hty
      obtain rfl := (fits_of hk).2.1 rfl
      rw [Option.map_eq_some_iff] at h
      obtain ⟨b', hb1, hb2⟩ := h
      cases hv2; cases hu2
      refine fin _ b' _ hd (by simp) (by simp) (run_equalIn_bool' w n _ _ _ hd) hb1 ?_
      rw [← hb2]
      congr 1
    · rename_i ty hty
      obtain ⟨d, i, hd, _, hk, _⟩ := tt_at htt hty
      obtain rfl := (fits_of hk).2.2.1 rfl
      rw [Option.map_eq_some_iff] at h
      obtain ⟨b', hb1, hb2⟩ := h
      cases hv2; cases hu2
      refine fin _ b' _ hd (by simp) (by simp) (run_equalIn_string w n _ _ _ hd) hb1 ?_
      rw [← hb2, ba_toList, ba_toList, eqb_eq]
      congr 1
      rw [Bool.eq_iff_iff]; simp
    · cases h
  | [], k, _ :: _, _, _, _, _, _, _, _, h => by simp [eqFieldsA] at h
  | [], k, [], _ :: _, _, _, _, _, _, _, h => by simp [eqFieldsA] at h
  | _ :: _, k, [], _, _, _, _, _, _, _, h => by simp [eqFieldsA] at h
  | _ :: _, k, _ :: _, [], _, _, _, _, _, _, h => by simp [eqFieldsA] at h

theorem eqFieldsA_plain [Syms] (htt : TT.ok P tt) : ∀ (fs : List Field) (k : Nat) (xs ys : List AVal) (b : Bool) (n : Nat), eqFieldsA tt k (fs.map fun f => (f.offset, f.type)) xs ys = some b → ∀ f ∈ fs, P.eqGuardType (n + 1) f.type = false
  | [], _, _, _, _, _, _ => by simp
  | f :: fs, k, x :: xs, y :: ys, b, n, h => by
    simp only [List.map_cons, eqFieldsA] at h
    split at h
    rotate_left
    · cases h
    have rest : ∀ c, (eqFieldsA tt (k + 1) (fs.map fun f => (f.offset, f.type)) xs ys).map c = some b → ∀ g ∈ fs, P.eqGuardType (n + 1) g.type = false := by
      intro c hc
      rw [Option.map_eq_some_iff] at hc
      obtain ⟨b', hb, _⟩ := hc
      exact eqFieldsA_plain htt fs (k + 1) xs ys b' n hb
    have one : ∀ ty, tt f.type = some ty → (ty.kd = .bool ∨ ty.kd = .string ∨ ∃ q, ty.kd = .int q) → P.eqGuardType (n + 1) f.type = false := by
      intro ty hty hk
      obtain ⟨d, i, hd, _, hf, _⟩ := tt_at htt hty
      rcases hk with hk | hk | ⟨q, hk⟩
      · obtain rfl := (fits_of hf).2.1 hk; simp [Program.eqGuardType, hd]
      · obtain rfl := (fits_of hf).2.2.1 hk; simp [Program.eqGuardType, hd]
      · obtain rfl := (fits_of hf).1 q hk; simp [Program.eqGuardType, hd]
    intro g hg
    split at h
    · rename_i ty hty
      split at h
      rotate_left
      · cases h
      rcases List.mem_cons.1 hg with rfl | hg
      · exact one _ hty (.inr (.inr ⟨_, rfl⟩))
      · exact rest _ h g hg
    · rename_i ty hty
      rcases List.mem_cons.1 hg with rfl | hg
      · exact one _ hty (.inl rfl)
      · exact rest _ h g hg
    · rename_i ty hty
      rcases List.mem_cons.1 hg with rfl | hg
      · exact one _ hty (.inr (.inl rfl))
      · exact rest _ h g hg
    · cases h
  | _ :: _, k, [], _, _, _, h => by simp [eqFieldsA] at h
  | _ :: _, k, _ :: _, [], _, _, h => by simp [eqFieldsA] at h

theorem aggEq_sound [Syms] (htt : TT.ok P tt) {t : TypeId} {xs ys : List AVal} {v u : Value} {b : Bool} (hx : RelV ι (.agg xs) v) (hy : RelV ι (.agg ys) u) (h : aggEq tt t xs ys = some b) (op : BinOp) (ox oy : Operand) :
    (eqGuard op t ox oy v u).run P w = .ok () w ∧ (binOp .eql t v u).run P w = .ok (.bool b) w ∧ (binOp .neq t v u).run P w = .ok (.bool (!b)) w := by
  obtain ⟨vs, rfl, hv⟩ := hx.of_agg
  obtain ⟨us, rfl, hu⟩ := hy.of_agg
  unfold aggEq at h
  split at h
  · rename_i ty hty
    obtain ⟨d, i, hd, _, hk, _, _, _, hs⟩ := tt_at htt hty
    obtain ⟨gs, rfl, rfl⟩ := (fits_of hk).2.2.2.2.2.2 _ rfl
    obtain ⟨h1, h2⟩ := hs gs rfl
    have hE : ∀ m, (Op.equalIn (m + 2) t (.agg ⟨vs⟩) (.agg ⟨us⟩)).run P w = .ok b w := by
      intro m
      have hf : P.fieldsOf t = gs := by simp [Program.fieldsOf, hd]
      rw [run_equalIn_struct w (m + 1) t _ _ (by rw [hf]; exact hd) h1, hf]
      exact eqFieldsA_sound htt m gs.toList 0 xs ys _ _ b h2 (by simpa using hv) (by simpa using hu) h
    have hg : P.eqGuardType P.depth t = false := by
      have hp : P.depth = (2 * (P.types.size + Made.depth)) + 1 + 1 := rfl
      rw [hp]
      have := eqFieldsA_plain htt gs.toList 0 xs ys b (2 * (P.types.size + Made.depth)) h
      unfold Program.eqGuardType
      rw [hd]
      simp only
      rw [Array.any_eq_false']
      intro f hf
      have := this f (by simpa using hf)
      simp [this]
    refine ⟨run_eqGuard_agg w op t ox oy _ _ hg, ?_, ?_⟩
    · rw [run_eql_struct, hE 9998]; rfl
    · rw [run_neq_struct, hE 9998]; rfl
  · cases h

end
end Go.Av
