/-
  The abstract step is sound: addresses, loads, cuts, conversions. Over every program.
-/
import Derived.Test.YtgaacnljcnibdaaAvG
set_option linter.unusedVariables false
set_option linter.unusedSimpArgs false
noncomputable section
namespace Go.Av

section
variable {P : Program} {tt : TT} {ι : Inj} {w : World} {H : Heap}

theorem RelV.of_int [Syms] {k : IntKind} {n : Int} {v : Value} (h : RelV ι (.int k n) v) : v = .int k n := by cases h; rfl
theorem RelV.of_ptr [Syms] {n k j : Nat} {v : Value} (h : RelV ι (.ptr n k j) v) : ∃ L, ι n = some L ∧ v = .pointer (some ⟨L.g, L.base + k * L.size + j, none⟩) := by
  cases h with
  | ptr n k j L hL => exact ⟨L, hL, rfl⟩
theorem RelV.of_slice [Syms] {n off len sz : Nat} {cap : Option Nat} {v : Value} (h : RelV ι (.slice n off len sz cap) v) : ∃ L a c, ι n = some L ∧ L.size = sz ∧ (c = 0 ∨ a = ⟨L.g, L.base + off * L.size, none⟩) ∧ len ≤ c ∧
    L.base + (off + c) * L.size ≤ L.phys ∧ c ≤ maxLen ∧ (∀ k, cap = some k → c = k) ∧ v = .slice (some a) len c := by
  cases h with
  | slice n off len sz cap L a c hL hs ha hl hp hm hc => exact ⟨L, a, c, hL, hs, ha, hl, hp, hm, hc, rfl⟩

theorem RelV.of_vz [Syms] {sz : Nat} {v : Value} (h : RelV ι (.vs sz []) v) : ∃ a c, c ≤ maxLen ∧ (a = none → c = 0) ∧ v = .slice a 0 c := by
  cases h with
  | vs _ _ g o c cs hf hl hm hp hr h1 h => exact ⟨some ⟨g, o, none⟩, c, hm, (fun h => nomatch h), rfl⟩
  | vz _ a c hm hc => exact ⟨a, c, hm, hc, rfl⟩
theorem RelV.vs_len [Syms] {sz : Nat} {rows : List (List AVal)} {v : Value} (h : RelV ι (.vs sz rows) v) : ∃ a c, v = .slice a rows.length c := by
  cases h with
  | vs _ _ g o c cs hf hl hm hp hr h1 h => exact ⟨_, c, rfl⟩
  | vz _ a c hm hc => exact ⟨a, c, rfl⟩
theorem RelV.of_vs [Syms] {sz : Nat} {rows : List (List AVal)} {v : Value} (h : RelV ι (.vs sz rows) v) (hne : rows ≠ []) : ∃ g o c cs, ι.fz g = some cs ∧ rows.length ≤ c ∧ c ≤ maxLen ∧ o + rows.length * sz ≤ cs.size ∧
    (∀ (k : Nat) (row : List AVal), rows[k]? = some row → row.length = sz) ∧ (∀ (k j : Nat) (v : Value), k < rows.length → j < sz → cs[o + k * sz + j]? = some v → v.oneCell' = true) ∧
    (∀ (k j : Nat) (row : List AVal) (x : AVal) (v : Value), rows[k]? = some row → row[j]? = some x → cs[o + k * sz + j]? = some v → RelV ι.bare x v) ∧ v = .slice (some ⟨g, o, none⟩) rows.length c := by
  cases h with
  | vs sz rows g o c cs hf hl hm hp hr h1 h => exact ⟨g, o, c, cs, hf, hl, hm, hp, hr, h1, h, rfl⟩
  | vz => exact absurd rfl hne
theorem RelV.vs_rows [Syms] {sz : Nat} {rows : List (List AVal)} {v : Value} (h : RelV ι (.vs sz rows) v) (hne : rows ≠ []) : ∃ g o c cs, ι.fz g = some cs ∧ rows.length ≤ c ∧ c ≤ maxLen ∧ o + rows.length * sz ≤ cs.size ∧ RowsAt ι.bare cs o sz rows ∧ v = .slice (some ⟨g, o, none⟩) rows.length c := by
  obtain ⟨g, o, c, cs, g1, g2, g3, g4, g5, g6, g7, rfl⟩ := h.of_vs hne
  refine ⟨g, o, c, cs, g1, g2, g3, g4, fun k row hk => ⟨g5 k row hk, fun j x hj => ?_⟩, rfl⟩
  have hk' := (List.getElem?_eq_some_iff.1 hk).1
  have hj' := (List.getElem?_eq_some_iff.1 hj).1
  rw [g5 k row hk] at hj'
  have := succ_mul_le (s := sz) hk'
  have hv : cs[o + k * sz + j]? = some (cs[o + k * sz + j]'(by omega)) := Array.getElem?_eq_getElem _
  exact ⟨_, hv, g6 k j _ hk' hj' hv, g7 k j row x _ hk hj hv⟩
theorem RelV.mk_vs [Syms] {sz : Nat} {rows : List (List AVal)} {g o c : Nat} {cs : Array Value} (hf : ι.fz g = some cs) (hl : rows.length ≤ c) (hm : c ≤ maxLen) (hp : o + rows.length * sz ≤ cs.size) (h : RowsAt ι.bare cs o sz rows) :
    RelV ι (.vs sz rows) (.slice (some ⟨g, o, none⟩) rows.length c) := by
  refine .vs sz rows g o c cs hf hl hm hp (fun k row hk => (h k row hk).1) (fun k j v hk hj hv => ?_) (fun k j row x v hk hj hv => ?_)
  · have hr : rows[k]? = some rows[k] := List.getElem?_eq_getElem hk
    obtain ⟨h1, h2⟩ := h k _ hr
    obtain ⟨v', h3, h4, _⟩ := h2 j _ (List.getElem?_eq_getElem (by omega))
    rw [hv] at h3
    cases h3
    exact h4
  · obtain ⟨v', h3, _, h4⟩ := (h k row hk).2 j x hj
    rw [hv] at h3
    cases h3
    exact h4
theorem RelV.of_vp [Syms] {row : List AVal} {j : Nat} {v : Value} (h : RelV ι (.vp row j) v) : ∃ g b cs, ι.fz g = some cs ∧ b + row.length ≤ cs.size ∧ (∀ (i : Nat) (v : Value), i < row.length → cs[b + i]? = some v → v.oneCell' = true) ∧
    (∀ (i : Nat) (x : AVal) (v : Value), row[i]? = some x → cs[b + i]? = some v → RelV ι.bare x v) ∧ v = .pointer (some ⟨g, b + j, none⟩) := by
  cases h with
  | vp row j g b cs hf hp h1 h => exact ⟨g, b, cs, hf, hp, h1, h, rfl⟩
theorem RelV.of_zs [Syms] {sz : Nat} {v : Value} (h : RelV ι (.zs sz) v) : ∃ a, v = .slice a 0 0 := by
  cases h with
  | zs sz a => exact ⟨a, rfl⟩

theorem size_of {t : TypeId} {i : TypeInfo} (h : P.info? t = some i) : (sizeOf t).run P w = .ok i.size w := by simp [sizeOf, typeInfo, h]
theorem info_of {t : TypeId} {i : TypeInfo} (h : P.info? t = some i) : (typeInfo t).run P w = .ok i w := by simp [typeInfo, h]
theorem zero_of {t : TypeId} {i : TypeInfo} {z : Value} (h : P.info? t = some i) (hz : i.zero = some z) : (zeroValue t).run P w = .ok z w := by simp [zeroValue, typeInfo, h, hz]

theorem aunop_sound [Syms] {op : UnOp} {x z : AVal} {v : Value} (hx : RelV ι x v) (h : aunop op x = some z) : ∃ r, (Op.unary op v).run P w = .ok r w ∧ RelV ι z r := by
  unfold aunop at h
  split at h
  · cases op <;> simp only at h <;> cases h
    cases hx
    exact ⟨_, rfl, .bool _⟩
  · rename_i k n
    cases hx
    cases op <;> simp only [abits] at h
    case neg => cases h; exact ⟨.int k (k.wrap (0 - n)), by simp [Op.unary, Op.intArith], by rw [wr_eq]; exact .int _ _⟩
    case xor =>
      cases h
      exact ⟨.int k _, by simp only [Op.unary, Op.intBits, Sem.run_pure], .int _ _⟩
    all_goals cases h
  · cases h

theorem isAgg_of {t : TypeId} {d : TypeDesc} {kd : Kd} (h : P.underlying t = some d) (hf : kd.fits d = true) : (isAgg t).run P w = .ok (isAggK kd) w := by
  simp only [isAgg, Sem.run_bind, run_underlying h, Result.andThen_ok]
  cases kd <;> cases d <;> simp [Kd.fits] at hf <;> rfl

theorem apart_sound [Syms] (htt : TT.ok P tt) {t : TypeId} {cs : List AVal} {vs : List Value} {off : Nat} {z : AVal} (hr : RelL ι cs vs) (h : apart tt t cs off = some z) :
    ∃ r, (part t ⟨vs⟩ off).run P w = .ok r w ∧ RelV ι z r := by
  unfold apart at h
  split at h
  · rename_i ty hty
    obtain ⟨d, i, hd, hi, hk, hsz, _⟩ := tt_at htt hty
    split at h
    · rename_i ha
      split at h
      · rename_i hle
        cases h
        refine ⟨.agg ⟨(vs.drop off).take ty.size⟩, ?_, .mk_agg ((hr.drop off).take _)⟩
        simp only [part, Sem.run_bind, isAgg_of hd hk, ha, Result.andThen_ok, if_true, size_of hi, hsz, Sem.run_pure]
        congr 2
        apply Array.ext'
        simp
      · cases h
    · rename_i ha
      have ha : isAggK ty.kd = false := by simpa using ha
      obtain ⟨v, hv, hx⟩ := hr.get h
      refine ⟨v, ?_, hx⟩
      have hv' : (⟨vs⟩ : Array Value)[off]? = some v := by simpa using hv
      simp only [part, Sem.run_bind, isAgg_of hd hk, ha, Result.andThen_ok, Bool.false_eq_true, if_false, hv', Sem.run_pure]
  · cases h

theorem afield_sound [Syms] (htt : TT.ok P tt) {s : TypeId} {x z : AVal} {v : Value} {f : Nat} (hx : RelV ι x v) (h : afield tt s x f = some z) : ∃ r, (Instr.field s v f).run P w = .ok r w ∧ RelV ι z r := by
  unfold afield at h
  split at h
  · rename_i ty hty
    obtain ⟨d, i, hd, hi, hk, _⟩ := tt_at htt hty
    obtain ⟨gs, rfl, rfl⟩ := (fits_of hk).2.2.2.2.2.2 _ rfl
    obtain ⟨vs, rfl, hl⟩ := hx.of_agg
    split at h
    · rename_i off t ht
      rw [List.getElem?_map, Option.map_eq_some_iff] at ht
      obtain ⟨g, hg, he⟩ := ht
      obtain ⟨e1, e2⟩ := Prod.mk.inj he
      subst e1; subst e2
      obtain ⟨r, hr, hz⟩ := apart_sound (w := w) htt hl h
      refine ⟨r, ?_, hz⟩
      have hg' : gs[f]? = some g := by simpa using hg
      simp only [Instr.field, Sem.run_bind, run_underlying hd, Result.andThen_ok, hg', asAgg, Sem.run_pure, hr]
    · cases h
  · cases h

theorem afieldAddr_sound [Syms] (htt : TT.ok P tt) {s : TypeId} {x z : AVal} {v : Value} {f : Nat} (hx : RelV ι x v) (h : afieldAddr tt s x f = some z) : ∃ r, (Instr.fieldAt s v f).run P w = .ok r w ∧ RelV ι z r := by
  unfold afieldAddr at h
  split at h
  · rename_i ty hty
    obtain ⟨d, i, hd, hi, hk, _⟩ := tt_at htt hty
    obtain ⟨gs, rfl, rfl⟩ := (fits_of hk).2.2.2.2.2.2 _ rfl
    split at h
    · rename_i off t ht
      rw [List.getElem?_map, Option.map_eq_some_iff] at ht
      obtain ⟨g, hg, he⟩ := ht
      obtain ⟨e1, e2⟩ := Prod.mk.inj he
      subst e1; subst e2
      split at h
      · rename_i fty hfty
        obtain ⟨fd, fi, hfd, hfi, hfk, hfs, _⟩ := tt_at htt hfty
        split at h
        · cases h
        · rename_i hne
          cases h
          obtain ⟨L, hL, rfl⟩ := hx.of_ptr
          · have hg' : gs[f]? = some g := by simpa using hg
            refine ⟨_, ?_, .ptr _ _ _ L hL⟩
            have hne' : ¬ fi.size = 0 := by omega
            simp only [Instr.fieldAt, Sem.run_bind, run_underlying hd, Result.andThen_ok, hg', Instr.sureAddr, Sem.run_pure, fieldPlace, size_of hfi, hne', if_false, addr_add, Nat.add_assoc]
      · cases h
    · cases h
  · rename_i ty hty
    obtain ⟨d, i, hd, hi, hk, _⟩ := tt_at htt hty
    obtain ⟨gs, rfl, rfl⟩ := (fits_of hk).2.2.2.2.2.2 _ rfl
    split at h
    · rename_i off t ht
      rw [List.getElem?_map, Option.map_eq_some_iff] at ht
      obtain ⟨g, hg, he⟩ := ht
      obtain ⟨e1, e2⟩ := Prod.mk.inj he
      subst e1; subst e2
      split at h
      · rename_i fty hfty
        obtain ⟨fd, fi, hfd, hfi, hfk, hfs, _⟩ := tt_at htt hfty
        split at h
        · cases h
        · rename_i hne
          cases h
          obtain ⟨gg, b, cs, h1, h2, h3, h4, rfl⟩ := hx.of_vp
          have hg' : gs[f]? = some g := by simpa using hg
          refine ⟨_, ?_, .vp _ _ gg b cs h1 h2 h3 h4⟩
          have hne' : ¬ fi.size = 0 := by omega
          simp only [Instr.fieldAt, Sem.run_bind, run_underlying hd, Result.andThen_ok, hg', Instr.sureAddr, Sem.run_pure, fieldPlace, size_of hfi, hne', if_false, addr_add, Nat.add_assoc]
      · cases h
    · cases h
  · cases h

theorem aindexAddr_sound [Syms] (htt : TT.ok P tt) {t : TypeId} {x ix z : AVal} {v u : Value} (hx : RelV ι x v) (hy : RelV ι ix u) (h : aindexAddr tt t x ix = some z) :
    ∃ r, (Instr.indexAt t v u).run P w = .ok r w ∧ RelV ι z r := by
  unfold aindexAddr at h
  split at h
  · rename_i ty hty
    obtain ⟨d, i, hd, hi, hk, _⟩ := tt_at htt hty
    obtain rfl := (fits_of hk).2.2.2.1 _ rfl
    split at h
    · rename_i ety hety
      obtain ⟨ed, ei, hed, hei, hek, hes, _⟩ := tt_at htt hety
      split at h
      · rename_i hc
        obtain ⟨h0, h1, h2⟩ := hc
        cases h
        obtain rfl := hy.of_int
        obtain ⟨L, a, c, hL, hs, ha, hl, hp, hm, hcap, rfl⟩ := hx.of_slice
        · have hc0 : ¬ c = 0 := by omega
          obtain rfl := ha.resolve_left hc0
          refine ⟨_, ?_, .ptr _ _ _ L hL⟩
          have hcond := And.intro h0 h1
          simp only [Instr.indexAt, Sem.run_bind, asIntOf, Sem.run_pure, run_underlying hd, Result.andThen_ok, hcond, and_self, if_true, size_of hei, addr_add, hes, h2, ← hs, Nat.add_zero, Nat.add_mul, Nat.add_assoc]
      · cases h
    · cases h
  · rename_i sz rows kk iv hty
    obtain ⟨d, i, hd, hi, hk, _⟩ := tt_at htt hty
    obtain rfl := (fits_of hk).2.2.2.1 _ rfl
    split at h
    · rename_i ety hety
      obtain ⟨ed, ei, hed, hei, hek, hes, _⟩ := tt_at htt hety
      split at h
      · rename_i hc
        obtain ⟨h0, h1, h2⟩ := hc
        cases h
        obtain rfl := hy.of_int
        obtain ⟨gg, o, c, cs, g1, g2, g3, g4, g5, g6, g7, rfl⟩ := hx.of_vs (fun e => by rw [e, List.length_nil] at h1; omega)
        have hlt : iv.toNat < rows.length := by omega
        have hrow : rows[iv.toNat]? = some (rows.getD iv.toNat []) := by simp [hlt]
        have hlen := g5 _ _ hrow
        have hmul : iv.toNat * sz + sz ≤ rows.length * sz := by
          have := Nat.mul_le_mul_right sz (show iv.toNat + 1 ≤ rows.length by omega)
          rwa [Nat.add_mul, Nat.one_mul] at this
        refine ⟨_, ?_, .vp _ 0 gg (o + iv.toNat * sz) cs g1 (by omega) (fun q v hq hv => g6 iv.toNat q v hlt (by omega) hv) (fun q x v hq hv => g7 iv.toNat q _ x v hrow hq hv)⟩
        have hcond := And.intro h0 h1
        simp only [Instr.indexAt, Sem.run_bind, asIntOf, Sem.run_pure, run_underlying hd, Result.andThen_ok, hcond, and_self, if_true, size_of hei, addr_add, hes, h2, Nat.add_zero]
      · cases h
    · cases h
  · rename_i ty hty
    obtain ⟨d, i, hd, hi, hk, _⟩ := tt_at htt hty
    obtain rfl := (fits_of hk).2.2.2.2.1 _ _ rfl
    split at h
    · rename_i ety hety
      obtain ⟨ed, ei, hed, hei, hek, hes, _⟩ := tt_at htt hety
      split at h
      · rename_i hc
        cases h
        obtain rfl := hy.of_int
        obtain ⟨L, hL, rfl⟩ := hx.of_ptr
        · refine ⟨_, ?_, .ptr _ _ _ L hL⟩
          simp only [Instr.indexAt, Sem.run_bind, asIntOf, Sem.run_pure, run_underlying hd, Result.andThen_ok, Instr.sureAddr, hc, and_self, if_true, size_of hei, addr_add, hes, Nat.add_assoc]
      · cases h
    · cases h
  · cases h

theorem aindex_sound [Syms] (htt : TT.ok P tt) {t : TypeId} {x ix z : AVal} {v u : Value} (hx : RelV ι x v) (hy : RelV ι ix u) (h : aindex tt t x ix = some z) :
    ∃ r, (Instr.index t v u).run P w = .ok r w ∧ RelV ι z r := by
  unfold aindex at h
  split at h
  · rename_i ty hty
    obtain ⟨d, i, hd, hi, hk, _⟩ := tt_at htt hty
    obtain rfl := (fits_of hk).2.2.1 rfl
    split at h
    · rename_i h0
      split at h
      · rename_i b hb
        cases h
        cases hy
        cases hx
        refine ⟨.int .u8 b.toNat, ?_, .int _ _⟩
        simp only [Instr.index, Sem.run_bind, asIntOf, Sem.run_pure, run_underlying hd, Result.andThen_ok, h0, if_true, ba_get, hb]
      · cases h
    · cases h
  · rename_i ty hty
    obtain ⟨d, i, hd, hi, hk, _⟩ := tt_at htt hty
    obtain rfl := (fits_of hk).2.2.2.2.1 _ _ rfl
    split at h
    · rename_i ety hety
      obtain ⟨ed, ei, hed, hei, hek, hes, _⟩ := tt_at htt hety
      split at h
      · rename_i hc
        obtain ⟨vs, rfl, hl⟩ := hx.of_agg
        cases hy
        obtain ⟨r, hr, hz⟩ := apart_sound (w := w) htt hl h
        refine ⟨r, ?_, hz⟩
        simp only [Instr.index, Sem.run_bind, asIntOf, Sem.run_pure, run_underlying hd, Result.andThen_ok, hc, and_self, if_true, size_of hei, hes, hr]
      · cases h
    · cases h
  · cases h

theorem aload_sound [Syms] (htt : TT.ok P tt) (hH : RelH ι H w) {t : TypeId} {x z : AVal} {v : Value} (hx : RelV ι x v) (h : aload tt H t x = some z) : ∃ r, (Instr.loadAt t v).run P w = .ok r w ∧ RelV ι z r := by
  unfold aload at h
  split at h
  · rename_i n k j
    split at h
    · rename_i rows ro ty hb hty
      obtain ⟨d, i, hd, hi, hk, hsz, _⟩ := tt_at htt hty
      split at h
      · rename_i row hrow
        cases hx with
        | ptr n k j L hL =>
        obtain ⟨L', hL', hB⟩ := hH.blk n _ hb
        obtain rfl : L = L' := by rw [hL] at hL'; exact Option.some.inj hL'
        obtain ⟨cs, e, fz, h1, h2, h3, h4, h5⟩ := hB.rows
        obtain ⟨h6, h7⟩ := h4 k row hrow
        split at h
        · rename_i ha
          split at h
          · rename_i hle
            cases h
            obtain ⟨us, hus, hc⟩ := pick_list (ι := ι) (Pr := fun q v => w.cell? ⟨L.g, L.base + k * L.size + j + q, none⟩ = some v) ((row.drop j).take ty.size) 0 (fun q x hq => by
              have hlt : q < ty.size := by
                have := (List.getElem?_eq_some_iff.1 hq).1
                simp at this; omega
              rw [List.getElem?_take_of_lt hlt, List.getElem?_drop] at hq
              obtain ⟨v, hv, _, hr⟩ := h7 _ x hq
              refine ⟨v, ?_, hr⟩
              rw [cell_of_row w L.g _ cs e fz h1, ← hv]
              congr 1
              omega)
            refine ⟨.agg ⟨us⟩, ?_, .mk_agg hus⟩
            have hlen : us.length = i.size := by
              rw [← hus.1, hsz]; simp; omega
            have hload := run_loadCells_list (P := P) w ⟨L.g, L.base + k * L.size + j, none⟩ us (fun q v hq => by rw [addr_add]; simpa using hc q v hq)
            rw [hlen] at hload
            simp only [Instr.loadAt, Instr.sureAddr, Sem.run_bind, Sem.run_pure, Result.andThen_ok, loadVar, isAgg_of hd hk, ha, if_true, size_of hi, hload]
          · cases h
        · rename_i ha
          have ha : isAggK ty.kd = false := by simpa using ha
          obtain ⟨v, hv, _, hr⟩ := h7 j z h
          refine ⟨v, ?_, hr⟩
          have hcell : w.cell? ⟨L.g, L.base + k * L.size + j, none⟩ = some v := by rw [cell_of_row w L.g _ cs e fz h1]; exact hv
          simp only [Instr.loadAt, Instr.sureAddr, Sem.run_bind, Sem.run_pure, Result.andThen_ok, loadVar, isAgg_of hd hk, ha, Bool.false_eq_true, if_false, run_load, hcell]
      · cases h
    · cases h
  · rename_i row j
    obtain ⟨gg, b, cs, f1, f2, f3, f4, rfl⟩ := hx.of_vp
    obtain ⟨⟨e, fz, hw⟩, _⟩ := hH.fz gg cs f1
    split at h
    · rename_i ty hty
      obtain ⟨d, i, hd, hi, hk, hsz, _⟩ := tt_at htt hty
      have cell : ∀ (q : Nat) (x : AVal), row[q]? = some x → ∃ v, cs[b + q]? = some v ∧ RelV ι x v := by
        intro q x hq
        have hlt := (List.getElem?_eq_some_iff.1 hq).1
        have hv : cs[b + q]? = some (cs[b + q]'(by omega)) := Array.getElem?_eq_getElem _
        exact ⟨_, hv, (f4 q x _ hq hv).mono ι.bare_le⟩
      split at h
      · rename_i ha
        split at h
        · rename_i hle
          cases h
          obtain ⟨us, hus, hc⟩ := pick_list (ι := ι) (Pr := fun q v => w.cell? ⟨gg, b + j + q, none⟩ = some v) ((row.drop j).take ty.size) 0 (fun q x hq => by
            have hlt : q < ty.size := by
              have := (List.getElem?_eq_some_iff.1 hq).1
              simp at this; omega
            rw [List.getElem?_take_of_lt hlt, List.getElem?_drop] at hq
            obtain ⟨v, hv, hr⟩ := cell _ x hq
            refine ⟨v, ?_, hr⟩
            rw [cell_of_row w gg _ cs e fz hw, ← hv]
            congr 1
            omega)
          refine ⟨.agg ⟨us⟩, ?_, .mk_agg hus⟩
          have hlen : us.length = i.size := by
            rw [← hus.1, hsz]; simp; omega
          have hload := run_loadCells_list (P := P) w ⟨gg, b + j, none⟩ us (fun q v hq => by rw [addr_add]; simpa using hc q v hq)
          rw [hlen] at hload
          simp only [Instr.loadAt, Instr.sureAddr, Sem.run_bind, Sem.run_pure, Result.andThen_ok, loadVar, isAgg_of hd hk, ha, if_true, size_of hi, hload]
        · cases h
      · rename_i ha
        have ha : isAggK ty.kd = false := by simpa using ha
        obtain ⟨v, hv, hr⟩ := cell j z h
        refine ⟨v, ?_, hr⟩
        have hcell : w.cell? ⟨gg, b + j, none⟩ = some v := by rw [cell_of_row w gg _ cs e fz hw]; exact hv
        simp only [Instr.loadAt, Instr.sureAddr, Sem.run_bind, Sem.run_pure, Result.andThen_ok, loadVar, isAgg_of hd hk, ha, Bool.false_eq_true, if_false, run_load, hcell]
    · cases h
  · cases h

end
end Go.Av
