/-
  The abstract step is sound: cuts, stores, new blocks, conversions. Over every program.
-/
import Derived.Test.YtgaacnljcnibdaaAvH
set_option linter.unusedVariables false
set_option linter.unusedSimpArgs false
noncomputable section
namespace Go.Av

section
variable {P : Program} {tt : TT} {ι : Inj} {w : World} {H : Heap} {m : Nat}

/-- What is said of an operand that may be absent. -/
def RelO [Syms] (ι : Inj) (x : Option AVal) (v : Option Value) : Prop := match x, v with | none, none => True | some a, some u => RelV ι a u | _, _ => False

theorem abound_sound [Syms] {x : Option AVal} {d n : Nat} (h : abound x d = some n) {v : Option Value} (hr : RelO ι x v) :
    (x = none ∧ v = none ∧ n = d) ∨ ∃ (k : IntKind) (i : Int), x = some (.int k i) ∧ v = some (.int k i) ∧ 0 ≤ i ∧ n = i.toNat := by
  cases x with
  | none =>
    simp only [abound, Option.some.injEq] at h
    cases v with
    | none => exact .inl ⟨rfl, rfl, h.symm⟩
    | some u => exact hr.elim
  | some a =>
    cases a with
    | int k i =>
      simp only [abound] at h
      split at h
      · rename_i h0
        simp only [Option.some.injEq] at h
        cases v with
        | none => exact hr.elim
        | some u =>
          have hr : RelV ι (.int k i) u := hr
          obtain rfl := hr.of_int
          exact .inr ⟨k, i, rfl, rfl, h0, h.symm⟩
      · cases h
    | _ => cases h

theorem bound_run (k : IntKind) (i : Int) (y : Nat) (code : BoundsCode) (h0 : 0 ≤ i) (h1 : i.toNat ≤ y) : (Instr.sliceBound (.int k i) y code).run P w = .ok i.toNat w := by
  have h2 : i ≤ (y : Int) := by omega
  simp [Instr.sliceBound, asIntOf, h0, h2]

theorem sliceBounds_run [Syms] (isS : Bool) (len cap : Nat) (lo hi mx : Option AVal) (vlo vhi vmx : Option Value) (l h mm : Nat) (hlo : RelO ι lo vlo) (hhi : RelO ι hi vhi) (hmx : RelO ι mx vmx)
    (el : abound lo 0 = some l) (eh : abound hi len = some h) (em : abound mx cap = some mm) (h1 : l ≤ h) (h2 : h ≤ mm) (h3 : mm ≤ cap) (h4 : hi.isNone = true → mx.isNone = true) :
    (Instr.sliceBounds isS len cap vlo vhi vmx).run P w = .ok (l, h, mm) w := by
  rcases abound_sound el hlo with ⟨rfl, rfl, rfl⟩ | ⟨k1, i1, rfl, rfl, p1, rfl⟩ <;>
  rcases abound_sound eh hhi with ⟨rfl, rfl, rfl⟩ | ⟨k2, i2, rfl, rfl, p2, rfl⟩ <;>
  rcases abound_sound em hmx with ⟨rfl, rfl, rfl⟩ | ⟨k3, i3, rfl, rfl, p3, rfl⟩ <;>
  first
    | (simp at h4; done)
    | (simp (disch := assumption) only [Instr.sliceBounds, Sem.run_bind, Sem.run_pure, Result.andThen_ok, bound_run])

theorem aslice_sound [Syms] (htt : TT.ok P tt) {t : TypeId} {x z : AVal} {lo hi mx : Option AVal} {v : Value} {vlo vhi vmx : Option Value} (hx : RelV ι x v) (hlo : RelO ι lo vlo) (hhi : RelO ι hi vhi) (hmx : RelO ι mx vmx)
    (h : aslice tt t x lo hi mx = some z) : ∃ r, (Instr.sliceAt t v vlo vhi vmx).run P w = .ok r w ∧ RelV ι z r := by
  unfold aslice at h
  split at h
  · rename_i ty hty
    obtain ⟨d, i, hd, hi', hk, _⟩ := tt_at htt hty
    obtain rfl := (fits_of hk).2.2.1 rfl
    split at h
    · rename_i l hh el eh
      split at h
      · rename_i hc
        cases h
        cases hx
        obtain ⟨c1, c2⟩ := hc
        have hmn : vmx = none := by cases vmx with | none => rfl | some _ => exact hmx.elim
        subst hmn
        refine ⟨_, ?_, .str _⟩
        have hb := sliceBounds_run (P := P) (w := w) (ι := ι) false _ _ lo hi none vlo vhi none l hh _ hlo hhi trivial el eh rfl c1 c2 (Nat.le_refl _) (fun _ => rfl)
        simp only [Instr.sliceAt, Instr.slice, Sem.run_bind, run_underlying hd, Result.andThen_ok, Option.isSome_none, Bool.false_eq_true, if_false, Sem.run_pure, ba_size, hb, ba_extract]
      · cases h
    · cases h
  · rename_i ty hty
    obtain ⟨d, i, hd, hi', hk, _⟩ := tt_at htt hty
    obtain rfl := (fits_of hk).2.2.2.1 _ rfl
    split at h
    · rename_i ety el eh em hety
      obtain ⟨ed, ei, hed, hei, hek, hes, _⟩ := tt_at htt hety
      split at h
      · cases h
      · rename_i hc
        cases h
        cases hx
        refine ⟨_, ?_, .nils⟩
        have hb := sliceBounds_run (P := P) (w := w) (ι := ι) true 0 0 lo hi mx vlo vhi vmx 0 0 0 hlo hhi hmx el eh em (Nat.le_refl _) (Nat.le_refl _) (Nat.le_refl _) (fun hn => by
          cases mx with
          | none => rfl
          | some a => exact absurd ⟨hn, rfl⟩ hc)
        simp only [Instr.sliceAt, Instr.slice, Sem.run_bind, run_underlying hd, Result.andThen_ok, hb, size_of hei, Sem.run_pure, if_true, Nat.sub_self]
    · cases h
  · rename_i ty n off len sz cap hty
    obtain ⟨d, i, hd, hi', hk, _⟩ := tt_at htt hty
    obtain rfl := (fits_of hk).2.2.2.1 _ rfl
    split at h
    · rename_i l hh mm ety el eh em hety
      obtain ⟨ed, ei, hed, hei, hek, hes, _⟩ := tt_at htt hety
      split at h
      · rename_i hc
        obtain ⟨c1, c2, c3, c4, c5, c6⟩ := hc
        cases h
        obtain ⟨L, a, c, hL, hs, ha, hl, hp, hm, hcap, rfl⟩ := hx.of_slice
        -- the bound of the cut that the model takes
        obtain ⟨M, hM, hM2, hM3⟩ : ∃ M, abound mx c = some M ∧ hh ≤ M ∧ M ≤ c ∧ (∀ k, (match mx with | some _ => some (mm - l) | none => cap.map (· - l)) = some k → M - l = k) := by
          cases mx with
          | none =>
            refine ⟨c, rfl, by omega, Nat.le_refl _, fun k hk => ?_⟩
            simp only [Option.map_eq_some_iff] at hk
            obtain ⟨k', hk', rfl⟩ := hk
            rw [hcap k' hk']
          | some a' =>
            refine ⟨mm, ?_, c3, by omega, fun k hk => by cases hk; rfl⟩
            unfold abound at em ⊢
            cases a' <;> simp_all
        have hb := sliceBounds_run (P := P) (w := w) (ι := ι) true len c lo hi mx vlo vhi vmx l hh M hlo hhi hmx el eh hM c1 hM2 hM3.1 c5
        refine ⟨.slice (some (if M = l then a else a.add (l * sz))) (hh - l) (M - l), ?_, ?_⟩
        · simp only [Instr.sliceAt, Instr.slice, Sem.run_bind, run_underlying hd, Result.andThen_ok, hb, size_of hei, hes, c6, Sem.run_pure]
          split <;> rfl
        · refine .slice n (off + l) (hh - l) sz _ L _ (M - l) hL hs ?_ (by omega) ?_ (by omega) hM3.2
          · by_cases hml : M = l
            · exact .inl (by omega)
            · right
              have hc0 : ¬ c = 0 := by omega
              rw [if_neg hml, ha.resolve_left hc0, addr_add, Nat.add_mul, hs, Nat.add_assoc]
          · have : (off + l + (M - l)) * L.size ≤ (off + c) * L.size := Nat.mul_le_mul_right _ (by omega)
            omega
      · cases h
    · cases h
  · rename_i sz rows hty
    obtain ⟨d, i, hd, hi', hk, _⟩ := tt_at htt hty
    obtain rfl := (fits_of hk).2.2.2.1 _ rfl
    split at h
    · rename_i l hh mm ety el eh em hety
      obtain ⟨ed, ei, hed, hei, hek, hes, _⟩ := tt_at htt hety
      split at h
      · rename_i hc
        obtain ⟨c1, c2, c3, c4, c5, c6⟩ := hc
        by_cases hne : rows = []
        · subst hne
          rw [List.length_nil] at c2 c4
          obtain ⟨a, c, hm, hac, rfl⟩ := hx.of_vz
          obtain ⟨M, hM, hM2, hM3, hM4⟩ : ∃ M, abound mx c = some M ∧ hh ≤ M ∧ M ≤ c ∧ (mx.isSome = true → M = mm) := by
            cases mx with
            | none => exact ⟨c, rfl, by omega, Nat.le_refl _, fun h => by cases h⟩
            | some a' =>
              refine ⟨mm, ?_, c3, by omega, fun _ => rfl⟩
              unfold abound at em ⊢
              cases a' <;> simp_all
          have hb := sliceBounds_run (P := P) (w := w) (ι := ι) true 0 c lo hi mx vlo vhi vmx l hh M hlo hhi hmx el eh hM c1 hM2 hM3 c5
          have hl0 : l = 0 := by omega
          have hh0 : hh = 0 := by omega
          subst hl0; subst hh0
          cases a with
          | none =>
            have hc0 := hac rfl
            subst hc0
            have hM0 : M = 0 := by omega
            subst hM0
            refine ⟨.slice none 0 0, ?_, ?_⟩
            · simp only [Instr.sliceAt, Instr.slice, Sem.run_bind, run_underlying hd, Result.andThen_ok, hb, size_of hei, hes, c6, Sem.run_pure, if_true, Nat.sub_self]
            · cases mx with
              | none => simp only [Option.some.injEq] at h; subst h; exact .vz _ _ _ hm (fun _ => rfl)
              | some a' =>
                simp only at h
                split at h
                · cases h; exact .zs _ _
                · cases h
          | some a =>
            refine ⟨.slice (some (if M = 0 then a else a.add (0 * sz))) 0 M, ?_, ?_⟩
            · simp only [Instr.sliceAt, Instr.slice, Sem.run_bind, run_underlying hd, Result.andThen_ok, hb, size_of hei, hes, c6, Sem.run_pure, Nat.sub_zero]
              split <;> rfl
            · cases mx with
              | none => simp only [Option.some.injEq] at h; subst h; exact .vz _ _ _ (by omega) (fun h => nomatch h)
              | some a' =>
                simp only at h
                split at h
                · rename_i hz
                  cases h
                  have := hM4 rfl
                  obtain rfl : M = 0 := by omega
                  exact .zs _ _
                · cases h
        obtain ⟨g, o, c, cs, g1, g2, g3, g4, g5, rfl⟩ := hx.vs_rows hne
        obtain ⟨M, hM, hM2, hM3, hM4⟩ : ∃ M, abound mx c = some M ∧ hh ≤ M ∧ M ≤ c ∧ (mx.isSome = true → M = mm) := by
          cases mx with
          | none => exact ⟨c, rfl, by omega, Nat.le_refl _, fun h => by cases h⟩
          | some a' =>
            refine ⟨mm, ?_, c3, by omega, fun _ => rfl⟩
            unfold abound at em ⊢
            cases a' <;> simp_all
        have hb := sliceBounds_run (P := P) (w := w) (ι := ι) true rows.length c lo hi mx vlo vhi vmx l hh M hlo hhi hmx el eh hM c1 hM2 hM3 c5
        refine ⟨.slice (some (if M = l then ⟨g, o, none⟩ else Addr.add ⟨g, o, none⟩ (l * sz))) (hh - l) (M - l), ?_, ?_⟩
        · simp only [Instr.sliceAt, Instr.slice, Sem.run_bind, run_underlying hd, Result.andThen_ok, hb, size_of hei, hes, c6, Sem.run_pure]
          split <;> rfl
        · cases mx with
          | none =>
            simp only [Option.some.injEq] at h
            subst h
            have hlen : ((rows.drop l).take (hh - l)).length = hh - l := by simp; omega
            by_cases hml : M = l
            · rw [if_pos hml]
              have e0 : (rows.drop l).take (hh - l) = [] := by rw [show hh - l = 0 by omega]; rfl
              rw [e0]
              have := RelV.mk_vs (ι := ι) (sz := sz) (rows := []) (g := g) (o := o) (c := M - l) g1 (Nat.zero_le _) (by omega) (by simp; omega) (fun k row hk => by simp at hk)
              rw [show hh - l = ([] : List (List AVal)).length by simp; omega]
              exact this
            · rw [if_neg hml, addr_add]
              have hmul : l * sz + (hh - l) * sz ≤ rows.length * sz := by
                rw [← Nat.add_mul]
                exact Nat.mul_le_mul_right _ (by omega)
              have := RelV.mk_vs (ι := ι) (sz := sz) (rows := (rows.drop l).take (hh - l)) (g := g) (o := o + l * sz) (c := M - l) g1 (by omega) (by omega) (by rw [hlen]; omega) ((g5.drop l).take _)
              rw [hlen] at this
              exact this
          | some a' =>
            simp only at h
            split at h
            · rename_i hz
              cases h
              have := hM4 rfl
              rw [show hh - l = 0 by omega, show M - l = 0 by omega]
              exact .zs sz _
            · cases h
      · cases h
    · cases h
  · cases h

end
end Go.Av
