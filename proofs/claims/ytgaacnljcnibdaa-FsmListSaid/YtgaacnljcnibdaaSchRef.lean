/-
  The document's 'Parents', 'Leaves' and 'Path': they answer as the program's.
-/
import Derived.Test.YtgaacnljcnibdaaSchRefWalk
import Derived.Test.YtgaacnljcnibdaaSchSpecs
set_option linter.unusedVariables false
set_option linter.unusedSimpArgs false
namespace Go.Proofs.Ytgaacnljcnibdaa
open Go Go.Av
set_option maxRecDepth 100000
set_option maxHeartbeats 4000000
/-! ### 'Parents' -/
def S_rwalk : SpecI := fun args K => ∃ fs, args = [vF fs] ∧ FsOk fs ∧ K (.tup [vI (parentsF fs), vI (depthsF fs)])
theorem rwalk_ok [Syms] : ImmOk Try.prog 40 S_rwalk := by
  rintro args K ⟨fs, rfl, h, hk⟩
  exact ⟨rfl, _, rfl, hk, fnI tys_ok fns_ok noneT_det noneT_ok mixed (rwalk_t fs h.len h.kids)⟩
theorem rpar_t [Syms] (fs : List Fd) (hF : FsOk fs) :
    fnT noneT (pickT 40 (immT S_rwalk) noneT) (fnTab fns) (tyTab tys) (plTab plt) 100 24 [vF fs] [] 0 (fun v H _ => v = vI (parentsF fs) ∧ H = []) := by
  refine ⟨fs, rfl, hF, ?_⟩
  repeat' (first | (refine And.intro ?_ ?_) | (intro h; (try first | replace h := of_decide_eq_true h | replace h := of_decide_eq_false h); (try simp only [asI_int, asS_str, asB_bool, encI_0, encI_00, encF_0, encF_1, encF_2, encF_3, encF_00, encF_01, encF_02, encF_03, encL_0, encL_1, encL_2, encL_3, encL_00, encL_01, encL_02, encL_03, Nat.zero_add, Nat.add_zero, Int.toNat_natCast, Int.toNat_zero] at h); (try simp only [decide_eq_true_eq, decide_eq_false_iff_not, Int.not_lt, Int.not_le, Int.toNat_natCast, ↓reduceIte, Nat.reduceAdd, reduceCtorEq, Int.reduceLT, Int.lt_irrefl, gt_iff_lt, not_true_eq_false, not_false_eq_true, Bool.not_true, Bool.not_false, decide_false, decide_true, Int.reduceLE, Int.reduceSub, Bool.false_eq_true, Bool.true_eq_false, Nat.reduceEqDiff, Nat.one_ne_zero, Nat.reduceLT, and_self, and_true, true_and, Int.natCast_zero, Int.cast_ofNat_Int, List.length_nil, ne_eq, Decidable.not_not] at h); try exact absurd h (by omega)))
  all_goals (try first | ((with_reducible refine PlanIs.mk ?_); kernel_rfl) | ((with_reducible refine NoSel.mk ?_); kernel_rfl) | ((with_reducible refine Apart.mk ?_); kernel_rfl) | ((with_reducible show (_ : Nat) ≤ (_ : Nat)); first | omega | exact Nat.le_of_ble_eq_true rfl | (show _ * 8 ≤ _; omega) | (show _ * 24 ≤ _; omega) | (show _ * 32 ≤ _; omega) | (show _ * 40 ≤ _; omega) | (rw [List.length_map]; omega) | (simp only [asI_int, asS_str, asB_bool, encI_0, encI_00, encF_0, encF_1, encF_2, encF_3, encF_00, encF_01, encF_02, encF_03, encL_0, encL_1, encL_2, encL_3, encL_00, encL_01, encL_02, encL_03, Nat.zero_add, Nat.add_zero, Int.toNat_natCast, Int.toNat_zero, List.length_map]; omega)) | ((with_reducible show (_ : Nat) < (_ : Nat)); first | omega | exact Nat.le_of_ble_eq_true rfl | (show _ * 8 ≤ _; omega) | (show _ * 24 ≤ _; omega) | (show _ * 32 ≤ _; omega) | (show _ * 40 ≤ _; omega) | (rw [List.length_map]; omega) | (simp only [asI_int, asS_str, asB_bool, encI_0, encI_00, encF_0, encF_1, encF_2, encF_3, encF_00, encF_01, encF_02, encF_03, encL_0, encL_1, encL_2, encL_3, encL_00, encL_01, encL_02, encL_03, Nat.zero_add, Nat.add_zero, Int.toNat_natCast, Int.toNat_zero, List.length_map]; omega)) | ((with_reducible show (_ : Int) ≤ (_ : Int)); first | omega | (show _ * ((8 : Nat) : Int) ≤ _; omega) | (show _ * ((32 : Nat) : Int) ≤ _; omega) | (show _ * ((24 : Nat) : Int) ≤ _; omega) | (simp only [asI_int, asS_str, asB_bool, encI_0, encI_00, encF_0, encF_1, encF_2, encF_3, encF_00, encF_01, encF_02, encF_03, encL_0, encL_1, encL_2, encL_3, encL_00, encL_01, encL_02, encL_03, Nat.zero_add, Nat.add_zero, Int.toNat_natCast, Int.toNat_zero]; omega) | exact Int.le_of_sub_nonneg (by decide)) | ((with_reducible show (_ : Int) < (_ : Int)); first | omega | (show _ * ((8 : Nat) : Int) ≤ _; omega) | (show _ * ((32 : Nat) : Int) ≤ _; omega) | (show _ * ((24 : Nat) : Int) ≤ _; omega) | (simp only [asI_int, asS_str, asB_bool, encI_0, encI_00, encF_0, encF_1, encF_2, encF_3, encF_00, encF_01, encF_02, encF_03, encL_0, encL_1, encL_2, encL_3, encL_00, encL_01, encL_02, encL_03, Nat.zero_add, Nat.add_zero, Int.toNat_natCast, Int.toNat_zero]; omega) | exact Int.le_of_sub_nonneg (by decide)) | ((with_reducible show _ = _); exact rfl))
  exact ⟨_, reb_flat [2] rfl, _, rfl, rfl, rfl⟩
theorem rpar_ok [Syms] : ImmOk Try.prog 24 S_par := by
  rintro args K ⟨fs, rfl, h, hk⟩
  exact ⟨rfl, _, rfl, hk, fnI tys_ok fns_ok noneT_det (pickT_imm_ok rwalk_ok noneT_ok) mixed (rpar_t fs h)⟩
/-! ### 'Path' -/
abbrev cRPar : CallT := pickT 24 (immT S_par) noneT
theorem cRPar_ok [Syms] : cRPar.ok Try.prog := pickT_imm_ok rpar_ok noneT_ok
theorem rpath_t [Syms] (fs : List Fd) (field : Int) (hF : FsOk fs) :
    fnT noneT cRPar (fnTab fns) (tyTab tys) (plTab plt) 100 25 [vF fs, .int .i64 field] [] 0 (fun v H _ => v = .str (pathF fs (parentsF fs) field) ∧ H = []) := by
  have hl := hF.len
  have hpl := parents_length fs
  repeat' (first | (refine And.intro ?_ ?_) | (intro h; try simp only [decide_eq_true_eq, decide_eq_false_iff_not, Int.not_lt, Int.not_le, Int.toNat_natCast, ↓reduceIte, Nat.reduceAdd, reduceCtorEq, Int.reduceLT, Int.lt_irrefl, gt_iff_lt, not_true_eq_false, not_false_eq_true, Bool.not_true, Bool.not_false, decide_false, decide_true, Int.reduceLE, Int.reduceSub, Bool.false_eq_true, Bool.true_eq_false, Nat.reduceEqDiff, Nat.one_ne_zero, Nat.reduceLT, and_self, and_true, true_and, Int.natCast_zero, Int.cast_ofNat_Int, List.length_nil, ne_eq, Decidable.not_not] at h))
  all_goals (try first | exact PlanIs.mk (by kernel_rfl) | omega | (show (_ : Int) * ((32 : Nat) : Int) ≤ _; omega) | (show (_ : Int) * ((8 : Nat) : Int) ≤ _; omega) | (show (_ : Int) * ((24 : Nat) : Int) ≤ _; omega) | exact rfl | exact Nat.le_of_ble_eq_true rfl | (show (_ : Nat) ≤ (_ : Nat); simp; done) | (show (_ : Nat) ≤ (_ : Nat); simp; omega))
  · refine ⟨_, .refl _ _ _, _, rfl, ?_, rfl⟩
    exact congrArg AVal.str (a₂ := pathF fs (parentsF fs) field) (by rw [pathF, if_pos (.inl (by omega))])
  · refine ⟨_, .refl _ _ _, _, rfl, ?_, rfl⟩
    exact congrArg AVal.str (a₂ := pathF fs (parentsF fs) field) (by rw [pathF, if_pos (.inr (by omega))])
  · rename_i h1 h2
    refine ⟨fs, rfl, hF, ?_⟩
    have hlt := parents_lt fs
    have h3 := hlt field.toNat (by omega)
    have hn := hF.name
    generalize parentsF fs = ps at *
    repeat' (first | (refine And.intro ?_ ?_) | (intro h; try simp only [decide_eq_true_eq, decide_eq_false_iff_not, Int.not_lt, Int.not_le, Int.toNat_natCast, ↓reduceIte, Nat.reduceAdd, reduceCtorEq, Int.reduceLT, Int.lt_irrefl, gt_iff_lt, not_true_eq_false, not_false_eq_true, Bool.not_true, Bool.not_false, decide_false, decide_true, Int.reduceLE, Int.reduceSub, Bool.false_eq_true, Bool.true_eq_false, Nat.reduceEqDiff, Nat.one_ne_zero, Nat.reduceLT, and_self, and_true, true_and, Int.natCast_zero, Int.cast_ofNat_Int, List.length_nil, ne_eq, Decidable.not_not] at h))
    all_goals (try first | exact PlanIs.mk (by kernel_rfl) | omega | (show (_ : Int) * ((32 : Nat) : Int) ≤ _; omega) | (show (_ : Int) * ((8 : Nat) : Int) ≤ _; omega) | (show (_ : Int) * ((24 : Nat) : Int) ≤ _; omega) | exact rfl | exact Nat.le_of_ble_eq_true rfl | (show (_ : Nat) ≤ (_ : Nat); simp; done) | (show (_ : Nat) ≤ (_ : Nat); simp; omega))
    refine ⟨fun n s => ∃ (k : Int) (m : Nat) (out : List UInt8), (n = (k + 1).toNat ∧ -1 ≤ k ∧ k < fs.length ∧ k ≤ m ∧ upK fs ps m k out = pathF fs ps field ∧ out.length ≤ 2000 * (1001 - k).toNat) ∧ s = ⟨[(0, vF fs), (1, .int .i64 field), (5, vI ps), (6, .str out), (7, .int .i64 k)], [], 0⟩,
      ⟨_, ⟨[(0, vF fs), (1, .int .i64 field), (5, vI ps), (6, .str (fs.getD field.toNat default).name), (7, .int .i64 (ps.getD field.toNat 0))], [], 0⟩, reb_cut [0, 1, 5, 6, 7], _, fs.length, _, ⟨rfl, by omega, by omega, by omega, ?_, ?_⟩, rfl⟩, ?_⟩
    · rw [pathF, if_neg (by omega)]
    · have := hn field.toNat; omega
    rintro n s ⟨k, m, out, ⟨rfl, hk1, hk2, hkm, hup, hol⟩, rfl⟩
    repeat' (first | (refine And.intro ?_ ?_) | (intro h; try simp only [decide_eq_true_eq, decide_eq_false_iff_not, Int.not_lt, Int.not_le, Int.toNat_natCast, ↓reduceIte, Nat.reduceAdd, reduceCtorEq, Int.reduceLT, Int.lt_irrefl, gt_iff_lt, not_true_eq_false, not_false_eq_true, Bool.not_true, Bool.not_false, decide_false, decide_true, Int.reduceLE, Int.reduceSub, Bool.false_eq_true, Bool.true_eq_false, Nat.reduceEqDiff, Nat.one_ne_zero, Nat.reduceLT, and_self, and_true, true_and, Int.natCast_zero, Int.cast_ofNat_Int, List.length_nil, ne_eq, Decidable.not_not] at h))
    all_goals (try first | exact PlanIs.mk (by kernel_rfl) | omega | (show (_ : Int) * ((32 : Nat) : Int) ≤ _; omega) | (show (_ : Int) * ((8 : Nat) : Int) ≤ _; omega) | (show (_ : Int) * ((24 : Nat) : Int) ≤ _; omega) | exact rfl | exact Nat.le_of_ble_eq_true rfl | (show (_ : Nat) ≤ (_ : Nat); simp; done) | (show (_ : Nat) ≤ (_ : Nat); simp; omega))
    · show (fs.getD k.toNat default).name.length + 1 ≤ _
      have := hn k.toNat
      omega
    · show ((fs.getD k.toNat default).name ++ [46]).length + out.length ≤ _
      have := hn k.toNat
      simp only [List.length_append, List.length_cons, List.length_nil]
      omega
    · obtain ⟨m, rfl⟩ : ∃ m', m = m' + 1 := ⟨m - 1, by omega⟩
      have hk0 : 0 < k := ‹_›
      have h4 := hlt k.toNat (by omega)
      have h5 := hn k.toNat
      rw [upK, if_pos hk0] at hup
      refine ⟨_, ⟨[(0, vF fs), (1, .int .i64 field), (5, vI ps), (6, .str ((fs.getD k.toNat default).name ++ [46] ++ out)), (7, .int .i64 (ps.getD k.toNat 0))], [], 0⟩, reb_cut [0, 1, 5, 6, 7], ⟨_, m, _, ⟨rfl, by omega, by omega, by omega, hup, ?_⟩, rfl⟩, by omega⟩
      simp only [List.length_append, List.length_cons, List.length_nil]
      omega
    · refine ⟨_, .refl _ _ _, _, rfl, ?_, rfl⟩
      exact congrArg AVal.str (by rw [← hup, upK_end ‹_›])
theorem rpath_ok [Syms] : ImmOk Try.prog 25 S_path := by
  rintro args K ⟨fs, field, rfl, h, hk⟩
  exact ⟨rfl, _, rfl, hk, fnI tys_ok fns_ok noneT_det cRPar_ok mixed (rpath_t fs field h)⟩
end Go.Proofs.Ytgaacnljcnibdaa
