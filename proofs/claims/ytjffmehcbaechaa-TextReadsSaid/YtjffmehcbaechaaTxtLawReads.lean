/-
  The statement TextReads: its walk.
-/
import Derived.Test.YtjffmehcbaechaaTxtRParse
import Derived.Test.YtjffmehcbaechaaTxtPrint
import Derived.Test.YtjffmehcbaechaaTxtFoT
import Derived.Test.YtjffmehcbaechaaTxtKnown
import Derived.Test.YtjffmehcbaechaaTxtSame
import Derived.Test.YtjffmehcbaechaaSchMakeS
set_option linter.unusedVariables false
set_option linter.unusedSimpArgs false
namespace Go.Proofs.Ytjffmehcbaechaa
open Go Go.Av
set_option maxRecDepth 100000
set_option maxHeartbeats 4000000
def enc8 (b : UInt8) : List AVal := [.int .u8 b.toNat]
def encB (p : Int) : List AVal := [.int .u8 p]
theorem f8 (l : List UInt8) : flatRows (l.map enc8) := flat_map (fun a x hx => by simp [enc8] at hx; subst hx; rfl) l
theorem bytes8 : ∀ (l : List UInt8), areBytes (l.map enc8) = true ∧ bytesOf (l.map enc8) = l
  | [] => ⟨rfl, rfl⟩
  | b :: l => by
    obtain ⟨h1, h2⟩ := bytes8 l
    have hb := b.toNat_lt
    refine ⟨?_, ?_⟩
    · rw [List.map_cons, areBytes, List.all_cons, Bool.and_eq_true]
      exact ⟨by simp [isByteRow, enc8], h1⟩
    · rw [List.map_cons, bytesOf, List.map_cons]
      have e : UInt8.ofNat (asI ((enc8 b).getD 0 .any)).toNat = b := by
        show UInt8.ofNat ((b.toNat : Int)).toNat = b
        rw [Int.toNat_natCast, UInt8.ofNat_toNat]
      rw [e]
      exact congrArg (b :: ·) h2
theorem wr8 (x : Int) : ∃ c : UInt8, wr .u8 x = (c.toNat : Nat) := by
  have h : 0 ≤ wr .u8 x ∧ wr .u8 x ≤ 255 := by
    unfold wr
    split
    · rename_i h; exact h
    · have e : IntKind.wrap .u8 x = x % 256 := rfl
      rw [e]
      omega
  refine ⟨UInt8.ofNat (wr .u8 x).toNat, ?_⟩
  rw [UInt8.toNat_ofNat']
  omega
theorem PrS.pos {s : List Fd} {t : List UInt8} (h : PrS s t) : 0 < t.length := by
  obtain ⟨_, ⟨_, rfl, _⟩ | ⟨_, _, _, _, _, _, _, rfl⟩⟩ := h.pr.one
  · simp [leafT]; omega
  · simp [openT]; omega
abbrev cTRd : CallT := pickT 15 (valT G_within6) (pickT 18 (immT S_rsame) noneT)
theorem cTRd_det [Syms] : cTRd.det Try.prog := pickT_val within6_ok (pickT_imm rsame_ok noneT_det)
abbrev cTR : CallT := pickT 12 (immT S_known6) (pickT 14 (immT S_make) (pickT 13 (immT S_Print) (pickT 15 (valT G_within6) (pickT 16 (immT S_parse) (pickT 17 (immT S_parse) (pickT 18 (immT S_rsame) noneT))))))
theorem cTR_ok [Syms] : cTR.ok Try.prog := pickT_imm_ok known6_ok (pickT_imm_ok make_ok' (pickT_imm_ok Print_ok (pickT_val_ok within6_ok (pickT_imm_ok parse_ok (pickT_imm_ok rparse_ok (pickT_imm_ok rsame_ok noneT_ok))))))
abbrev vB (l : List Int) : AVal := vT 1 encB 0 l
noncomputable abbrev plTR : Nat → Nat → Pl := plAdd [(3, 11), (3, 13)] (plTab plt)
def wd12 : List Wd := [[32, 123, 32], [32, 125, 32], [32, 59, 32], [32, 114, 101, 113, 117, 105, 114, 101, 100, 32], [32, 103, 114, 111, 117, 112, 32], [32, 105, 110, 116, 51, 50, 32], [32, 120, 32], [32, 111, 112, 116, 105, 111, 110, 97, 108, 32, 98, 111, 111, 108, 32, 113, 59, 32], [32, 65, 32], [32, 195, 169, 32], [95], [32, 109, 101, 115, 115, 97, 103, 101, 32, 109, 32, 123, 32]]
abbrev v8 (l : List UInt8) : AVal := vT 1 enc8 0 l
def tr11 (cut word : Int) (raw t B : List UInt8) (b : Bool) : St := ⟨[(3, .int .i64 cut), (4, .int .i64 word), (5, .str raw), (13, .str t), (14, .slice 0 0 t.length 1 none), (68, .bool b)], [(0, some (.cells (B.map enc8) false))], 1⟩
def tr13 (cut word : Int) (raw t D : List UInt8) : St := ⟨[(16, vW wd12), (14, v8 D), (3, .int .i64 cut), (4, .int .i64 word), (5, .str raw), (13, .str t)], [], 2⟩
theorem tr_reb [Syms] {N : Nat} {e : Env} {H : Heap} {nx : Nat} {cut word : Int} {raw t B : List UInt8} {L : Nat} (hL : L ≤ B.length) (h2 : Nat.blt 1 nx = true) (e3 : e.get 3 = .int .i64 cut) (e4 : e.get 4 = .int .i64 word) (e5 : e.get 5 = .str raw) (e13 : e.get 13 = .str t)
    (e14 : e.get 14 = .slice 0 0 L 1 none) (e16 : e.get 16 = .slice 1 0 12 1 (some 12)) (h0 : H.get 0 = some (.cells (B.map enc8) false)) (h1 : H.get 1 = some (.cells (wd12.map encS) false)) : Reb 0 N ⟨e, H, nx⟩ (tr13 cut word raw t (B.take L)) := by
  have hn : 1 < nx := by simpa [Nat.blt_eq] using h2
  have hnum : NumsOk 0 nx [0, 1] = true := by
    have a0 : Nat.blt 0 nx = true := by rw [Nat.blt_eq]; omega
    show (Nat.blt 0 nx && (Nat.blt 1 nx && true) && _ && _ && _) = true
    rw [a0, h2]; rfl
  refine Reb.trans (s' := ⟨[(3, .int .i64 cut), (4, .int .i64 word), (5, .str raw), (13, .str t), (14, .slice 0 0 L 1 none), (16, .slice 1 0 12 1 none)], [(0, some (.cells (B.map enc8) false)), (1, some (.cells (wd12.map encS) false))], 2⟩) (reb_num [0, 1] hnum ⟨by rw [e3]; exact .refl _, by rw [e4]; exact .refl _, by rw [e5]; exact .refl _, by rw [e13]; exact .refl _, by rw [e14]; exact .refl _, by rw [e16]; exact wk_slc rfl, trivial⟩ ⟨⟨by decide, _, h0, wkB_same (f8 _)⟩, ⟨by decide, _, h1, wkB_same (fS _)⟩, trivial⟩) ?_
  refine Reb.trans (s' := ⟨[(14, v8 (B.take L)), (16, .slice 1 0 12 1 none), (3, .int .i64 cut), (4, .int .i64 word), (5, .str raw), (13, .str t)], [(1, some (.cells (wd12.map encS) false))], 2⟩) ?_ ?_
  · refine reb_own_keep (k := 14) (enc := enc8) 0 (l := B.take L) [(16, .slice 1 0 12 1 none), (3, .int .i64 cut), (4, .int .i64 word), (5, .str raw), (13, .str t)] [(1, some (.cells (wd12.map encS) false))] rfl rfl (f8 B) ?_ ?_ ?_ ?_
    · rw [List.map_take]
    · rw [List.length_map]; exact hL
    · intro p hp
      simp only [List.mem_cons, List.not_mem_nil, or_false] at hp
      rcases hp with rfl | rfl | rfl | rfl | rfl <;> exact ⟨Nat.ne_of_beq_eq_false rfl, rfl⟩
    · intro n b h
      rw [Heap.get_cons] at h
      by_cases hn : n = 1
      · subst hn; exact h
      · rw [beq_ff hn] at h; rw [cond_false, Heap.get_nil] at h; cases h
  · refine reb_own_keep (k := 16) (enc := encS) [] (l := wd12) [(14, v8 (B.take L)), (3, .int .i64 cut), (4, .int .i64 word), (5, .str raw), (13, .str t)] [] rfl rfl (fS wd12) ?_ ?_ ?_ ?_
    · exact List.take_of_length_le (by decide)
    · decide
    · intro p hp
      simp only [List.mem_cons, List.not_mem_nil, or_false] at hp
      rcases hp with rfl | rfl | rfl | rfl | rfl <;> exact ⟨Nat.ne_of_beq_eq_false rfl, rfl⟩
    · intro n b h; rw [Heap.get_nil] at h; cases h
def trS (a : List Int) (b : List Int) (cut word : Int) (raw t B : List UInt8) (i : Nat) : St := ⟨[(1, vI a), (2, vB b), (3, .int .i64 cut), (4, .int .i64 word), (5, .str raw), (13, .str t), (14, .slice 0 0 t.length 1 none), (15, .int .i64 i)], [(0, some (.cells (B.map enc8) false))], 1⟩
def rdS (L : List Wd) (i : Nat) : St := ⟨[(18, vW L), (19, .int .i64 i)], [], 0⟩
def rdL (D t raw : List UInt8) (q z : Nat) : List Wd := [bytesOf (tabR D.length fun i => enc8 (D.getD i 0)), List.take (q - 0) (List.drop 0 t) ++ wd12.getD z [] ++ List.take (t.length - q) (List.drop q t), raw, t ++ t]
theorem bytes_len (l : List UInt8) : (bytesOf (tabR l.length fun i => enc8 (l.getD i 0))).length = l.length := by rw [tabR_map enc8 0 l, (bytes8 l).2]
theorem wd12_len : ∀ k, k < 12 → (wd12.getD k []).length ≤ 20 := by decide
theorem lreads_t [Syms] (ns a b : List Int) (cut word : Int) (raw : List UInt8) (hn : ns.length ≤ 9223372036854775807) (ha : a.length ≤ 9223372036854775807) (hb : b.length ≤ 9223372036854775807) :
    fnT cTRd cTR (fnTab fns) (tyTab tys) plTR 100 3 [vI ns, vI a, vB b, .int .i64 cut, .int .i64 word, .str raw] [] 0 (fun v H _ => v = .bool true ∧ H = []) := by
  by_cases hraw : 200 < raw.length
  · repeat' (first | (refine And.intro ?_ ?_) | (intro h; (try first | replace h := of_decide_eq_true h | replace h := of_decide_eq_false h); (try simp only [sg] at h); (try simp only [sx, ↓reduceIte, Nat.reduceAdd, reduceCtorEq, Int.reduceLT, Int.reduceLE, Int.reduceSub, Nat.reduceEqDiff, Nat.reduceLT] at h); try exact nz h))
    all_goals (try exact cz)
    exact ⟨_, reb_flat [12] rfl, _, rfl, rfl, rfl⟩
  · repeat' (first | (refine And.intro ?_ ?_) | (intro h; (try first | replace h := of_decide_eq_true h | replace h := of_decide_eq_false h); (try simp only [sg] at h); (try simp only [sx, ↓reduceIte, Nat.reduceAdd, reduceCtorEq, Int.reduceLT, Int.reduceLE, Int.reduceSub, Nat.reduceEqDiff, Nat.reduceLT] at h); try exact nz h))
    all_goals (try exact cz)
    refine ⟨ns, rfl, hn, ?_⟩
    obtain ⟨t, hp⟩ := make_print ns
    have hml := make_len ns
    have hpos := hp.pos
    have htl := hp.len
    generalize makeF ns = s at *
    repeat' (first | (refine And.intro ?_ ?_) | (intro h; (try first | replace h := of_decide_eq_true h | replace h := of_decide_eq_false h); (try simp only [sg] at h); (try simp only [sx, ↓reduceIte, Nat.reduceAdd, reduceCtorEq, Int.reduceLT, Int.reduceLE, Int.reduceSub, Nat.reduceEqDiff, Nat.reduceLT] at h); try exact nz h))
    all_goals (try exact cz)
    refine ⟨s, 9, s.length, t, rfl, ⟨hp.pr, by decide, hp.ok, by omega⟩, ?_⟩
    have htl : t.length ≤ 896 := by omega
    clear hp
    repeat' (first | (refine And.intro ?_ ?_) | (intro h; (try first | replace h := of_decide_eq_true h | replace h := of_decide_eq_false h); (try simp only [sg] at h); (try simp only [sx, ↓reduceIte, Nat.reduceAdd, reduceCtorEq, Int.reduceLT, Int.reduceLE, Int.reduceSub, Nat.reduceEqDiff, Nat.reduceLT] at h); try exact nz h))
    all_goals (try exact cz)
    refine ⟨fun m st => ∃ (i : Nat) (B : List UInt8), (i ≤ 3 ∧ m = 3 - i ∧ B.length = t.length) ∧ st = trS a b cut word raw t B i, ⟨_, trS a b cut word raw t t 0, reb_num [0] (by first | rfl | kernel_rfl) ⟨.refl _, .refl _, .refl _, .refl _, .refl _, .refl _, .refl _, .refl _, trivial⟩ ⟨⟨by decide, _, rfl, wkB_eq rfl (f8 _)⟩, trivial⟩, 0, t, ⟨by omega, rfl, rfl⟩, rfl⟩, ?_⟩
    rintro m st ⟨i, B, ⟨hi, rfl, hBl⟩, rfl⟩
    have hBm : (B.map enc8).length = t.length := by rw [List.length_map]; exact hBl
    by_cases hin : i < a.length ∧ i < b.length ∧ i < 3
    · repeat' (first | (refine And.intro ?_ ?_) | (intro h; (try first | replace h := of_decide_eq_true h | replace h := of_decide_eq_false h); (try simp only [sg] at h); (try simp only [sx, ↓reduceIte, Nat.reduceAdd, reduceCtorEq, Int.reduceLT, Int.reduceLE, Int.reduceSub, Nat.reduceEqDiff, Nat.reduceLT] at h); try exact nz h))
      all_goals (try exact cz)
      refine ⟨a.getD i 0, t.length, rfl, ⟨by omega, by omega⟩, ?_⟩
      obtain ⟨hw1, hw2⟩ := wi_range (a := a.getD i 0) (n := (t.length : Int)) (by omega)
      obtain ⟨k, hk⟩ := Int.eq_ofNat_of_zero_le hw1
      rw [hk] at hw2 ⊢
      clear hw1 hk
      have hkt : k < t.length := by omega
      repeat' (first | (refine And.intro ?_ ?_) | (intro h; (try first | replace h := of_decide_eq_true h | replace h := of_decide_eq_false h); (try simp only [sg] at h); (try simp only [sx, ↓reduceIte, Nat.reduceAdd, reduceCtorEq, Int.reduceLT, Int.reduceLE, Int.reduceSub, Nat.reduceEqDiff, Nat.reduceLT] at h); try exact nz h))
      all_goals (try exact cz)
      · show isC _ _ (((B.map enc8).getD (0 + k) []).getD 0 .any) = true
        rw [Nat.zero_add, row_at enc8 0 (by omega)]; rfl
      · show 0 + 1 ≤ ((B.map enc8).getD (0 + k) []).length
        rw [Nat.zero_add k, row_at enc8 0 (by omega)]; exact Nat.le_refl 1
      · obtain ⟨c, hc⟩ := wr8 ((((B.getD k 0).toNat : Nat) : Int) + b.getD i 0)
        refine ⟨_, trS a b cut word raw t (B.set k c) (i + 1), reb_num [0] (by first | rfl | kernel_rfl) ⟨.refl _, .refl _, .refl _, .refl _, .refl _, .refl _, .refl _, wk_int (by omega), trivial⟩ ⟨⟨by decide, _, rfl, wkB_eq ?_ (f8 _)⟩, trivial⟩, ⟨i + 1, B.set k c, ⟨by omega, rfl, by rw [List.length_set]; exact hBl⟩, rfl⟩, by omega⟩
        show (B.map enc8).set (0 + k) (splice ((B.map enc8).getD (0 + k) []) 0 [.int .u8 (wr .u8 (asI (((B.map enc8).getD (0 + k) []).getD 0 .any) + b.getD i 0))]) = _
        rw [Nat.zero_add, row_at enc8 0 (by omega), List.map_set]
        show (B.map enc8).set k [.int .u8 (wr .u8 ((((B.getD k 0).toNat : Nat) : Int) + b.getD i 0))] = _
        rw [hc]; rfl
    · repeat' (first | (refine And.intro ?_ ?_) | (intro h; (try first | replace h := of_decide_eq_true h | replace h := of_decide_eq_false h); (try simp only [sg] at h); (try simp only [sx, ↓reduceIte, Nat.reduceAdd, reduceCtorEq, Int.reduceLT, Int.reduceLE, Int.reduceSub, Nat.reduceEqDiff, Nat.reduceLT] at h); try exact nz h))
      all_goals (try exact cz)
      all_goals
        by_cases hc : cut.tmod 3 = 1
        · skip
          refine ⟨tr11 cut word raw t B true, reb_num [0] (by first | rfl | kernel_rfl) ⟨.refl _, .refl _, .refl _, .refl _, .refl _, wk_bool (decide_eq_true hc), trivial⟩ ⟨⟨by decide, _, rfl, wkB_same (f8 _)⟩, trivial⟩, ?_⟩
          clear hc
          repeat' (first | (refine And.intro ?_ ?_) | (intro h; (try first | replace h := of_decide_eq_true h | replace h := of_decide_eq_false h); (try simp only [sg] at h); (try simp only [sx, ↓reduceIte, Nat.reduceAdd, reduceCtorEq, Int.reduceLT, Int.reduceLE, Int.reduceSub, Nat.reduceEqDiff, Nat.reduceLT] at h); try exact nz h))
          all_goals (try exact cz)
          refine ⟨wr .i64 (cut.tdiv 3), (t.length : Int) + 1, rfl, ⟨by omega, by omega⟩, ?_⟩
          obtain ⟨hw1, hw2⟩ := wi_range (a := wr .i64 (cut.tdiv 3)) (n := (t.length : Int) + 1) (by omega)
          obtain ⟨L, hk⟩ := Int.eq_ofNat_of_zero_le hw1
          rw [hk] at hw2 ⊢
          clear hw1 hk
          have hkt : L ≤ t.length := by omega
          repeat' (first | (refine And.intro ?_ ?_) | (intro h; (try first | replace h := of_decide_eq_true h | replace h := of_decide_eq_false h); (try simp only [sg] at h); (try simp only [sx, ↓reduceIte, Nat.reduceAdd, reduceCtorEq, Int.reduceLT, Int.reduceLE, Int.reduceSub, Nat.reduceEqDiff, Nat.reduceLT] at h); try exact nz h))
          all_goals (try exact cz)
          refine ⟨tr13 cut word raw t (B.take L), tr_reb (L := L) (by omega) (by rfl) rfl rfl rfl rfl rfl rfl rfl rfl, ?_⟩
          have hDl : (B.take L).length ≤ 896 := by rw [List.length_take]; omega
          generalize B.take L = D at *
          obtain ⟨hv1, hv2⟩ := wi_range (a := cut) (n := (t.length : Int) + 1) (by omega)
          obtain ⟨q, hq⟩ := Int.eq_ofNat_of_zero_le hv1
          have hq2 : q ≤ t.length := by rw [hq] at hv2; omega
          obtain ⟨hx1, hx2⟩ := wi_range (a := word) (n := 12) (by omega)
          obtain ⟨z, hz⟩ := Int.eq_ofNat_of_zero_le hx1
          have hz2 : z < 12 := by rw [hz] at hx2; omega
          have hzl := wd12_len z hz2
          have hab : areBytes (tabR D.length fun i => enc8 (D.getD i 0)) = true := by rw [tabR_map enc8 0 D]; exact (bytes8 D).1
          have hbl := bytes_len D
          have hc1 := hq
          have hc2 := hz
          clear hv1 hv2 hx1 hx2 hq hz
          repeat' (first | (refine And.intro ?_ ?_) | (intro h; (try first | replace h := of_decide_eq_true h | replace h := of_decide_eq_false h); (try simp only [sg] at h); (try simp only [sx, ↓reduceIte, Nat.reduceAdd, reduceCtorEq, Int.reduceLT, Int.reduceLE, Int.reduceSub, Nat.reduceEqDiff, Nat.reduceLT] at h); try exact nz h))
          all_goals (try exact cz)
          refine ⟨cut, (t.length : Int) + 1, rfl, ⟨by omega, by omega⟩, ?_⟩
          rw [hc1]
          clear hc1
          repeat' (first | (refine And.intro ?_ ?_) | (intro h; (try first | replace h := of_decide_eq_true h | replace h := of_decide_eq_false h); (try simp only [sg] at h); (try simp only [sx, ↓reduceIte, Nat.reduceAdd, reduceCtorEq, Int.reduceLT, Int.reduceLE, Int.reduceSub, Nat.reduceEqDiff, Nat.reduceLT] at h); try exact nz h))
          all_goals (try exact cz)
          all_goals (try exact hab)
          refine ⟨word, 12, rfl, ⟨by omega, by omega⟩, ?_⟩
          rw [hc2]
          clear hc2
          repeat' (first | (refine And.intro ?_ ?_) | (intro h; (try first | replace h := of_decide_eq_true h | replace h := of_decide_eq_false h); (try simp only [sg] at h); (try simp only [sx, ↓reduceIte, Nat.reduceAdd, reduceCtorEq, Int.reduceLT, Int.reduceLE, Int.reduceSub, Nat.reduceEqDiff, Nat.reduceLT] at h); try exact nz h))
          all_goals (try exact cz)
          · show ((z : Nat) : Int) < 12; omega
          · show (List.take (q - 0) (List.drop 0 t)).length + (wd12.getD z []).length ≤ _
            simp only [List.length_take, List.length_drop]; omega
          · show (List.take (q - 0) (List.drop 0 t) ++ wd12.getD z []).length + (List.take (t.length - q) (List.drop q t)).length ≤ _
            simp only [List.length_append, List.length_take, List.length_drop]; omega
          have hL : ∀ w ∈ rdL D t raw q z, w.length ≤ 9223372036854775807 := by
            intro w hw
            simp only [rdL, List.mem_cons, List.not_mem_nil, or_false] at hw
            rcases hw with rfl | rfl | rfl | rfl
            · rw [hbl]; omega
            · simp only [List.length_append, List.length_take, List.length_drop]; omega
            · omega
            · rw [List.length_append]; omega
          refine ⟨fun m st => ∃ i : Nat, (i ≤ 4 ∧ m = 4 - i) ∧ st = rdS (rdL D t raw q z) i, ⟨_, rdS (rdL D t raw q z) 0, Reb.trans (reb_own_keep (k := 18) (enc := encS) [] (l := rdL D t raw q z) [(19, .int .i64 (0 : Nat))] [] rfl rfl (fS (rdL D t raw q z)) rfl (by exact Nat.le_refl 4) (fun p hp => by simp only [List.mem_cons, List.not_mem_nil, or_false] at hp; subst hp; exact ⟨Nat.ne_of_beq_eq_false rfl, rfl⟩) (fun n b h => by rw [Heap.get_nil] at h; cases h)) (reb_flat [18, 19] rfl), 0, ⟨by omega, rfl⟩, rfl⟩, ?_⟩
          clear hab hbl hzl
          have hLl : (rdL D t raw q z).length = 4 := rfl
          generalize rdL D t raw q z = L at *
          rintro m st ⟨i, ⟨hi4, rfl⟩, rfl⟩
          by_cases hi : i < 4
          · have hiL : i < L.length := by omega
            have hbd := hL (L.getD i []) (by rw [List.getD_eq_getElem?_getD, List.getElem?_eq_getElem hiL]; exact List.getElem_mem _)
            have hpl := parse_len (L.getD i [])
            obtain ⟨p, hp⟩ : ∃ p, parseF (L.getD i []) = p := ⟨_, rfl⟩
            repeat' (first | (refine And.intro ?_ ?_) | (intro h; (try first | replace h := of_decide_eq_true h | replace h := of_decide_eq_false h); (try simp only [sg] at h); (try simp only [sx, ↓reduceIte, Nat.reduceAdd, reduceCtorEq, Int.reduceLT, Int.reduceLE, Int.reduceSub, Nat.reduceEqDiff, Nat.reduceLT] at h); try exact nz h))
            all_goals (try exact cz)
            refine ⟨L.getD i [], rfl, hbd, ?_⟩
            rw [hp]
            repeat' (first | (refine And.intro ?_ ?_) | (intro h; (try first | replace h := of_decide_eq_true h | replace h := of_decide_eq_false h); (try simp only [sg] at h); (try simp only [sx, ↓reduceIte, Nat.reduceAdd, reduceCtorEq, Int.reduceLT, Int.reduceLE, Int.reduceSub, Nat.reduceEqDiff, Nat.reduceLT] at h); try exact nz h))
            all_goals (try exact cz)
            refine ⟨L.getD i [], rfl, hbd, ?_⟩
            rw [hp] at hpl ⊢
            repeat' (first | (refine And.intro ?_ ?_) | (intro h; (try first | replace h := of_decide_eq_true h | replace h := of_decide_eq_false h); (try simp only [sg] at h); (try simp only [sx, ↓reduceIte, Nat.reduceAdd, reduceCtorEq, Int.reduceLT, Int.reduceLE, Int.reduceSub, Nat.reduceEqDiff, Nat.reduceLT] at h); try exact nz h))
            all_goals (try exact cz)
            refine ⟨p.1, rfl, by omega, ?_⟩
            repeat' (first | (refine And.intro ?_ ?_) | (intro h; (try first | replace h := of_decide_eq_true h | replace h := of_decide_eq_false h); (try simp only [sg] at h); (try simp only [sx, ↓reduceIte, Nat.reduceAdd, reduceCtorEq, Int.reduceLT, Int.reduceLE, Int.reduceSub, Nat.reduceEqDiff, Nat.reduceLT] at h); try exact nz h))
            all_goals (try exact cz)
            exact ⟨_, rdS L (i + 1), reb_num [] (by first | rfl | kernel_rfl) ⟨.refl _, wk_int (by omega), trivial⟩ trivial, ⟨i + 1, ⟨by omega, rfl⟩, rfl⟩, by omega⟩
          · repeat' (first | (refine And.intro ?_ ?_) | (intro h; (try first | replace h := of_decide_eq_true h | replace h := of_decide_eq_false h); (try simp only [sg] at h); (try simp only [sx, ↓reduceIte, Nat.reduceAdd, reduceCtorEq, Int.reduceLT, Int.reduceLE, Int.reduceSub, Nat.reduceEqDiff, Nat.reduceLT] at h); try exact nz h))
            all_goals (try exact cz)
            exact ⟨_, reb_flat [12] rfl, _, rfl, rfl, rfl⟩
        · skip
          refine ⟨tr11 cut word raw t B false, reb_num [0] (by first | rfl | kernel_rfl) ⟨.refl _, .refl _, .refl _, .refl _, .refl _, wk_bool (decide_eq_false hc), trivial⟩ ⟨⟨by decide, _, rfl, wkB_same (f8 _)⟩, trivial⟩, ?_⟩
          clear hc
          repeat' (first | (refine And.intro ?_ ?_) | (intro h; (try first | replace h := of_decide_eq_true h | replace h := of_decide_eq_false h); (try simp only [sg] at h); (try simp only [sx, ↓reduceIte, Nat.reduceAdd, reduceCtorEq, Int.reduceLT, Int.reduceLE, Int.reduceSub, Nat.reduceEqDiff, Nat.reduceLT] at h); try exact nz h))
          all_goals (try exact cz)
          refine ⟨tr13 cut word raw t (B.take t.length), tr_reb (L := t.length) (by omega) (by rfl) rfl rfl rfl rfl rfl rfl rfl rfl, ?_⟩
          have hDl : (B.take t.length).length ≤ 896 := by rw [List.length_take]; omega
          generalize B.take t.length = D at *
          obtain ⟨hv1, hv2⟩ := wi_range (a := cut) (n := (t.length : Int) + 1) (by omega)
          obtain ⟨q, hq⟩ := Int.eq_ofNat_of_zero_le hv1
          have hq2 : q ≤ t.length := by rw [hq] at hv2; omega
          obtain ⟨hx1, hx2⟩ := wi_range (a := word) (n := 12) (by omega)
          obtain ⟨z, hz⟩ := Int.eq_ofNat_of_zero_le hx1
          have hz2 : z < 12 := by rw [hz] at hx2; omega
          have hzl := wd12_len z hz2
          have hab : areBytes (tabR D.length fun i => enc8 (D.getD i 0)) = true := by rw [tabR_map enc8 0 D]; exact (bytes8 D).1
          have hbl := bytes_len D
          have hc1 := hq
          have hc2 := hz
          clear hv1 hv2 hx1 hx2 hq hz
          repeat' (first | (refine And.intro ?_ ?_) | (intro h; (try first | replace h := of_decide_eq_true h | replace h := of_decide_eq_false h); (try simp only [sg] at h); (try simp only [sx, ↓reduceIte, Nat.reduceAdd, reduceCtorEq, Int.reduceLT, Int.reduceLE, Int.reduceSub, Nat.reduceEqDiff, Nat.reduceLT] at h); try exact nz h))
          all_goals (try exact cz)
          refine ⟨cut, (t.length : Int) + 1, rfl, ⟨by omega, by omega⟩, ?_⟩
          rw [hc1]
          clear hc1
          repeat' (first | (refine And.intro ?_ ?_) | (intro h; (try first | replace h := of_decide_eq_true h | replace h := of_decide_eq_false h); (try simp only [sg] at h); (try simp only [sx, ↓reduceIte, Nat.reduceAdd, reduceCtorEq, Int.reduceLT, Int.reduceLE, Int.reduceSub, Nat.reduceEqDiff, Nat.reduceLT] at h); try exact nz h))
          all_goals (try exact cz)
          all_goals (try exact hab)
          refine ⟨word, 12, rfl, ⟨by omega, by omega⟩, ?_⟩
          rw [hc2]
          clear hc2
          repeat' (first | (refine And.intro ?_ ?_) | (intro h; (try first | replace h := of_decide_eq_true h | replace h := of_decide_eq_false h); (try simp only [sg] at h); (try simp only [sx, ↓reduceIte, Nat.reduceAdd, reduceCtorEq, Int.reduceLT, Int.reduceLE, Int.reduceSub, Nat.reduceEqDiff, Nat.reduceLT] at h); try exact nz h))
          all_goals (try exact cz)
          · show ((z : Nat) : Int) < 12; omega
          · show (List.take (q - 0) (List.drop 0 t)).length + (wd12.getD z []).length ≤ _
            simp only [List.length_take, List.length_drop]; omega
          · show (List.take (q - 0) (List.drop 0 t) ++ wd12.getD z []).length + (List.take (t.length - q) (List.drop q t)).length ≤ _
            simp only [List.length_append, List.length_take, List.length_drop]; omega
          have hL : ∀ w ∈ rdL D t raw q z, w.length ≤ 9223372036854775807 := by
            intro w hw
            simp only [rdL, List.mem_cons, List.not_mem_nil, or_false] at hw
            rcases hw with rfl | rfl | rfl | rfl
            · rw [hbl]; omega
            · simp only [List.length_append, List.length_take, List.length_drop]; omega
            · omega
            · rw [List.length_append]; omega
          refine ⟨fun m st => ∃ i : Nat, (i ≤ 4 ∧ m = 4 - i) ∧ st = rdS (rdL D t raw q z) i, ⟨_, rdS (rdL D t raw q z) 0, Reb.trans (reb_own_keep (k := 18) (enc := encS) [] (l := rdL D t raw q z) [(19, .int .i64 (0 : Nat))] [] rfl rfl (fS (rdL D t raw q z)) rfl (by exact Nat.le_refl 4) (fun p hp => by simp only [List.mem_cons, List.not_mem_nil, or_false] at hp; subst hp; exact ⟨Nat.ne_of_beq_eq_false rfl, rfl⟩) (fun n b h => by rw [Heap.get_nil] at h; cases h)) (reb_flat [18, 19] rfl), 0, ⟨by omega, rfl⟩, rfl⟩, ?_⟩
          clear hab hbl hzl
          have hLl : (rdL D t raw q z).length = 4 := rfl
          generalize rdL D t raw q z = L at *
          rintro m st ⟨i, ⟨hi4, rfl⟩, rfl⟩
          by_cases hi : i < 4
          · have hiL : i < L.length := by omega
            have hbd := hL (L.getD i []) (by rw [List.getD_eq_getElem?_getD, List.getElem?_eq_getElem hiL]; exact List.getElem_mem _)
            have hpl := parse_len (L.getD i [])
            obtain ⟨p, hp⟩ : ∃ p, parseF (L.getD i []) = p := ⟨_, rfl⟩
            repeat' (first | (refine And.intro ?_ ?_) | (intro h; (try first | replace h := of_decide_eq_true h | replace h := of_decide_eq_false h); (try simp only [sg] at h); (try simp only [sx, ↓reduceIte, Nat.reduceAdd, reduceCtorEq, Int.reduceLT, Int.reduceLE, Int.reduceSub, Nat.reduceEqDiff, Nat.reduceLT] at h); try exact nz h))
            all_goals (try exact cz)
            refine ⟨L.getD i [], rfl, hbd, ?_⟩
            rw [hp]
            repeat' (first | (refine And.intro ?_ ?_) | (intro h; (try first | replace h := of_decide_eq_true h | replace h := of_decide_eq_false h); (try simp only [sg] at h); (try simp only [sx, ↓reduceIte, Nat.reduceAdd, reduceCtorEq, Int.reduceLT, Int.reduceLE, Int.reduceSub, Nat.reduceEqDiff, Nat.reduceLT] at h); try exact nz h))
            all_goals (try exact cz)
            refine ⟨L.getD i [], rfl, hbd, ?_⟩
            rw [hp] at hpl ⊢
            repeat' (first | (refine And.intro ?_ ?_) | (intro h; (try first | replace h := of_decide_eq_true h | replace h := of_decide_eq_false h); (try simp only [sg] at h); (try simp only [sx, ↓reduceIte, Nat.reduceAdd, reduceCtorEq, Int.reduceLT, Int.reduceLE, Int.reduceSub, Nat.reduceEqDiff, Nat.reduceLT] at h); try exact nz h))
            all_goals (try exact cz)
            refine ⟨p.1, rfl, by omega, ?_⟩
            repeat' (first | (refine And.intro ?_ ?_) | (intro h; (try first | replace h := of_decide_eq_true h | replace h := of_decide_eq_false h); (try simp only [sg] at h); (try simp only [sx, ↓reduceIte, Nat.reduceAdd, reduceCtorEq, Int.reduceLT, Int.reduceLE, Int.reduceSub, Nat.reduceEqDiff, Nat.reduceLT] at h); try exact nz h))
            all_goals (try exact cz)
            exact ⟨_, rdS L (i + 1), reb_num [] (by first | rfl | kernel_rfl) ⟨.refl _, wk_int (by omega), trivial⟩ trivial, ⟨i + 1, ⟨by omega, rfl⟩, rfl⟩, by omega⟩
          · repeat' (first | (refine And.intro ?_ ?_) | (intro h; (try first | replace h := of_decide_eq_true h | replace h := of_decide_eq_false h); (try simp only [sg] at h); (try simp only [sx, ↓reduceIte, Nat.reduceAdd, reduceCtorEq, Int.reduceLT, Int.reduceLE, Int.reduceSub, Nat.reduceEqDiff, Nat.reduceLT] at h); try exact nz h))
            all_goals (try exact cz)
            exact ⟨_, reb_flat [12] rfl, _, rfl, rfl, rfl⟩
theorem lreads_sem [Syms] (ns a b : List Int) (cut word : Int) (raw : List UInt8) (hn : ns.length ≤ 9223372036854775807) (ha : a.length ≤ 9223372036854775807) (hb : b.length ≤ 9223372036854775807) :
    FnSem Try.prog 3 [vI ns, vI a, vB b, .int .i64 cut, .int .i64 word, .str raw] [] 0 (fun v H _ => v = .bool true ∧ H = []) :=
  fnT_sound tys_ok fns_ok cTRd_det cTR_ok mixed (lreads_t ns a b cut word raw hn ha hb)
end Go.Proofs.Ytjffmehcbaechaa
