/-
  The abstract step is sound: conversions, walks over texts, append. Over every program.
-/
import Derived.Test.YtgaacnljcnibdaaAvL
import Derived.Laws.BytesArg
set_option linter.unusedVariables false
set_option linter.unusedSimpArgs false
noncomputable section
namespace Go.Av

section
variable {P : Program} {tt : TT} {ι : Inj} {w : World} {H : Heap} {m : Nat}

theorem slice_cells [Syms] (hH : RelH ι H w) {n off len sz : Nat} {cap : Option Nat} {v : Value} {rows : List (List AVal)} (hx : RelV ι (.slice n off len sz cap) v) (h : sliceRows H (.slice n off len sz cap) = some rows) :
    rows.length = len ∧ (∀ r ∈ rows, r.length = sz) ∧ ∃ a c us, v = .slice (some a) len c ∧ RelL ι rows.flatten us ∧ us.length = len * sz ∧ (∀ u ∈ us, u.oneCell' = true) ∧ ∀ j u, us[j]? = some u → w.cell? (a.add j) = some u := by
  obtain ⟨L, a, c, hL, hs, ha, hl, hp, hm, hcap, rfl⟩ := hx.of_slice
  simp only [sliceRows] at h
  split at h
  · rename_i all ro hb
    split at h
    · rename_i hle
      cases h
      obtain ⟨L', hL', hB⟩ := hH.blk n _ hb
      obtain rfl : L = L' := by rw [hL] at hL'; exact Option.some.inj hL'
      obtain ⟨cs, e, fz, h1, h2, h3, h4, h5⟩ := hB.rows
      have h6 := (h4.drop off).take len
      have hlen : ((all.drop off).take len).length = len := by simp; omega
      obtain ⟨us, h7, h8, h9⟩ := h6.flat
      refine ⟨hlen, fun r hr => ?_, a, c, us, rfl, h7, by rw [h8, hlen, hs], fun u hu => ?_, fun j u hj => ?_⟩
      · obtain ⟨k, hk⟩ := List.mem_iff_getElem?.1 hr
        rw [← hs]
        exact (h6 k r hk).1
      · obtain ⟨k, hk⟩ := List.mem_iff_getElem?.1 hu
        exact (h9 k u hk).2
      · have hc0 : ¬ c = 0 := by
          have : j < us.length := (List.getElem?_eq_some_iff.1 hj).1
          rw [h8, hlen] at this
          rcases Nat.eq_zero_or_pos len with e | e
          · rw [e] at this; simp at this
          · omega
        rw [ha.resolve_left hc0, addr_add, cell_of_row w L.g _ cs e fz h1]
        exact (h9 j u hj).1
    · cases h
  · cases h

theorem vs_cells [Syms] (hH : RelH ι H w) {sz : Nat} {v : Value} {rows : List (List AVal)} (hx : RelV ι (.vs sz rows) v) (hne : rows ≠ []) :
    (∀ r ∈ rows, r.length = sz) ∧ ∃ a c us, v = .slice (some a) rows.length c ∧ RelL ι rows.flatten us ∧ us.length = rows.length * sz ∧ (∀ u ∈ us, u.oneCell' = true) ∧ ∀ j u, us[j]? = some u → w.cell? (a.add j) = some u := by
  obtain ⟨g, o, c, cs, g1, g2, g3, g4, g5, rfl⟩ := hx.vs_rows hne
  obtain ⟨⟨e, z, hw⟩, _⟩ := hH.fz g cs g1
  obtain ⟨us, h7, h8, h9⟩ := g5.flat
  refine ⟨fun r hr => ?_, ⟨g, o, none⟩, c, us, rfl, h7.mono ι.bare_le, h8, fun u hu => ?_, fun j u hj => ?_⟩
  · obtain ⟨k, hk⟩ := List.mem_iff_getElem?.1 hr
    exact (g5 k r hk).1
  · obtain ⟨k, hk⟩ := List.mem_iff_getElem?.1 hu
    exact (h9 k u hk).2
  · rw [addr_add, cell_of_row w g _ cs e z hw]
    exact (h9 j u hj).1

theorem bytes_rows : ∀ {rows : List (List AVal)} {s : List UInt8}, bytesOfRows rows = some s → ∃ ns : List Int, rows = ns.map (fun n => [AVal.int .u8 n]) ∧ s = ns.map fun n => UInt8.ofNat n.toNat
  | [], s, h => by simp [bytesOfRows] at h; subst h; exact ⟨[], rfl, rfl⟩
  | r :: rows, s, h => by
    simp only [bytesOfRows] at h
    split at h
    · rename_i b bs hb hbs
      cases h
      obtain ⟨ns, h1, h2⟩ := bytes_rows hbs
      unfold byteOfRow at hb
      split at hb
      · rename_i n
        cases hb
        exact ⟨n :: ns, by simp [h1], by simp [h2]⟩
      · cases hb
    · cases h

theorem ints_rel [Syms] {k : IntKind} : ∀ {ns : List Int} {us : List Value}, RelL ι (ns.map (fun n => [AVal.int k n])).flatten us → us = ns.map (Value.int k)
  | [], us, h => h.unnil
  | n :: ns, us, h => by
    simp only [List.map_cons, List.flatten_cons, List.singleton_append] at h
    obtain ⟨v, us', rfl, h1, h2⟩ := h.uncons
    obtain rfl := h1.of_int
    rw [ints_rel h2]
    rfl

theorem abytesToStr_sound [Syms] (htt : TT.ok P tt) (hH : RelH ι H w) {src dst e : TypeId} {x : AVal} {v : Value} {r : Res} (hd1 : P.underlying src = some (.slice e)) (hd2 : P.underlying dst = some .string) (hx : RelV ι x v) (h : abytesToStr tt H e x = some r) :
    Out ι H w m r ((do let v ← convert src dst v; pure (.value v) : Sem Next).run P w) := by
  unfold abytesToStr at h
  split at h
  · rename_i _ _ _ he
    obtain ⟨d3, i3, hd3, _, hk3, _⟩ := tt_at htt he
    obtain rfl := (fits_of hk3).1 _ rfl
    cases x with
    | nils =>
      simp only [Option.some.injEq] at h
      subst h
      cases hx
      refine Out.val (v := .string ⟨⟨[]⟩⟩) hH ?_ (.str _)
      simp only [Sem.run_bind, run_convert_bytes_string w _ _ _ none 0 0 hd1 hd3 hd2, Conv.bytesToString, Sem.run_pure, Result.andThen_ok]
      rfl
    | slice n off len sz cap =>
      simp only at h
      cases hrows : sliceRows H (.slice n off len sz cap) with
      | none => rw [hrows] at h; cases h
      | some rows =>
        rw [hrows] at h
        simp only [Option.map_eq_some_iff] at h
        obtain ⟨s, hs', rfl⟩ := h
        obtain ⟨h1, h2, a, c, us, rfl, h3, h4, h5, h6⟩ := slice_cells hH hx hrows
        obtain ⟨ns, rfl, rfl⟩ := bytes_rows hs'
        obtain rfl := ints_rel h3
        have hn : (ns.map (Value.int .u8)).length = len := by simpa using h1
        have hload := run_loadCells_list (P := P) w a _ h6
        rw [hn] at hload
        refine Out.val (v := .string ⟨⟨ns.map fun n => UInt8.ofNat n.toNat⟩⟩) hH ?_ (.str _)
        simp only [Sem.run_bind, run_convert_bytes_string w _ _ _ (some a) len c hd1 hd3 hd2, run_bytesToString w a len c ns hload, Result.andThen_ok, Sem.run_pure]
        rw [foldl_push_bytes]
        simp
    | vs sz rows =>
      simp only [Option.map_eq_some_iff] at h
      obtain ⟨s, hs', rfl⟩ := h
      by_cases hne : rows = []
      · subst hne
        cases hs'
        obtain ⟨a, c, hm, hac, rfl⟩ := hx.of_vz
        refine Out.val (v := .string ⟨⟨[]⟩⟩) hH ?_ (.str _)
        cases a with
        | none =>
          simp only [Sem.run_bind, run_convert_bytes_string w _ _ _ none 0 c hd1 hd3 hd2, Conv.bytesToString, Sem.run_pure, Result.andThen_ok]
          rfl
        | some a =>
          have hload := run_loadCells_list (P := P) w a [] (fun j u hj => by simp at hj)
          simp only [Sem.run_bind, run_convert_bytes_string w _ _ _ (some a) 0 c hd1 hd3 hd2, run_bytesToString w a 0 c [] hload, Result.andThen_ok, Sem.run_pure]
          rfl
      obtain ⟨h2, a, c, us, rfl, h3, h4, h5, h6⟩ := vs_cells hH hx hne
      obtain ⟨ns, rfl, rfl⟩ := bytes_rows hs'
      obtain rfl := ints_rel h3
      have hn : (ns.map (Value.int .u8)).length = (ns.map fun n => [AVal.int .u8 n]).length := by simp
      have hload := run_loadCells_list (P := P) w a _ h6
      rw [hn] at hload
      refine Out.val (v := .string ⟨⟨ns.map fun n => UInt8.ofNat n.toNat⟩⟩) hH ?_ (.str _)
      simp only [Sem.run_bind, run_convert_bytes_string w _ _ _ (some a) _ c hd1 hd3 hd2, run_bytesToString w a _ c ns hload, Result.andThen_ok, Sem.run_pure]
      rw [foldl_push_bytes]
      simp
    | _ => cases h
  · cases h

theorem relb_new_fz [Syms] {κ : Inj} {w w' : World} {rows : List (List AVal)} {us : List Value} {cs : Array Value} {e : TypeId} {size : Nat} {fz : Nat × Nat} (hr : RelL κ rows.flatten us) (hl : ∀ r ∈ rows, r.length = size)
    (ho : ∀ u ∈ us, u.oneCell' = true) (hc : us <+: cs.toList) (hf : ∀ o, o < cs.size → (decide (fz.1 ≤ o) && decide (o < fz.2)) = false) (hw : w'.heap = w.heap.push (.cells cs e fz)) : RelB κ w' ⟨w.heap.size, 0, size, cs.size⟩ (.cells rows false) := by
  have hg : w'.heap[w.heap.size]? = some (.cells cs e fz) := by rw [hw]; simp
  have hg' : (World.mk (w.heap.push (.cells cs e)) w.tape w.drawn w.os w.output).heap[w.heap.size]? = some (.cells cs e (0, 0)) := by simp
  obtain ⟨cs', e', fz', h1, h2, h3, h4, h5⟩ := (relb_new (w' := ⟨w.heap.push (.cells cs e), w.tape, w.drawn, w.os, w.output⟩) hr hl ho hc rfl).rows
  simp only at h1 h2 h3 h4
  rw [hg'] at h1
  cases h1
  refine RelB.mk hg rfl h3 h4 ?_
  intro _ o hlt
  rw [frozen_row hg]
  exact hf o hlt
theorem new_row_fz [Syms] {r : Result Next} {x : AVal} {v : Value} {rows : List (List AVal)} {us : List Value} {cs : Array Value} {e : TypeId} {size : Nat} {w' : World} {fz : Nat × Nat} (hH : RelH ι H w) (hl : Lies ι w) (hm : ι m = none)
    (hr : RelL ι rows.flatten us) (hls : ∀ r ∈ rows, r.length = size) (ho : ∀ u ∈ us, u.oneCell' = true) (hc : us <+: cs.toList) (hf : ∀ o, o < cs.size → (decide (fz.1 ≤ o) && decide (o < fz.2)) = false)
    (hw : w'.heap = w.heap.push (.cells cs e fz)) (hos : w'.os = w.os) (htape : w'.tape = w.tape) (hout : w'.output = w.output)
    (hrun : r = .ok (.value v) w') (hv : RelV (ι.put m ⟨w.heap.size, 0, size, cs.size⟩) x v) : Out ι H w m (.new (.cells rows false) x) r :=
  Out.new hH hl hm hrun hw hos htape hout rfl (relb_new_fz (hr.mono (Inj.le_put _ hm)) hls ho hc hf hw) hv

theorem aconvert_sound [Syms] (htt : TT.ok P tt) (hH : RelH ι H w) (hl : Lies ι w) (hm : ι m = none) {src dst : TypeId} {x : AVal} {v : Value} {r : Res} (hx : RelV ι x v) (h : aconvert tt H m src dst x = some r) :
    Out ι H w m r ((do let v ← convert src dst v; pure (.value v) : Sem Next).run P w) := by
  unfold aconvert at h
  split at h
  · rename_i sty k _ _ _ k' n hs hd
    obtain ⟨d1, i1, hd1, _⟩ := tt_at htt hs
    obtain ⟨d2, i2, hd2, _, hk2, _⟩ := tt_at htt hd
    obtain rfl := (fits_of hk2).1 _ rfl
    cases h
    obtain rfl := hx.of_int
    refine Out.val (v := .int k (k.wrap n)) hH ?_ (by rw [wr_eq]; exact .int _ _)
    simp only [convert, Sem.run_bind, run_underlying hd1, run_underlying hd2, Result.andThen_ok, Conv.intToInt, Sem.run_pure]
  · rename_i sty _ _ _ s hs hd
    obtain ⟨d1, i1, hd1, _⟩ := tt_at htt hs
    obtain ⟨d2, i2, hd2, _, hk2, _⟩ := tt_at htt hd
    obtain rfl := (fits_of hk2).2.2.1 rfl
    cases h
    cases hx
    refine Out.val (v := .string ⟨⟨s⟩⟩) hH ?_ (.str _)
    simp only [convert, Sem.run_bind, run_underlying hd1, run_underlying hd2, Result.andThen_ok, Sem.run_pure]
  · rename_i sty _ _ _ k n hs hd
    obtain ⟨d1, i1, hd1, _⟩ := tt_at htt hs
    obtain ⟨d2, i2, hd2, _, hk2, _⟩ := tt_at htt hd
    obtain rfl := (fits_of hk2).2.2.1 rfl
    cases h
    obtain rfl := hx.of_int
    refine Out.val (v := .string (Utf8.encode n)) hH ?_ ?_
    · simp only [convert, Sem.run_bind, run_underlying hd1, run_underlying hd2, Result.andThen_ok, Conv.intToString, Sem.run_pure]
    · have := RelV.str (ι := ι) (Utf8.encode n).data.toList
      simpa using this
  · rename_i sty e _ _ _ s hs hd
    obtain ⟨d1, i1, hd1, _⟩ := tt_at htt hs
    obtain ⟨d2, i2, hd2, _, hk2, _⟩ := tt_at htt hd
    obtain rfl := (fits_of hk2).2.2.2.1 _ rfl
    split at h
    · rename_i _ _ _ he
      obtain ⟨d3, i3, hd3, _, hk3, _⟩ := tt_at htt he
      obtain rfl := (fits_of hk3).1 _ rfl
      split at h
      rotate_left
      · cases h
      rename_i hc
      cases h
      cases hx
      have hcap := grownCap_ge w s.length 0 e
      have hcm : grownCap w s.length 0 e ≤ maxLen := by
        have hlt := Nat.mod_lt (w.tape w.drawn (.appendCap s.length 0 e)) (show 0 < 2 ^ 63 - s.length by simp only [maxLen] at *; omega)
        simp only [grownCap, Question.cut, maxLen] at *
        omega
      have hcs : (((s.map fun b => Value.int .u8 b.toNat).toArray ++ Array.replicate (grownCap w s.length 0 e - s.length) (.int .u8 0) : Array Value)).size = grownCap w s.length 0 e := by simp; omega
      generalize hcsd : ((s.map fun b => Value.int .u8 b.toNat).toArray ++ Array.replicate (grownCap w s.length 0 e - s.length) (.int .u8 0) : Array Value) = cs at hcs
      have hpre : (s.map fun b => Value.int .u8 b.toNat) <+: cs.toList := by
        rw [← hcsd]
        simp
      have hrel : RelL ι ((s.map fun b => [AVal.int .u8 b.toNat]).flatten) (s.map fun b => Value.int .u8 b.toNat) := by
        clear hpre hcsd hcs hcm hcap hc
        induction s with
        | nil => exact .nil ι
        | cons b s ih => exact .cons (.int _ _) ih
      have hconv : (convert src dst (.string ⟨⟨s⟩⟩)).run P w = .ok (.slice (some ⟨w.heap.size, 0, none⟩) s.length cs.size) { w with drawn := w.drawn + 1, heap := w.heap.push (.cells cs e (cs.size, cs.size + 1)) } := by
        have hel : ((⟨⟨s⟩⟩ : ByteArray).data.map fun b => Value.int .u8 b.toNat) = (s.map fun b => Value.int .u8 b.toNat).toArray := by
          apply Array.ext'
          simp
        have hg : (Question.appendCap s.length 0 e).cut (w.tape w.drawn (.appendCap s.length 0 e)) = grownCap w s.length 0 e := rfl
        simp only [convert, Sem.run_bind, run_underlying hd1, run_underlying hd2, run_underlying hd3, Result.andThen_ok, Conv.stringToBytes, run_choose, Question.forced, Bool.false_eq_true, if_false, ba_size, hg, hel, hcsd, newRow, run_newObj, Sem.run_pure, markStringish, run_shape, World.shape?,
          Array.getElem?_push_size, run_freeze, World.freeze, hcs]
        simp only [Nat.one_ne_zero, if_false]
        congr 2
        apply Array.ext
        · simp
        · intro i h1 h2
          simp only [Array.getElem_modify, Array.getElem_push]
          by_cases hi : w.heap.size = i
          · subst hi; simp
          · have : i < w.heap.size := by simp at h1; omega
            rw [if_neg hi]
            simp [this]
      refine new_row_fz (size := 1) (us := s.map fun b => .int .u8 b.toNat) (cs := cs) (e := e) (fz := (cs.size, cs.size + 1)) (w' := { w with drawn := w.drawn + 1, heap := w.heap.push (.cells cs e (cs.size, cs.size + 1)) }) hH hl hm hrel (by simp) (by simp [Value.oneCell']) hpre (fun o ho => by simp; omega) rfl rfl rfl rfl
        (v := .slice (some ⟨w.heap.size, 0, none⟩) s.length cs.size) (by simp only [Sem.run_bind, hconv, Result.andThen_ok, Sem.run_pure]) ?_
      exact .slice m 0 s.length 1 none _ _ cs.size (Inj.put_same _ _ _) rfl (.inr (by simp)) (by omega) (by simp) (by omega) (fun k hk => by cases hk)
    · cases h
  · rename_i e _ _ _ _ _ _ hs hd _ _
    obtain ⟨d1, i1, hd1, _, hk1, _⟩ := tt_at htt hs
    obtain ⟨d2, i2, hd2, _, hk2, _⟩ := tt_at htt hd
    obtain rfl := (fits_of hk1).2.2.2.1 _ rfl
    obtain rfl := (fits_of hk2).2.2.1 rfl
    exact abytesToStr_sound htt hH hd1 hd2 hx h
  · cases h

end
end Go.Av
