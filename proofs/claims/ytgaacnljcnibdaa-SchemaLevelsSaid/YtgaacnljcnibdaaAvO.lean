/-
  The abstract step is sound: append. Over every program.
-/
import Derived.Test.YtgaacnljcnibdaaAvN
set_option linter.unusedVariables false
set_option linter.unusedSimpArgs false
noncomputable section
namespace Go.Av

section
variable {P : Program} {tt : TT} {ι : Inj} {w : World} {H : Heap} {m : Nat}

theorem sub_del [Syms] (H : Heap) (n : Nat) : (H.set n none).sub H := by
  intro k b h
  rw [Heap.get_set] at h
  split at h
  · cases h
  · exact h
theorem sub_self [Syms] (H : Heap) : H.sub H := Heap.sub_refl H

theorem rows_flat_len {size : Nat} : ∀ {rows : List (List AVal)}, (∀ r ∈ rows, r.length = size) → rows.flatten.length = rows.length * size
  | [], _ => by simp
  | r :: rs, h => by
    simp only [List.flatten_cons, List.length_append, List.length_cons, Nat.add_mul, Nat.one_mul]
    rw [rows_flat_len (fun x hx => h x (by simp [hx])), h r (by simp)]
    omega

/-- What has grown lies in a new block. -/
theorem grown_out [Syms] {H0 : Heap} (hH : RelH ι H w) (hs : H0.sub H) (hl : Lies ι w) (hm : ι m = none) {rows : List (List AVal)} {us : List Value} {zs : Array Value} {e : TypeId} {size need newCap : Nat}
    (hr : RelL ι rows.flatten us) (hls : ∀ r ∈ rows, r.length = size) (ho : ∀ u ∈ us, u.oneCell' = true) (hn : rows.length = need) (hc : need ≤ newCap) (hcm : newCap ≤ maxLen) (hz : zs.size = (newCap - need) * size) :
    ∃ κ, RelV κ (.slice m 0 need size none) (.slice (some ⟨w.heap.size, 0, none⟩) need newCap) ∧ RelH κ (H0.set m (some (.cells rows false))) { w with drawn := w.drawn + 1, heap := w.heap.push (.cells (us.toArray ++ zs) e) } ∧
      Step ι H w κ (H0.set m (some (.cells rows false))) { w with drawn := w.drawn + 1, heap := w.heap.push (.cells (us.toArray ++ zs) e) } ∧
      ∀ n L, κ n = some L → ι n = some L ∨ (n = m ∧ L.g < w.heap.size + 1) := by
  have hul : us.length = need * size := by rw [← hr.1, rows_flat_len hls, hn]
  have hsz : (us.toArray ++ zs).size = newCap * size := by
    simp only [Array.size_append, List.size_toArray, hul, hz, ← Nat.add_mul]
    congr 1
    omega
  obtain ⟨h1, h2⟩ := new_block (w' := { w with drawn := w.drawn + 1, heap := w.heap.push (.cells (us.toArray ++ zs) e) }) (L := ⟨w.heap.size, 0, size, (us.toArray ++ zs).size⟩) (hH.sub hs) hl hm rfl rfl rfl rfl rfl
    (relb_new (hr.mono (Inj.le_put _ hm)) hls ho (by simp) rfl)
  refine ⟨_, .slice m 0 need size none _ _ newCap (Inj.put_same _ _ _) rfl (.inr (by simp)) hc (by simp only [Nat.zero_add, hsz]; exact Nat.le_refl _) hcm (fun k hk => by cases hk), h1, ((Step.refl ι H w).sub_right hs).trans h2, fun n L hn => ?_⟩
  by_cases e : n = m
  · subst e
    rw [Inj.put_same] at hn
    cases hn
    exact .inr ⟨rfl, by simp⟩
  · rw [Inj.put_ne _ _ e] at hn
    exact .inl hn

theorem Out.of_run [Syms] {r : Res} {v : Value} {w' : World} {κ : Inj} {X : Sem Value} (hrun : X.run P w = .ok v w') (h1 : RelV κ r.v v) (h2 : RelH κ (r.heap H m) w') (h3 : Step ι H w κ (r.heap H m) w')
    (h4 : ∀ n L, κ n = some L → ι n = some L ∨ (n = m ∧ L.g < w'.heap.size)) (h5 : r.isVal = false := by rfl) : Out ι H w m r ((do let v ← X; pure (.value v) : Sem Next).run P w) :=
  ⟨v, w', κ, .inl (by simp only [Sem.run_bind, hrun, Result.andThen_ok, Sem.run_pure]), h1, h2, h3, h4, fun h => by rw [h5] at h; cases h⟩

theorem grown_cap {w : World} {need old : Nat} {e : TypeId} (h : need ≤ 140737488355328) : need ≤ grownCap w need old e ∧ grownCap w need old e ≤ maxLen :=
  ⟨grownCap_ge w need old e, grownCap_le_maxLen w need old e (by simp only [maxLen]; omega)⟩

theorem zeros_size {z : Value} {size k : Nat} (h : z.cells.size = size) : (Builtin.zeroCells z.cells k).size = k * size := by rw [size_zeroCells, h]

theorem aappend_sound [Syms] (htt : TT.ok P tt) (hH : RelH ι H w) (hl : Lies ι w) (hm : ι m = none) {argTypes : Array TypeId} {ty : TypeId} {s x : AVal} {vs vx : Value} {r : Res} (hs : RelV ι s vs) (hx : RelV ι x vx)
    (h : aappend tt H m argTypes s x = some r) : Out ι H w m r ((do let v ← Builtin.append_ argTypes ty #[vs, vx]; pure (.value v) : Sem Next).run P w) := by
  unfold aappend at h
  split at h
  rotate_left
  · cases h
  rename_i t ha0
  split at h
  rotate_left
  · cases h
  rename_i e _ _ _ hty
  split at h
  rotate_left
  · cases h
  rename_i ety xty hety hxty
  split at h
  rotate_left
  · cases h
  rename_i hkind
  split at h
  rotate_left
  · cases h
  rename_i news hnews
  split at h
  rotate_left
  · cases h
  rename_i hc
  obtain ⟨c1, c2, c3, c4⟩ := hc
  obtain ⟨d, i0, hd, hi0, hk, _⟩ := tt_at htt hty
  obtain rfl := (fits_of hk).2.2.2.1 _ rfl
  obtain ⟨ed, ei, hed, hei, hek, hes, heb, hez, _⟩ := tt_at htt hety
  obtain ⟨z, hz1, hz2⟩ := hez.resolve_right (fun e => by rw [e] at c4; simp [AVal.cells, allLeaf, AVal.leaf] at c4)
  have hzs : z.cells.size = ety.size := by
    have := (valFits_cells hz2 c4 ι).1.1
    simp at this; omega
  obtain ⟨xt, hxt, hxt2⟩ := Option.bind_eq_some_iff.1 hxty
  obtain ⟨xd, xi, hxd, _, hxk, _⟩ := tt_at htt hxt2
  have A : App P argTypes t e xt ei z := ⟨ha0, hxt, hd, by
    cases hkd : xty.kd <;> rw [hkd] at hkind hxk <;> simp [seqKd] at hkind
    · cases xd <;> simp [Kd.fits] at hxk; exact .inr hxd
    · cases xd <;> simp [Kd.fits] at hxk; exact .inl ⟨_, hxd⟩, hei, hz1⟩
  have hls : ∀ r ∈ news, r.length = ety.size := fun r hr => Nat.eq_of_beq_eq_true (List.all_eq_true.1 c1 r hr)
  obtain ⟨us, n1, n2, n3, n4, n5⟩ := news_cells (P := P) hH hx hnews hls
  obtain ⟨us', n1', n2', n3', n4', n5'⟩ := news_cells (P := P) (w := w.drew) hH.drew hx hnews hls
  have hsing : Result.andThen (Result.ok vs w) (fun (v : Value) w' => Result.ok (Next.value v) w') = Result.ok (.value vs) w := rfl
  rw [← hes] at n2 n2'
  cases s with
  | zs sz =>
    obtain ⟨a, rfl⟩ := hs.of_zs
    simp only at h
    split at h
    · rename_i h0
      cases h
      refine Out.val (v := .slice a 0 0) hH ?_ (.zs _ _)
      have hus : us = [] := List.eq_nil_of_length_eq_zero (by rw [n4, h0, Nat.zero_mul])
      rw [h0] at n1 n2
      have := append_room (P := P) (ty := ty) (base := a) (sLen := 0) (sCap := 0) (w' := w) A n1 n2 (Nat.le_refl _) (fun a ha => by rw [hus]; rfl) (fun _ => rfl)
      simp only [Sem.run_bind, this, Result.andThen_ok, Sem.run_pure, Nat.add_zero]
    · rename_i h0
      split at h
      · rename_i hb
        cases h
        obtain ⟨g1, g2⟩ := grown_cap (w := w) (need := 0 + news.length) (old := 0) (e := e) (by omega)
        have hold : (Builtin.firstCells ei.size 0 (.slice a 0 0)).run P w.drew = .ok (#[] : Array Value) w.drew := by
          cases a with
          | none => simp [Builtin.firstCells]
          | some a => exact run_firstCells_some (P := P) w.drew _ 0 a 0 0 [] (by simp) (by simp)
        have hrun := append_grow (P := P) (ty := ty) (base := a) (sLen := 0) (sCap := 0) (olds := []) A n1 hold n2' (by omega) (by rw [Nat.zero_add, heb]; exact hb.1) (by omega)
        obtain ⟨κ, k1, k2, k3, k4⟩ := grown_out (e := e) (zs := Builtin.zeroCells z.cells (grownCap w (0 + news.length) 0 e - (0 + news.length))) hH (sub_self H) hl hm n3' hls n5' (need := 0 + news.length) (by omega) g1 g2 (zeros_size hzs)
        refine Out.of_run hrun (κ := κ) ?_ ?_ ?_ ?_
        · simpa [Res.v] using k1
        · simpa [Res.heap] using k2
        · simpa [Res.heap] using k3
        · simpa using k4
      · cases h
  | nils =>
    cases hs
    simp only at h
    split at h
    · rename_i h0
      cases h
      refine Out.val (v := .slice none 0 0) hH ?_ .nils
      rw [h0] at n1 n2
      have := append_room (P := P) (ty := ty) (base := none) (sLen := 0) (sCap := 0) (w' := w) A n1 n2 (Nat.le_refl _) (fun a ha => by cases ha) (fun _ => rfl)
      simp only [Sem.run_bind, this, Result.andThen_ok, Sem.run_pure, Nat.add_zero]
    · rename_i h0
      split at h
      · rename_i hb
        cases h
        obtain ⟨g1, g2⟩ := grown_cap (w := w) (need := 0 + news.length) (old := 0) (e := e) (by omega)
        have hrun := append_grow (P := P) (ty := ty) (base := none) (sLen := 0) (sCap := 0) (olds := []) A n1 (by simp [Builtin.firstCells]) n2' (by omega) (by rw [Nat.zero_add, heb]; exact hb.1) (by omega)
        obtain ⟨κ, k1, k2, k3, k4⟩ := grown_out (e := e) (zs := Builtin.zeroCells z.cells (grownCap w (0 + news.length) 0 e - (0 + news.length))) hH (sub_self H) hl hm n3' hls n5' (need := 0 + news.length) (by omega) g1 g2 (zeros_size hzs)
        refine Out.of_run hrun (κ := κ) ?_ ?_ ?_ ?_
        · simpa [Res.v] using k1
        · simpa [Res.heap] using k2
        · simpa [Res.heap] using k3
        · simpa using k4
      · cases h
  | slice n off len sz cap =>
    simp only at h
    split at h
    rotate_left
    · cases h
    rename_i hb
    obtain ⟨b1, b2, b3⟩ := hb
    split at h
    · rename_i h0
      cases h
      obtain ⟨L, a, c, hL, hs', ha, hl', hp, hmm, hcap, rfl⟩ := hs.of_slice
      refine Out.val (v := .slice (some a) len c) hH ?_ hs
      rw [h0] at n1 n2 n4
      have hus : us = [] := List.eq_nil_of_length_eq_zero (by simpa using n4)
      subst hus
      have := append_room (P := P) (ty := ty) (base := some a) (sLen := len) (sCap := c) (w' := w) A n1 n2 hl' (fun a ha => by simp [storeCells]) (fun h => by cases h)
      simp only [Sem.run_bind, this, Result.andThen_ok, Sem.run_pure, Nat.add_zero]
    · rename_i h0
      split at h
      rotate_left
      · cases h
      rename_i olds holds
      obtain ⟨L, a, c, hL, hsz, ha, hlc, hp, hmm, hcap, rfl⟩ := hs.of_slice
      obtain ⟨o1, o2, a', c', uo, he, o3, o4, o5, o6⟩ := slice_cells hH hs holds
      obtain ⟨_, _, a'', c'', uo', he', o3', o4', o5', o6'⟩ := slice_cells (w := w.drew) hH.drew hs holds
      cases he
      cases he'
      have hold : (Builtin.firstCells ei.size len (.slice (some a) len c)).run P w.drew = .ok uo'.toArray w.drew :=
        run_firstCells_some (P := P) w.drew ei.size len a len c uo' (by rw [o4', hes, b1]) o6'
      have hrows : ∀ r ∈ olds ++ news, r.length = ety.size := by
        intro r hr
        rcases List.mem_append.1 hr with hr | hr
        · rw [← b1]; exact o2 r hr
        · exact hls r hr
      have hflat : RelL ι (olds ++ news).flatten (uo' ++ us') := by rw [List.flatten_append]; exact o3'.append n3'
      have hone : ∀ u ∈ uo' ++ us', u.oneCell' = true := by
        intro u hu
        rcases List.mem_append.1 hu with hu | hu
        · exact o5' u hu
        · exact n5' u hu
      have hnl : (olds ++ news).length = len + news.length := by simp [o1]
      -- it grows
      have grow : ∀ H0 : Heap, H0.sub H → c < len + news.length → ∃ v w' κ, (Builtin.append_ argTypes ty #[.slice (some a) len c, vx]).run P w = .ok v w' ∧ RelV κ (.slice m 0 (len + news.length) sz none) v ∧
          RelH κ (H0.set m (some (.cells (olds ++ news) false))) w' ∧ Step ι H w κ (H0.set m (some (.cells (olds ++ news) false))) w' ∧ ∀ n L, κ n = some L → ι n = some L ∨ (n = m ∧ L.g < w'.heap.size) := by
        intro H0 hsub hlt
        obtain ⟨g1, g2⟩ := grown_cap (w := w) (need := len + news.length) (old := c) (e := e) b3
        have hrun := append_grow (P := P) (ty := ty) (base := some a) (sLen := len) (sCap := c) A n1 hold n2' hlt (by rw [heb]; exact b2) b3
        obtain ⟨κ, k1, k2, k3, k4⟩ := grown_out (e := e) (zs := Builtin.zeroCells z.cells (grownCap w (len + news.length) c e - (len + news.length))) hH hsub hl hm hflat hrows hone hnl g1 g2 (zeros_size hzs)
        rw [← b1] at k1
        refine ⟨_, _, κ, hrun, k1, ?_, ?_, ?_⟩
        · simpa using k2
        · simpa using k3
        · simpa using k4
      -- there is room
      have room : ∀ rows : List (List AVal), H.get n = some (.cells rows false) → len + news.length ≤ c → ∃ (cs cs' : Array Value) (e' : TypeId) (fz : Nat × Nat) (w' : World),
          (Builtin.append_ argTypes ty #[.slice (some a) len c, vx]).run P w = .ok (.slice (some a) (len + news.length) c) w' ∧ w' = w.setRow L.g cs' ∧ w.heap[L.g]? = some (.cells cs e' fz) ∧ w'.heap[L.g]? = some (.cells cs' e' fz) ∧ cs.size = L.phys ∧
          cs'.size = cs.size ∧ RowsAt ι cs L.base L.size rows ∧ L.base + rows.length * L.size ≤ L.phys ∧ (∀ o, o < L.phys → w'.frozen? ⟨L.g, o, none⟩ = false) ∧
          (∀ q, q < L.base + (off + len) * L.size ∨ L.base + (off + len + news.length) * L.size ≤ q → cs'[q]? = cs[q]?) ∧ RowsAt ι cs' (L.base + (off + len) * L.size) L.size news ∧ a = ⟨L.g, L.base + off * L.size, none⟩ := by
        intro rows hb hroom
        obtain ⟨L', hL', hB⟩ := hH.blk n _ hb
        obtain rfl : L = L' := by rw [hL] at hL'; exact Option.some.inj hL'
        obtain ⟨cs, e', fz, h1, h2, h3, h4, h5⟩ := hB.rows
        have hae := ha.resolve_left (by omega)
        have hf := h5 rfl
        have hul : us.length = news.length * L.size := by rw [n4, hsz, b1]
        have hmul : (off + len + news.length) * L.size ≤ (off + c) * L.size := Nat.mul_le_mul_right _ (by omega)
        have hfit : L.base + (off + len) * L.size + us.length ≤ cs.size := by
          rw [hul, h2]
          rw [Nat.add_mul (off + len)] at hmul
          omega
        have hst := run_storeCells_fz (P := P) L.g (L.base + (off + len) * L.size) e' fz us 0 cs w h1 (fun q hq => hf q (by omega)) (by omega) n5
        simp only [Nat.add_zero] at hst
        have hg' := setRow_heap w L.g cs (cs.toList.take (L.base + (off + len) * L.size) ++ us ++ cs.toList.drop (L.base + (off + len) * L.size + us.length)).toArray e' fz h1
        have hget := seg_get cs.toList (L.base + (off + len) * L.size) us (by simpa using hfit)
        refine ⟨cs, _, e', fz, _, append_room (P := P) (ty := ty) (base := some a) A n1 n2 hroom (fun a2 ha2 => ?_) (fun h => by cases h), rfl, h1, hg', h2, ?_, h4, h3, ?_, ?_, ?_, hae⟩
        · cases ha2
          rw [hae, addr_add, hes, ← b1, ← hsz, Nat.add_assoc, ← Nat.add_mul]
          exact hst
        · simp; omega
        · intro o ho
          have := hf o ho
          rw [frozen_row h1] at this
          rw [frozen_row hg']; exact this
        · intro q hq
          have hadd : (off + len + news.length) * L.size = (off + len) * L.size + us.length := by rw [Nat.add_mul, hul]
          rw [List.getElem?_toArray, hget, if_neg (by omega), Array.getElem?_toList]
        · refine RowsAt.of_flat (fun r hr => by rw [hsz, b1]; exact hls r hr) n3 (fun i u hu => ⟨?_, n5 u (List.mem_of_getElem? hu)⟩)
          have hi : i < us.length := (List.getElem?_eq_some_iff.1 hu).1
          rw [List.getElem?_toArray, hget, if_pos (by omega), ← hu]
          congr 1
          omega
      cases cap with
      | some c0 =>
        obtain rfl := hcap c0 rfl
        simp only at h
        split at h
        · rename_i hlt
          cases h
          obtain ⟨v, w', κ, hrun, k1, k2, k3, k4⟩ := grow H (sub_self H) hlt
          exact Out.of_run hrun k1 k2 k3 k4
        · rename_i hge
          split at h
          rotate_left
          · cases h
          rename_i rows hb
          split at h
          rotate_left
          · cases h
          rename_i hfit
          cases h
          obtain ⟨cs, cs', e', fz, w', hrun, rfl, h1, h2, h3, h4, h5, h6, h7, h8, h9, h10⟩ := room rows hb (by omega)
          have hrb : RelB ι (w.setRow L.g cs') L (.cells (rows.take (off + len) ++ news ++ rows.drop (off + len + news.length)) false) := by
            refine RelB.mk h2 (by omega) ?_ ?_ (fun _ => h7)
            · have : (rows.take (off + len) ++ news ++ rows.drop (off + len + news.length)).length = rows.length := by simp; omega
              rw [this]; exact h6
            · have t1 : (rows.take (off + len)).length = off + len := by simp; omega
              refine RowsAt.append (RowsAt.append ?_ ?_) ?_
              · refine (h5.take _).keep (fun i _ hi => h8 i (.inl ?_))
                rw [t1] at hi; exact hi
              · rw [t1]; exact h9
              · rw [List.length_append, t1]
                refine (h5.drop _).keep (fun i hi _ => h8 i (.inr hi))
          obtain ⟨s1, s2⟩ := set_block (w' := w.setRow L.g cs') hH hb rfl hL (by simp) (fun g hg => setRow_other w L.g g _ hg) rfl rfl rfl hrb rfl
          exact Out.of_run hrun (κ := ι) (.slice n off (len + news.length) sz (some c) L a c hL hsz ha (by omega) hp hmm (fun k hk => by cases hk; rfl)) s1 s2 (fun _ _ h => .inl h)
      | none =>
        simp only at h
        split at h
        rotate_left
        · cases h
        rename_i rows hb
        cases h
        by_cases hlt : c < len + news.length
        · obtain ⟨v, w', κ, hrun, k1, k2, k3, k4⟩ := grow (H.set n none) (sub_del H n) hlt
          exact Out.of_run hrun k1 k2 k3 k4
        · obtain ⟨cs, cs', e', fz, w', hrun, rfl, h1, h2, h3, h4, h5, h6, h7, h8, h9, h10⟩ := room rows hb (by omega)
          have holds' : olds = (rows.drop off).take len ∧ off + len ≤ rows.length := by
            simp only [sliceRows, hb] at holds
            split at holds
            · rename_i hle; cases holds; exact ⟨rfl, hle⟩
            · cases holds
          have hmul : (off + len + news.length) * L.size ≤ (off + c) * L.size := Nat.mul_le_mul_right _ (by omega)
          have hrb : RelB (ι.put m ⟨L.g, L.base + off * L.size, L.size, L.phys⟩) (w.setRow L.g cs') ⟨L.g, L.base + off * L.size, L.size, L.phys⟩ (.cells (olds ++ news) false) := by
            refine RelB.mk h2 (by simp only; omega) ?_ ?_ (fun _ => h7)
            · simp only [hnl]
              have : off * L.size + (len + news.length) * L.size = (off + len + news.length) * L.size := by rw [← Nat.add_mul]; congr 1; omega
              omega
            · refine (RowsAt.append ?_ ?_).mono (Inj.le_put _ hm)
              · rw [holds'.1]
                refine ((h5.drop off).take len).keep (fun i _ hi => h8 i (.inl ?_))
                have : ((rows.drop off).take len).length = len := by simp; omega
                rw [this] at hi
                have : off * L.size + len * L.size = (off + len) * L.size := by rw [← Nat.add_mul]
                omega
              · rw [o1]
                have : L.base + off * L.size + len * L.size = L.base + (off + len) * L.size := by rw [Nat.add_mul]; omega
                simp only [this]
                exact h9
          obtain ⟨s1, s2⟩ := move_block (w' := w.setRow L.g cs') (M := ⟨L.g, L.base + off * L.size, L.size, L.phys⟩) hH hb rfl hL hm rfl (by simp) (fun g hg => setRow_other w L.g g _ hg) rfl rfl rfl hrb
          refine Out.of_run hrun (κ := ι.put m ⟨L.g, L.base + off * L.size, L.size, L.phys⟩) ?_ s1 s2 (fun k M hk => ?_)
          · refine .slice m 0 (len + news.length) sz none _ a c (Inj.put_same _ _ _) hsz (.inr (by rw [h10]; simp)) (by omega) ?_ hmm (fun k hk => by cases hk)
            simp only [Nat.zero_add]
            rw [Nat.add_mul] at hp
            omega
          · by_cases ek : k = m
            · rw [ek, Inj.put_same] at hk
              cases hk
              exact .inr ⟨ek, by simpa using hl n L hL⟩
            · rw [Inj.put_ne _ _ ek] at hk
              exact .inl hk
  | _ => cases h

end
end Go.Av
