/-
  One operation, with what is not known: all kinds. Over every program.
-/
import Derived.Test.YtgaacnljcnibdaaSxA
set_option linter.unusedVariables false
set_option linter.unusedSimpArgs false
noncomputable section
namespace Go.Av

def isByteRow : List AVal → Bool
  | [.int .u8 _] => true
  | _ => false
/-- Bytes, out of rows of one byte each. -/
def bytesOf (rows : List (List AVal)) : List UInt8 := rows.map fun r => UInt8.ofNat (asI (r.getD 0 .any)).toNat
def areBytes (rows : List (List AVal)) : Bool := rows.all isByteRow
theorem bytesOf_eq : ∀ {rows : List (List AVal)}, areBytes rows = true → bytesOfRows rows = some (bytesOf rows)
  | [], _ => rfl
  | r :: rows, h => by
    simp only [areBytes, List.all_cons, Bool.and_eq_true] at h
    have ih := bytesOf_eq (rows := rows) h.2
    have h1 : byteOfRow r = some (UInt8.ofNat (asI (r.getD 0 .any)).toNat) := by
      have := h.1
      unfold isByteRow at this
      split at this
      · rfl
      · cases this
    simp only [bytesOfRows, h1, ih]
    rfl

def toStrT (H : Heap) (x : AVal) (K : AVal → Prop) : Prop :=
  match x with
  | .nils => K (.str [])
  | .slice n off len sz cap => sliceRowsT H (.slice n off len sz cap) fun rows _ => areBytes rows = true ∧ K (.str (bytesOf rows))
  | .vs _ rows => areBytes rows = true ∧ K (.str (bytesOf rows))
  | _ => False
def convT (tt : TT) (H : Heap) (m : Nat) (src dst : TypeId) (x : AVal) (K : Res → Prop) : Prop :=
  match tt src, tt dst, x with
  | some ⟨.string, _, _, _⟩, some ⟨.slice e, _, _, _⟩, .str s => match tt e with
    | some ⟨.int .u8, _, _, _⟩ => s.length ≤ 140737488355328 ∧ K (.new (.cells (s.map fun b => [.int .u8 b.toNat]) false) (.slice m 0 s.length 1 none))
    | _ => False
  | some ⟨.slice e, _, _, _⟩, some ⟨.string, _, _, _⟩, .vs z rows => match tt e with
    | some ⟨.int .u8, _, _, _⟩ => toStrT H (.vs z rows) fun v => K (.val v)
    | _ => False
  | some ⟨.slice e, _, _, _⟩, some ⟨.string, _, _, _⟩, .slice n off len sz cap => match tt e with
    | some ⟨.int .u8, _, _, _⟩ => toStrT H (.slice n off len sz cap) fun v => K (.val v)
    | _ => False
  | _, _, _ => match aconvert tt H m src dst x with
    | some r => K r
    | none => False
theorem convT_sound [Syms] {tt : TT} {H : Heap} {m : Nat} {src dst : TypeId} {x : AVal} {K : Res → Prop} (h : convT tt H m src dst x K) : ∃ r, aconvert tt H m src dst x = some r ∧ K r := by
  unfold convT at h
  split at h
  · rename_i s h1 h2
    split at h
    · rename_i h3
      exact ⟨_, by simp only [aconvert, h1, h2, h3, if_pos h.1], h.2⟩
    · exact h.elim
  · rename_i z rows h1 h2
    split at h
    · rename_i h3
      simp only [toStrT] at h
      exact ⟨_, by simp only [aconvert, h1, h2, abytesToStr, h3, bytesOf_eq h.1, Option.map_some], h.2⟩
    · exact h.elim
  · rename_i n off len sz cap h1 h2
    split at h
    · rename_i h3
      simp only [toStrT] at h
      obtain ⟨rows, hr, h4, h5⟩ := sliceRowsT_sound h
      exact ⟨_, by simp only [aconvert, h1, h2, abytesToStr, h3, hr, bytesOf_eq h4, Option.map_some], h5⟩
    · exact h.elim
  · split at h
    · rename_i r hr
      exact ⟨r, hr, h⟩
    · exact h.elim

/-- One way or the other. -/
def splitB (b : Bool) (p q : Prop) : Prop := (b = true → p) ∧ (b = false → q)
theorem splitB_true {p q : Prop} (h : splitB true p q) : p := h.1 rfl
theorem splitB_false {p q : Prop} (h : splitB false p q) : q := h.2 rfl

def nextT (H : Heap) (x : AVal) (K : Res → Prop) : Prop :=
  match x with
  | .obj n => match H.get n with
    | some (.iter s pos) => splitB (decide (pos < s.length)) (K (.upd (H.set n (some (.iter s (pos + (Utf8.decode ⟨⟨s⟩⟩ pos).2)))) (.tup [.bool true, .int .i64 pos, .int .i32 (Utf8.decode ⟨⟨s⟩⟩ pos).1])))
        (K (.val (.tup [.bool false])))
    | _ => False
  | _ => False
theorem nextT_sound [Syms] {H : Heap} {x : AVal} {K : Res → Prop} (h : nextT H x K) : ∃ r, anext H x = some r ∧ K r := by
  unfold nextT at h
  split at h
  · split at h
    · rename_i s pos hb
      by_cases hp : pos < s.length
      · rw [decide_eq_true hp] at h
        exact ⟨_, by simp only [anext, hb, if_pos hp], splitB_true h⟩
      · rw [decide_eq_false hp] at h
        exact ⟨_, by simp only [anext, hb, if_neg hp], splitB_false h⟩
    · exact h.elim
  · exact h.elim

def makeT (tt : TT) (m : Nat) (t : TypeId) (l c : AVal) (K : Res → Prop) : Prop :=
  match tt t, l, c with
  | some ⟨.slice e, _, _, _⟩, .int _ l, .int _ c => match tt e with
    | some ety =>
      bif Nat.blt 0 ety.size && Nat.beq ety.zero.cells.length ety.size && allLeaf ety.zero.cells then
        (0 ≤ l ∧ l ≤ c ∧ c * ety.bytes ≤ 281474976710656 ∧ c ≤ 281474976710656) ∧ K (.new (.cells (List.replicate c.toNat ety.zero.cells) false) (.slice m 0 l.toNat ety.size (some c.toNat)))
      else False
    | none => False
  | _, _, _ => False
theorem makeT_sound [Syms] {tt : TT} {m : Nat} {t : TypeId} {l c : AVal} {K : Res → Prop} (h : makeT tt m t l c K) : ∃ r, amakeSlice tt m t l c = some r ∧ K r := by
  unfold makeT at h
  split at h
  · rename_i hty
    split at h
    · rename_i ety hety
      cases hb : (Nat.blt 0 ety.size && Nat.beq ety.zero.cells.length ety.size && allLeaf ety.zero.cells) with
      | false => rw [hb] at h; exact h.elim
      | true =>
        rw [hb] at h
        simp only [cond_true] at h
        simp only [Bool.and_eq_true, Nat.blt_eq] at hb
        obtain ⟨⟨b1, b2⟩, b3⟩ := hb
        exact ⟨_, by simp only [amakeSlice, hty, hety, if_pos (And.intro b1 (And.intro (Nat.eq_of_beq_eq_true b2) (And.intro b3 h.1)))], h.2⟩
    · exact h.elim
  · exact h.elim

def opT (tt : TT) (ρ : Operand → AVal) (H : Heap) (m : Nat) (op : Op) (K : Res → Prop) : Prop :=
  match op with
  | .load t x => loadT tt H t (ρ x) fun v => K (.val v)
  | .store t x v => storeT tt H t (ρ x) (ρ v) K
  | .binOp op t x y _ =>
    match ρ x, ρ y with
    | .agg xs, .agg ys => match op with
      | .eql => match aggEq tt t xs ys with
        | some b => K (.val (.bool b))
        | none => False
      | .neq => match aggEq tt t xs ys with
        | some b => K (.val (.bool !b))
        | none => False
      | _ => False
    | a, b => binT tt op t a b fun v => K (.val v)
  | .slice t x lo hi mx => match ρ x with
    | .vt sz n f => sliceVt tt t sz n f (lo.map ρ) (hi.map ρ) (mx.map ρ) fun v => K (.val v)
    | x => sliceT tt t x (lo.map ρ) (hi.map ρ) (mx.map ρ) fun v => K (.val v)
  | .indexAddr t x ix => match ρ x with
    | .vt sz n f => idxVt tt t sz n f (ρ ix) fun v => K (.val v)
    | x => idxAddrT tt t x (ρ ix) fun v => K (.val v)
  | .index t x ix => indexT tt t (ρ x) (ρ ix) fun v => K (.val v)
  | .makeSlice t l c => makeT tt m t (ρ l) (ρ c) K
  | .convert src dst x => match ρ x with
    | .vt sz n f => convT tt H m src dst (.vs sz (tabR n f)) K
    | x => convT tt H m src dst x K
  | .next it true => nextT H (ρ it) K
  | .call { callee := .builtin .append, args, argTypes } => match args.toList.map ρ with
    | [s, .vt sz n f] => appendT tt H m argTypes s.un (.vs sz (tabR n f)) K
    | [s, x] => appendT tt H m argTypes s x K
    | _ => False
  | .call { callee := .builtin .len, args, argTypes } => match args.toList.map ρ, (argTypes[0]?).bind tt with
    | [.vt sz n f], some ⟨.slice _, _, _, _⟩ => K (.val (.int .i64 n))
    | l, _ => match abuiltin tt H m .len argTypes l with
      | some r => K r
      | none => False
  | op => match aop tt ρ H m op with
    | some r => K r
    | none => False
theorem opT_sound [Syms] {tt : TT} {ρ : Operand → AVal} {H : Heap} {m : Nat} {op : Op} {K : Res → Prop} (h : opT tt ρ H m op K) : (∃ r, aop tt ρ H m op = some r ∧ K r) ∨ (∃ r' r, aop tt (fun x => (ρ x).un) H m op = some r' ∧ r'.sees r ∧ K r) := by
  unfold opT at h
  split at h
  · obtain ⟨v, h1, h2⟩ := loadT_sound h
    exact .inl ⟨_, by simp only [aop, h1, Option.map_some], h2⟩
  · obtain ⟨v, h1, h2⟩ := storeT_sound h
    exact .inl ⟨_, by simp only [aop, h1, Option.map_some], h2⟩
  · left
    split at h
    · rename_i xs ys hx hy
      split at h
      · split at h
        · rename_i b hb
          exact ⟨_, by simp only [aop, hx, hy, hb, Option.map_some], h⟩
        · exact h.elim
      · split at h
        · rename_i b hb
          exact ⟨_, by simp only [aop, hx, hy, hb, Option.map_some], h⟩
        · exact h.elim
      · exact h.elim
    · rename_i hno
      obtain ⟨v, h1, h2⟩ := binT_sound h
      refine ⟨_, ?_, h2⟩
      unfold aop
      simp only [h1, Option.map_some]
      try (split
           · rename_i xs ys hx hy; exact absurd ⟨hx, hy⟩ (by intro hh; exact (hno xs ys hh.1 hh.2).elim)
           · rfl)
  · split at h
    · rename_i t y lo hi mx _ sz n f hx
      right
      obtain ⟨v', h1, v, h2, h3⟩ := sliceVt_sound h
      refine ⟨.val v', .val v, ?_, h2, h3⟩
      have e : ∀ y : Option Operand, y.map (fun x => (ρ x).un) = (y.map ρ).map AVal.un := fun y => by cases y <;> rfl
      have hs : ∀ lo hi mx : Option AVal, aslice tt t (.vs sz (tabR n f)) (lo.map AVal.un) (hi.map AVal.un) (mx.map AVal.un) = aslice tt t (.vs sz (tabR n f)) lo hi mx := by
        intro lo hi mx
        unfold aslice
        simp only [abound_un, Option.isNone_map, Option.isSome_map]
        cases mx with
        | none => rfl
        | some q =>
          cases tt t with
          | none => rfl
          | some ty =>
            obtain ⟨kd, a, b, z⟩ := ty
            cases kd <;> rfl
      simp only [aop, hx, un_vt, e, hs, h1, Option.map_some]
    · obtain ⟨v, h1, h2⟩ := sliceT_sound h
      exact .inl ⟨_, by simp only [aop, h1, Option.map_some], h2⟩
  · split at h
    · rename_i t x ix sz n f hx
      obtain ⟨h0, v, h1, h2⟩ := idxVt_sound h
      exact .inr ⟨.val v, .val v, by simp only [aop, hx, h0, un_vt, h1, Option.map_some], Res.sees_refl _, h2⟩
    · obtain ⟨v, h1, h2⟩ := idxAddrT_sound h
      exact .inl ⟨_, by simp only [aop, h1, Option.map_some], h2⟩
  · obtain ⟨v, h1, h2⟩ := indexT_sound h
    exact .inl ⟨_, by simp only [aop, h1, Option.map_some], h2⟩
  · exact .inl (makeT_sound h)
  · split at h
    · rename_i src dst x sz n f hx
      obtain ⟨r, h1, h2⟩ := convT_sound h
      exact .inr ⟨r, r, by simp only [aop, hx, un_vt, h1], Res.sees_refl _, h2⟩
    · exact .inl (convT_sound h)
  · exact .inl (nextT_sound h)
  · rename_i args argTypes
    split at h
    · rename_i s sz n f hx
      obtain ⟨r, h1, h2⟩ := appendT_sound h
      refine .inr ⟨r, r, ?_, Res.sees_refl _, h2⟩
      have e : args.toList.map (fun x => (ρ x).un) = (args.toList.map ρ).map AVal.un := by rw [List.map_map]; rfl
      simp only [aop, e, hx, List.map_cons, List.map_nil, un_vt, abuiltin]
      exact h1
    · rename_i s x hx hno
      obtain ⟨r, h1, h2⟩ := appendT_sound h
      exact .inl ⟨r, by simp only [aop, abuiltin, hno]; exact h1, h2⟩
    · exact h.elim
  · rename_i args argTypes
    split at h
    · rename_i sz n f _ _ _ _ hx hty
      refine .inr ⟨_, _, ?_, Res.sees_refl _, h⟩
      have e : args.toList.map (fun x => (ρ x).un) = (args.toList.map ρ).map AVal.un := by rw [List.map_map]; rfl
      simp only [aop, e, hx, List.map_cons, List.map_nil, un_vt, abuiltin, alen, hty, Option.map_some, tabR_length]
    · split at h
      · rename_i r hr
        exact .inl ⟨r, by simp only [aop]; exact hr, h⟩
      · exact h.elim
  · left
    split at h
    · rename_i r hr
      exact ⟨r, hr, h⟩
    · exact h.elim

end Go.Av
